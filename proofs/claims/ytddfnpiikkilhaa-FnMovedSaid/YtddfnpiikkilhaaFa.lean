/- Walks and laws of the claim. -/
import Derived.Test.YtddfnpiikkilhaaTy
import Derived.Test.YtddfnpiikkilhaaRows
import Derived.Test.YtddfnpiikkilhaaMb
import Derived.Test.YtddfnpiikkilhaaRows
import Derived.Test.YtddfnpiikkilhaaMe
set_option linter.unusedVariables false
set_option linter.unusedSimpArgs false
set_option maxRecDepth 10000
set_option maxHeartbeats 2000000
namespace Go.Proofs.Ytddfnpiikkilhaa
open Go.Eng
open Go.Eng
theorem BB (n lo hi : Int) : Fun Try.prog 77 [.t (.int n), .t (.int lo), .t (.int hi)] (A2 [.t (.bool (decide (lo ≤ n ∧ n ≤ hi)))]) := by
 refine Fun.begin tys Try.func77 Z Z (N := 15) [(0, .t (.int n)), (1, .t (.int lo)), (2, .t (.int hi))] Z Z (fun w0 G F0 => ?_);refine sG (eZ Z (nA (eK 4 Z ?_)));refine gB (fun h1 => ?_) (fun h1 => ?_)
 ·
  simp only [HS] at h1;refine xK 4 Z (kZ [6] Z (nB (rT (eR ?_))))
  ·(simp_all <;> omega)
 simp only [HS] at h1;refine xK 4 Z (kZ [6,14] Z (eZ Z (nB (rT (eR ?_)))))
 ·(simp_all <;> omega)
theorem Af (n lo hi : Int) : Fun Try.prog 37 [.t (.int n), .t (.int lo), .t (.int hi)] (A2 [.t (.bool (decide (lo ≤ n ∧ n ≤ hi)))]) := by
 refine Fun.begin tys Try.func37 Z Z (N := 15) [(0, .t (.int n)), (1, .t (.int lo)), (2, .t (.int hi))] Z Z (fun w0 G F0 => ?_);refine sG (eZ Z (nA (eK 4 Z ?_)));refine gB (fun h1 => ?_) (fun h1 => ?_)
 ·
  simp only [HS] at h1;refine xK 4 Z (kZ [6] Z (nB (rT (eR ?_))))
  ·(simp_all <;> omega)
 simp only [HS] at h1;refine xK 4 Z (kZ [6,14] Z (eZ Z (nB (rT (eR ?_)))))
 ·(simp_all <;> omega)
def B7 (l : List Int) (lo hi : Int) : Bool := l.all fun n => decide (lo ≤ n ∧ n ≤ hi)
theorem NH {l : List Int} {lo hi k : Int} (h0 : 0 ≤ k) (h1 : k < l.length) (h : B7 (l.take k.toNat) lo hi = true) (h2 : lo ≤ l[k.toNat]'(by omega) ∧ l[k.toNat]'(by omega) ≤ hi) : B7 (l.take (k + 1).toNat) lo hi = true := by
 rw [show (k + 1).toNat = k.toNat + 1 from by omega, List.take_add_one, List.getElem?_eq_getElem (by omega)];unfold B7 at *;rw [List.all_append, h]
 simpa using h2
theorem MP {l : List Int} {lo hi k : Int} (h0 : 0 ≤ k) (h1 : k < l.length) (h2 : ¬ (lo ≤ l[k.toNat]'(by omega) ∧ l[k.toNat]'(by omega) ≤ hi)) : B7 l lo hi = false := by
 unfold B7;rw [List.all_eq_false];exact ⟨l[k.toNat]'(by omega), Ss _, by simpa using h2⟩
theorem PO {l : List Int} {lo hi k : Int} (h : B7 (l.take k.toNat) lo hi = true) (h0 : 0 ≤ k) (h1 : (l.length : Int) ≤ k) : B7 l lo hi = true := by
 rwa [Sn (by omega)] at h
theorem Gn (l : List Int) (lo hi : Int) (hl : l.length ≤ 1073741824) : Fun Try.prog 56 [.t (T.ints l), .t (.int lo), .t (.int hi)] (A2 [.t (.bool (B7 l lo hi))]) := by
 refine Fun.begin tys Try.func56 Z Z (N := 21) [(0, .t (T.ints l)), (1, .t (.int lo)), (2, .t (.int hi))] Z Z (fun w0 G F0 => ?_);refine sG (eZ Z (nB (sQ (sG (eZ Z (evE ?_))))));refine eZ Z (nB (AD ?_));refine lK (α := Int) [9, 10, 1, 2] [] (fun x => [(11, .t (.int x))]) (fun x => []) (fun x => 0 ≤ x ∧ x ≤ l.length ∧ B7 (l.take x.toNat) lo hi = true) (fun x => Int.toNat (l.length - x)) 0 ?_ (fun k hx => ?_)
 ·refine ⟨?_, ?_, ?_⟩ <;> simp [B7]
 obtain ⟨hk0, hk1, hk2⟩ := hx
 refine nY Z (sG (eZ Z (nB (sQ ?_))));refine AB Z (fun h1 => ?_) (fun h1 => ?_)
 ·
  simp only [HS] at h1;refine AC (tN (sQ (AD (sG ?_))));refine iY (k := ?_);refine eK 2 Z (nA (eK 3 Z (AM ?_)));refine ⟨_, BB _ _ _, rfl, ?_⟩;refine eZ Z (kZ [1,2,8,9,10,11,12,13,14,15,16,17,18,19] Z (nB ?_));refine AB Z (fun h2 => ?_) (fun h2 => ?_)
  ·
   simp only [HS] at h2;refine sG (eZ Z (nB (rT (bR (tR (AP (bR (tR (eR ?_)))))))))
   ·rw [MP hk0 (by omega) (by simpa using h2)]
  simp only [HS] at h2;refine AC (bN (tN (rG (evI ?_))));refine eZ Z (oN ?_);refine lQ _ ?_ ?_
  ·skip
   exact ⟨by omega, by omega, NH hk0 (by omega) hk2 (by simpa using h2)⟩
  ·(show Int.toNat _ < Int.toNat _); omega
 simp only [HS] at h1;refine AN (tE (AJ (AI (tN (sG (eZ Z (nB (rT (eR ?_)))))))))
 ·rw [PO hk2 hk0 (by omega)]
open Go.Eng
theorem Cx {α : Type} {l : List α} {k : Int} (h0 : 0 ≤ k) (h1 : k < l.length) : l.drop k.toNat = l[k.toNat]'(by omega) :: l.drop (k + 1).toNat := by
 rw [show (k + 1).toNat = k.toNat + 1 from by omega];exact TX (by omega)
theorem BC {α : Type} {l : List α} {k : Int} (h1 : (l.length : Int) ≤ k) : l.drop k.toNat = [] := List.drop_of_length_le (by omega)
theorem Oy {α : Type} {xs : List T} {l : List α} {g : α → T} {k : Int} (h0 : 0 ≤ k) (h1 : k < l.length) (hl : xs.length = l.length) (h : xs.take k.toNat = (l.take k.toNat).map g) :
  (xs.set k.toNat (g (l[k.toNat]'(by omega)))).take (k + 1).toNat = (l.take (k + 1).toNat).map g := by
 rw [show (k + 1).toNat = k.toNat + 1 from by omega, List.take_add_one, List.take_add_one, List.getElem?_set_self (by omega), List.getElem?_eq_getElem (by omega)];simp only [Option.toList_some, S5, TA, List.map_nil, ← h];rw [List.take_set_of_le (S2 _)]
theorem Qz {α : Type} {xs : List T} {l : List α} {g : α → T} {k : Int} (h1 : (l.length : Int) ≤ k) (hl : xs.length = l.length) (h : xs.take k.toNat = (l.take k.toNat).map g) : xs = l.map g := by
 rwa [Sn (by omega), Sn (by omega)] at h
def at0 {α : Type} (d : α) (l : List α) (i : Int) : α := (l[i.toNat]?).getD d
theorem DU {α : Type} {d : α} {l : List α} {i : Int} (h0 : 0 ≤ i) (h1 : i < l.length) : at0 d l i = l[i.toNat]'(by omega) := by
 unfold at0; rw [List.getElem?_eq_getElem (by omega)]; rfl
def cnt (ll : List (List Int)) : Bool := decide ((ll.length : Int) ≤ 5) && ll.all fun l => decide ((l.length : Int) ≤ 300) && B7 l 0 1000000
def EI {α : Type} (p : α → Bool) : List α → Int → Int
 | [], _ => -1
 | x :: xs, k => if p x then k else EI p xs (k + 1)
theorem Et {α : Type} {p : α → Bool} : ∀ {l : List α} {k : Int}, 0 ≤ k → decide (0 ≤ EI p l k) = l.any p
 | [], _, _ => rfl
 | x :: l, k, h => by
  rw [EI, List.any_cons];cases hp : p x
  ·simpa using Et (l := l) (k := k + 1) (by omega)
  ·simpa using h
theorem Hn {α : Type} {p : α → Bool} {l : List α} {k : Int} (h0 : 0 ≤ k) (h1 : k < l.length) : EI p (l.drop k.toNat) k = if p (l[k.toNat]'(by omega)) then k else EI p (l.drop (k + 1).toNat) (k + 1) := by
 rw [Cx h0 h1, EI]
theorem Qm (l : List Int) (p : Int → Bool) (f : Nat) (caps : List D) (hcaps : caps.all D.imm = true) (hl : l.length ≤ 9223372036854775807) (hf : ∀ x, x ∈ l → Fun Try.prog f (.t (T.int x) :: caps) (.t (.bool (p x)))) : Fun Try.prog 93 [.t (T.ints l), .clo f caps] (A2 [.t (.int (EI p l 0))]) := by
 refine Fun.begin tys Try.func93 Z Z (N := 19) [(0, .t (T.ints l)), (1, .clo f caps)] Z Z (fun w0 G F0 => ?_);refine sG (eZ Z (nB (sQ (sG (eZ Z (evE ?_))))));refine eZ Z (nB (AD ?_));refine lK (α := Int) [0, 1, 7] [] (fun x => [(8, .t (.int x))]) (fun x => []) (fun x => 0 ≤ x ∧ x ≤ l.length ∧ EI p l 0 = EI p (l.drop x.toNat) x) (fun x => Int.toNat (l.length - x)) 0 ?_ (fun k hx => ?_)
 ·exact ⟨by omega, by omega, rfl⟩
 obtain ⟨hk0, hk1, hk2⟩ := hx
 refine nY Z (sG (eZ Z (nB (sQ ?_))));refine AB Z (fun h1 => ?_) (fun h1 => ?_)
 ·
  simp only [HS] at h1;refine AC (tN (sQ (AD (sG (eK 2 Z (nA (Dy tys Z Z (AA Z) Z Z (by assumption) ?_)))))));refine eK 2 Z ?_;refine iY (k := ?_);refine eZ Z ?_;refine CO Z Z (AA Z) Z Z (by repeat (first | exact ResL.done | exact ResL.imms (by first | rfl | assumption) | refine ResL.t ?_ | refine ResL.own ?_ | refine ResL.slA Z (by first | rfl | (simp; done) | (simp; omega)) ?_ | refine ResL.sl Z (by first | omega | (simp; done) | (simp; omega)) ?_ | refine ResL.rp ?_ | refine ResL.clo ?_ ?_ | refine ResL.aggT ?_ ?_ | refine ResL.ref Z ?_ ?_ | refine ResL.nil' ?_ | refine ResL.nil 1 ?_)) (hf _ (Ss _)) Z ?_;refine kZ [0,1,5,7,8,9,10,11,12,13,14,15,16] Z (nB ?_);refine AB Z (fun h2 => ?_) (fun h2 => ?_)
  ·
   refine sG (eK 2 Z (nB (rT (bR (tR (AP (bR (tR (eR ?_)))))))))
   ·rw [hk2, Hn hk0 h1]
    simp [h2]
    done
  refine AC (bN (tN (rG (evI ?_))));refine eZ Z (oN ?_);refine lQ _ ?_ ?_
  ·skip
   refine ⟨by omega, by omega, ?_⟩; rw [hk2, Hn hk0 h1]; simp [h2]
  ·(show Int.toNat _ < Int.toNat _); omega
 simp only [HS] at h1;refine AN (tE (AJ (AI (tN (sG (eZ Z (nB (rT (eR ?_)))))))))
 ·rw [hk2, BC h1]
  rfl
theorem Fz (l : List Int) (p : Int → Bool) (f : Nat) (caps : List D) (hcaps : caps.all D.imm = true) (hl : l.length ≤ 9223372036854775807) (hf : ∀ x, x ∈ l → Fun Try.prog f (.t (T.int x) :: caps) (.t (.bool (p x)))) : Fun Try.prog 62 [.t (T.ints l), .clo f caps] (A2 [.t (.bool (l.any p))]) := by
 refine Fun.begin tys Try.func62 Z Z (N := 9) [(0, .t (T.ints l)), (1, .clo f caps)] Z Z (fun w0 G F0 => ?_);refine sG (eZ Z (nA (eZ Z (Dy tys Z Z (AA Z) Z Z (by assumption) ?_))));refine CO Z Z (AA Z) Z Z (by repeat (first | exact ResL.done | exact ResL.imms (by first | rfl | assumption) | refine ResL.t ?_ | refine ResL.own ?_ | refine ResL.slA Z (by first | rfl | (simp; done) | (simp; omega)) ?_ | refine ResL.sl Z (by first | omega | (simp; done) | (simp; omega)) ?_ | refine ResL.rp ?_ | refine ResL.clo ?_ ?_ | refine ResL.aggT ?_ ?_ | refine ResL.ref Z ?_ ?_ | refine ResL.nil' ?_ | refine ResL.nil 1 ?_)) (Qm l p f caps hcaps hl hf) Z ?_;refine eK 2 Z (nB (rT (eR ?_)))
 ·rw [← Et (Tr 0)]
def hot1 (k : Int) : List Int → Int → Int × Int × Int → Int × Int × Int
 | [], _, s => s
 | n :: l, i, s => hot1 k l (i + 1) (if s.2.2 < n then (k, i, n) else s)
def hotGo : List (List Int) → Int → Int × Int × Int → Int × Int × Int
 | [], _, s => s
 | l :: ll, k, s => hotGo ll (k + 1) (hot1 k l 0 s)
def hot (ll : List (List Int)) : Int × Int × Int := if cnt ll then hotGo ll 0 (0, 0, 0) else (0, 0, 0)
open Go.ChangeShapes Go.WideShapes Go.ChangeAt Go.RowKit Go.Eng
theorem Try.own : ownKnob Try.prog.godebug = none := by kernel_rfl
theorem Try.laidOut : laidOutB Try.prog = true := by kernel_rfl
open Go.Eng
def okN {α : Type} (B : Nat) (l : List α) : Prop := l.length ≤ B
def okL {α : Type} (B : Nat) (ok : α → Prop) (l : List α) : Prop := l.length ≤ B ∧ ∀ x, x ∈ l → ok x
theorem BO {α : Type} {l : List α} {k : Int} (h0 : 0 ≤ k) (h1 : k < l.length) : l.take (k + 1).toNat = l.take k.toNat ++ [l[k.toNat]'(by omega)] := by
 rw [show (k + 1).toNat = k.toNat + 1 from by omega, List.take_add_one, List.getElem?_eq_getElem (by omega)];rfl
theorem A5 {α : Type} {l : List α} {k : Int} (h1 : (l.length : Int) ≤ k) : l.take k.toNat = l := Sn (by omega)
open Go.Eng
abbrev Cu := Int × Int
def Ct (cd : List Int) : Prop := cd.length ≤ 1048576 ∧ ∀ b, b ∈ cd → 0 ≤ b ∧ b ≤ 255
section
variable (cd : List Int)
def nxB (c : Cu) : Int := if c.1 < cd.length then at0 0 cd c.1 else 0
def nxC (c : Cu) : Cu := (c.1 + 1, IntKind.u64.wrap (IntKind.u64.wrap (IntKind.u64.wrap (c.2 * 6364136223846793005) + nxB cd c) + 1442695040888963407))
def nxH (s : Int) : Int := IntKind.i64.wrap (IntKind.u64.wrap ((BitVec.ofInt IntKind.u64.bits (s.fdiv (2 ^ min (40 : Int).toNat IntKind.u64.bits)) &&& BitVec.ofInt IntKind.u64.bits 255).toNat : Nat))
def nxV (c : Cu) : Int := if c.1 + 1 ≤ cd.length then nxB cd c else nxH (nxC cd c).2
def pickV (n : Int) (c : Cu) : Int := if n ≤ 1 then 0 else if 200 < n then (nxV cd c * 256 + nxV cd (nxC cd c)).tmod n else (nxV cd c).tmod n
def curC (n : Int) (c : Cu) : Cu := if n ≤ 1 then c else if 200 < n then nxC cd (nxC cd c) else nxC cd c
end
section
variable {cd : List Int} {c : Cu} {n : Int}
theorem nxH_in (s : Int) : 0 ≤ nxH s ∧ nxH s ≤ 255 := by
 have h : (BitVec.ofInt IntKind.u64.bits (s.fdiv (2 ^ min (40 : Int).toNat IntKind.u64.bits)) &&& BitVec.ofInt IntKind.u64.bits 255).toNat ≤ 255 := by
  rw [BitVec.toNat_and];exact TQ Nat.and_le_right (by decide)
 unfold nxH;generalize (BitVec.ofInt IntKind.u64.bits (s.fdiv (2 ^ min (40 : Int).toNat IntKind.u64.bits)) &&& BitVec.ofInt IntKind.u64.bits 255).toNat = m at h
 have e1 : IntKind.u64.wrap (m : Int) = m := by
  simp [IntKind.wrap, IntKind.bits, IntKind.signed]
  omega
 rw [e1]
 have e2 : IntKind.i64.wrap (m : Int) = m := E8 (by omega) (by omega)
 rw [e2];omega
theorem RU (hc : Ct cd) (h0 : 0 ≤ c.1) : 0 ≤ nxB cd c ∧ nxB cd c ≤ 255 := by
 unfold nxB;split
 ·rename_i h
  rw [DU h0 h];exact hc.2 _ (Ss _)
 ·omega
theorem Ls (hc : Ct cd) (h0 : 0 ≤ c.1) : 0 ≤ nxV cd c ∧ nxV cd c ≤ 255 := by
 unfold nxV;split
 ·exact RU hc h0
 ·exact nxH_in _
theorem AL : c.1 ≤ (curC cd n c).1 ∧ (curC cd n c).1 ≤ c.1 + 2 := by
 unfold curC nxC;split
 ·omega
 ·split <;> simp only <;> omega
theorem Aa (hc : Ct cd) (h0 : 0 ≤ c.1) : 0 ≤ pickV cd n c ∧ (1 ≤ n → pickV cd n c < n) ∧ pickV cd n c ≤ 65535 := by
 unfold pickV;split
 ·omega
 ·have h1 := Ls (c := c) hc h0
  have h2 := Ls (c := nxC cd c) hc (show 0 ≤ c.1 + 1 by omega)
  have key : ∀ z : Int, 0 ≤ z → z ≤ 65535 → 0 ≤ z.tmod n ∧ (1 ≤ n → z.tmod n < n) ∧ z.tmod n ≤ 65535 := fun z hz hz2 => by
   rw [Int.tmod_eq_emod_of_nonneg hz]
   have a := Int.emod_nonneg z (show n ≠ 0 by omega)
   have b := Int.emod_lt_of_pos z (show 0 < n by omega)
   have d : z % n ≤ z := by
    by_cases h : z < n
    ·rw [Int.emod_eq_of_lt hz h]; exact Tr _
    ·omega
   omega
  split
  ·exact key _ (by omega) (by omega)
  ·exact key _ (by omega) (by omega)
end
open Go.Eng
def T.bytes (l : List Int) : T := .list 1 (l.map fun n => .v (.int .u8 n))
abbrev cuC (pv : Value) (c : Cu) : List D := [.t (.v pv), .t (.v (.int .i64 c.1)), .t (.v (.int .u64 c.2))]
theorem u64_small {n : Int} (h0 : 0 ≤ n) (h1 : n ≤ 255) : IntKind.u64.wrap n = n := by
 simp [IntKind.wrap, IntKind.bits, IntKind.signed]; omega
theorem Oh {n : Int} (h0 : 0 ≤ n) (h1 : n ≤ 255) : IntKind.i64.wrap n = n := E8 (by omega) (by omega)
theorem Lu (cd : List Int) (c : Cu) (bw : Nat) (pv : Value) (hcd : Ct cd) (h0 : 0 ≤ c.1) (h1 : c.1 ≤ 1073741824) : Proc Try.prog 87 [.t (.v (.pointer (some ⟨bw, 0, none⟩)))] ([pv]) ([T.bytes cd]) [.obox (.pointer (some ⟨bw, 0, none⟩)) (cuC pv c)] (.t (.int (nxV cd c))) [.obox (.pointer (some ⟨bw, 0, none⟩)) (cuC pv (nxC cd c))] := by
 have hcl := hcd.1
 have hB := RU hcd h0
 refine Proc.intro tys Try.func87 Z Z (N := 62) [100] 99 ([(0, .t (.v (.pointer (some ⟨bw, 0, none⟩))))]) ([(100, .obox (.pointer (some ⟨bw, 0, none⟩)) (cuC pv c)), (99, .ro [pv] [T.bytes cd])]) Z Z Z Z (by decide) (by decide) Z (fun w0 G F0 => ?_);refine nY Z (AQ (Le.openNew (u := 100) 1100 Z Z Z Z Z) (nY Z (AQ (Le.named (t := 0) (u := 100) 1100 Z Z) (nY Z (sG (eZ Z (nA (eZ Z (nB (sQ (sQ (Aj BE (by kernel_rfl) (evQ ?_)))))))))))));refine BI rfl Z (AA Z) Z Z Z (evQ ?_);refine evQ ?_;refine AR Z (evQ ?_);refine BI rfl Z (AA Z) Z Z Z (evQ ?_);refine DG tys 99 0 Z Z (AA Z) Z Z Z Z (evEQ ?_);refine evQ ?_;refine AR Z (A7 (tN ?_));refine A4 (α := Int) [0, 2] [100, 99, 1100] (fun x => [(3, .t (.int x))]) (fun x => []) (fun x => x = nxB cd c) ?_ (fun b hx => ?_)
 ·
  refine AB Z (fun h1 => ?_) (fun h1 => ?_)
  ·
   simp only [HS] at h1;refine Aj BE (by kernel_rfl) (evQ ?_);refine BI rfl Z (AA Z) Z Z Z (evQ ?_);refine DG tys 99 0 Z Z (AA Z) Z Z Z Z (evQ ?_);refine BI rfl Z (AA Z) Z Z Z (AR Z (evQ ?_));refine evQ ?_;refine A9 tys Z Z (AA Z) Z Z Z Z Z Z Z h0 _ (EK _ _ h0 (by simp_all)) ?_;refine evQ ?_
   have hlt : c.1 < cd.length := by simp_all
   have hbe : nxB cd c = cd[c.1.toNat]'(by omega) := by rw [nxB, if_pos hlt, DU h0 hlt]
   refine Pj (td := .int .u8) (k := .i64) (m := nxB cd c) Z Z (AA Z) Z (by kernel_rfl) (by kernel_rfl) Z (by rw [← hbe]; exact Oh hB.1 hB.2) ?_;refine evQ ?_;refine AR Z (A7 (jQ _ ?_));dsimp only
   all_goals first | rfl | (unfold nxB; rw [if_neg (by simp_all)])
  simp only [HS] at h1;refine AC (jQ _ ?_)
  all_goals first | rfl | (unfold nxB; rw [if_neg (by simp_all)])
 have hb := hx
 refine tN (sQ (kY [0,2,3] Z (rG (eZ Z (AK rfl Z (AA Z) Z Z Z (eK 2 Z (evI ?_)))))));refine AK rfl Z (AA Z) Z Z Z (eZ Z (sT Z (nZ Z (nB (sQ (kY [0,2,3] Z (rG (eK 2 Z (AK rfl Z (AA Z) Z Z Z (eK 2 Z (G7 Z Z (AA Z) Z Z Z binMul Z (eZ Z (KP (td := .int .i64) (k := .u64) (m := b) Z Z (AA Z) Z (by kernel_rfl) (by kernel_rfl) Z (by subst hb; exact u64_small hB.1 hB.2) ?_)))))))))))));refine G7 Z Z (AA Z) Z Z Z Rh Z (kZ [0,2,3,32,40] Z (G7 Z Z (AA Z) Z Z Z Rh Z (AK rfl Z (AA Z) Z Z Z (eZ Z (sT Z (nZ Z (nB (sQ (sQ (Aj BE (by kernel_rfl) (evQ ?_)))))))))));refine BI rfl Z (AA Z) Z Z Z (AR Z (evQ ?_));refine evQ ?_;refine evQ ?_;refine BI rfl Z (AA Z) Z Z Z (evQ ?_);refine DG tys 99 0 Z Z (AA Z) Z Z Z Z (AR Z (evEQ ?_));refine evQ ?_;refine A7 (tN ?_);refine AB Z (fun h1 => ?_) (fun h1 => ?_)
 ·
  simp only [HS] at h1;refine sG (eK 2 Z (nB (AQ (Le.close (u := 100) 1100 Z Z Z) (nY Z (rT (tR ?_))))));refine eP [_] ?_ ?_
  ·subst hb
   first
   | (rw [nxV, if_pos (by simp_all)]; rfl)
  ·subst hb
   rfl
 simp only [HS] at h1;refine AC (tN (sG (eZ Z (AK rfl Z (AA Z) Z Z Z (eK 2 Z (G7 Z Z (AA Z) Z Z Z (binShr (by decide)) Z (G7 Z Z (AA Z) Z Z Z binAnd Z (WO_conv (td := .int .u64) (k := .i64) Z Z (AA Z) Z (by kernel_rfl) (by kernel_rfl) Z (kZ [2,61] Z (eZ Z (nB (AQ (Le.close (u := 100) 1100 Z Z Z) (nY Z (rT ?_))))))))))))));refine eP [_] ?_ ?_
 ·subst hb
  first
  | (rw [nxV, if_neg (by simp_all)]; rfl)
 ·subst hb
  rfl
theorem AY (cd : List Int) (n : Int) (c : Cu) (bw : Nat) (pv : Value) (hcd : Ct cd) (h0 : 0 ≤ c.1) (h1 : c.1 ≤ 536870912) : Proc Try.prog 54 [.t (.v (.pointer (some ⟨bw, 0, none⟩))), .t (.int n)] ([pv]) ([T.bytes cd]) [.obox (.pointer (some ⟨bw, 0, none⟩)) (cuC pv c)] (.t (.int (pickV cd n c))) [.obox (.pointer (some ⟨bw, 0, none⟩)) (cuC pv (curC cd n c))] := by
 have hx1 := Ls (c := c) hcd h0
 have hx2 := Ls (c := nxC cd c) hcd (show 0 ≤ c.1 + 1 by omega)
 refine Proc.intro tys Try.func54 Z Z (N := 20) [100] 99 ([(0, .t (.v (.pointer (some ⟨bw, 0, none⟩)))), (1, .t (.int n))]) ([(100, .obox (.pointer (some ⟨bw, 0, none⟩)) (cuC pv c)), (99, .ro [pv] [T.bytes cd])]) Z Z Z Z (by decide) (by decide) Z (fun w0 G F0 => ?_);refine nY Z (sG (eZ Z (nB (sQ (sG (eK 2 Z (nB ?_)))))));refine AB Z (fun h1 => ?_) (fun h1 => ?_)
 ·
  simp only [HS] at h1;refine sG (eZ Z (nB (rT (tR ?_))));refine eP [_] ?_ ?_
  ·first
   | (rw [pickV, if_pos (by omega)]; rfl)
  ·first
   | (rw [curC, if_pos (by omega)]; done)
 simp only [HS] at h1;refine AC (tN (sG (eZ Z ?_)));refine cP [100] (hm := (Lu cd c bw pv hcd h0 (by omega))) (k := ?_);refine nZ Z (eZ Z (nB (sQ (sG (eK 2 Z (nB ?_))))));refine AB Z (fun h2 => ?_) (fun h2 => ?_)
 ·
  simp only [HS] at h2;refine kY [0,1,4,5] Z (rG (eZ Z (evI ?_)));refine eZ Z ?_;refine cP [100] (hm := (Lu cd (nxC cd c) bw pv hcd (show 0 ≤ c.1 + 1 by omega) (show c.1 + 1 ≤ 1073741824 by omega))) (k := ?_);refine nZ Z (evI ?_);refine eZ Z (nA (eK 2 Z (Rj Z Z (AA Z) Z Z Z (by omega) (kZ [4,19] Z (eZ Z (nB (rT ?_)))))));refine eP [_] ?_ ?_
  ·first
   | (rw [pickV, if_neg (by omega), if_pos (by omega)]; rfl)
  ·first
   | (rw [curC, if_neg (by omega), if_pos (by omega)]; done)
 simp only [HS] at h2;refine AC (tN (sQ (kY [1,4,5] Z (rG (eK 2 Z (Rj Z Z (AA Z) Z Z Z (by omega) (eZ Z (nB (rT ?_)))))))));refine eP [_] ?_ ?_
 ·first
  | (rw [pickV, if_neg (by omega), if_neg (by omega)]; rfl)
 ·first
  | (rw [curC, if_neg (by omega), if_neg (by omega)]; done)
theorem DJ (cd : List Int) (n : Int) (c : Cu) (bw : Nat) (pv : Value) (hcd : Ct cd) (h0 : 0 ≤ c.1) (h1 : c.1 ≤ 536870912) : Proc Try.prog 53 [.t (.v (.pointer (some ⟨bw, 0, none⟩))), .t (.int n)] ([pv]) ([T.bytes cd]) [.obox (.pointer (some ⟨bw, 0, none⟩)) (cuC pv c)] (.t (.bool (decide (pickV cd n c = 0)))) [.obox (.pointer (some ⟨bw, 0, none⟩)) (cuC pv (curC cd n c))] := by
 refine Proc.intro tys Try.func53 Z Z (N := 9) [100] 99 ([(0, .t (.v (.pointer (some ⟨bw, 0, none⟩)))), (1, .t (.int n))]) ([(100, .obox (.pointer (some ⟨bw, 0, none⟩)) (cuC pv c)), (99, .ro [pv] [T.bytes cd])]) Z Z Z Z (by decide) (by decide) Z (fun w0 G F0 => ?_);refine nY Z (sG (eZ Z (nA (eK 2 Z ?_))));refine cP [100] (hm := (AY cd n c bw pv hcd h0 h1)) (k := ?_);refine nZ Z (eK 2 Z (nB (rT ?_)));refine eP [_] ?_ ?_
 ·rfl
 ·rfl
theorem Df (cd l : List Int) (c : Cu) (bw : Nat) (pv : Value) (hcd : Ct cd) (h0 : 0 ≤ c.1) (h1 : c.1 ≤ 536870912) (hl : 1 ≤ l.length) (hl2 : l.length ≤ 1073741824) : Proc Try.prog 35 [.t (.v (.pointer (some ⟨bw, 0, none⟩))), .t (T.ints l)] ([pv]) ([T.bytes cd]) [.obox (.pointer (some ⟨bw, 0, none⟩)) (cuC pv c)] (.t (.int (at0 0 l (pickV cd l.length c)))) [.obox (.pointer (some ⟨bw, 0, none⟩)) (cuC pv (curC cd l.length c))] := by
 have hv := Aa (n := l.length) hcd h0
 have hv1 := hv.2.1 (by omega)
 refine Proc.intro tys Try.func35 Z Z (N := 12) [100] 99 ([(0, .t (.v (.pointer (some ⟨bw, 0, none⟩)))), (1, .t (T.ints l))]) ([(100, .obox (.pointer (some ⟨bw, 0, none⟩)) (cuC pv c)), (99, .ro [pv] [T.bytes cd])]) Z Z Z Z (by decide) (by decide) Z (fun w0 G F0 => ?_);refine nY Z (sG (eZ Z (nA (eK 3 Z (evE ?_)))));refine cP [100] (hm := (AY cd l.length c bw pv hcd h0 h1)) (k := ?_);refine nZ Z ?_;refine iX (h5 := hv.1) (h6 := (EK _ _ hv.1 hv1)) (k := ?_);refine eK 2 Z (kZ [4] Z (nB (rT ?_)));refine eP [_] ?_ ?_
 ·rw [DU hv.1 hv1]
  rfl
 ·rfl
open Go.Eng
structure Tok where
 op : Int
 n : Int
def Tok.tt (x : Tok) : T := .agg [T.int x.op, T.int x.n]
abbrev T.Toks (l : List Tok) : T := .list 2 (l.map Tok.tt)
structure Stmt where
 kind : Int
 n : Int
 ex : List (Tok)
 thn : List Int
 els : List Int
def Stmt.tt (x : Stmt) : T := .agg [T.int x.kind, T.int x.n, T.Toks x.ex, T.ints x.thn, T.ints x.els]
def Stmt.ok (B : Nat) (x : Stmt) : Prop := okN B x.ex ∧ okN B x.thn ∧ okN B x.els ∧ True
abbrev T.Stmts (l : List (Stmt)) : T := .list 5 (l.map Stmt.tt)
structure Func where
 params : Int
 vars : Int
 body : List Int
 stmts : List (Stmt)
def Func.tt (x : Func) : T := .agg [T.int x.params, T.int x.vars, T.ints x.body, T.Stmts x.stmts]
def Func.ok (B : Nat) (x : Func) : Prop := okN B x.body ∧ okL B (Stmt.ok B) x.stmts ∧ True
abbrev T.Funcs (l : List (Func)) : T := .list 4 (l.map Func.tt)
structure Prog where
 funcs : List (Func)
def Prog.tt (x : Prog) : T := .agg [T.Funcs x.funcs]
def Prog.ok (B : Nat) (x : Prog) : Prop := okL B (Func.ok B) x.funcs ∧ True
open Go.Eng
abbrev numL : List Int := [0, 1, 2, 3, -1, 5, 7, 10, 2147483647, -2147483648, 0, 1]
def RV (cd : List Int) (c : Cu) : Int := at0 0 numL (pickV cd 12 c)
def BZ (cd : List Int) (vars : Int) (pure : Bool) (c : Cu) : List Tok × Cu :=
 if (pickV cd 6 c = 0 ∨ pickV cd 6 c = 1) ∧ 0 < vars then ([⟨2, pickV cd vars (curC cd 6 c)⟩], curC cd vars (curC cd 6 c))
 else if pickV cd 6 c = 2 ∧ pure = false then ([⟨at0 0 [9, 10] (pickV cd 2 (curC cd 6 c)), 0⟩], curC cd 2 (curC cd 6 c))
 else ([⟨1, RV cd (curC cd 6 c)⟩], curC cd 12 (curC cd 6 c))
def Fr (cd : List Int) (vars : Int) (pure : Bool) : Nat → List Tok → Cu → List Tok × Cu
 | 0, l, c => (l, c)
 | k + 1, l, c => Fr cd vars pure k (l ++ (BZ cd vars pure c).1) (BZ cd vars pure c).2
def ND (cd : List Int) (e : Cu → List Tok × Cu) (c : Cu) : List Tok × Cu :=
 ((e c).1 ++ (e (e c).2).1 ++ [⟨3 + pickV cd 6 (e (e c).2).2, 0⟩], curC cd 6 (e (e c).2).2)
def KD (cd : List Int) (vars : Int) (params : List Int) (pure : Bool) (c : Cu) : List Tok × Cu :=
 ((Fr cd vars pure (at0 0 params (pickV cd params.length c)).toNat [] (curC cd params.length c)).1 ++ [⟨11, pickV cd params.length c⟩], (Fr cd vars pure (at0 0 params (pickV cd params.length c)).toNat [] (curC cd params.length c)).2)
def Am (cd : List Int) (vars : Int) (params : List Int) (pure : Bool) : Nat → Cu → List Tok × Cu
 | 0, c => BZ cd vars pure c
 | d + 1, c =>
  if pickV cd 3 c = 0 then BZ cd vars pure (curC cd 3 c)
  else if pure = false ∧ 0 < params.length then
   if pickV cd 3 (curC cd 3 c) = 0 then KD cd vars params pure (curC cd 3 (curC cd 3 c)) else ND cd (Am cd vars params pure d) (curC cd 3 (curC cd 3 c))
  else ND cd (Am cd vars params pure d) (curC cd 3 c)
theorem Fy {cd : List Int} {vars : Int} {pure : Bool} {c : Cu} : c.1 ≤ (BZ cd vars pure c).2.1 ∧ (BZ cd vars pure c).2.1 ≤ c.1 + 4 ∧ (BZ cd vars pure c).1.length = 1 := by
 have h1 := AL (cd := cd) (n := 6) (c := c)
 have h2 := AL (cd := cd) (n := vars) (c := curC cd 6 c)
 have h3 := AL (cd := cd) (n := 2) (c := curC cd 6 c)
 have h4 := AL (cd := cd) (n := 12) (c := curC cd 6 c)
 unfold BZ
 repeat' split
 all_goals (refine ⟨?_, ?_, rfl⟩ <;> simp only <;> omega)
theorem MM {cd : List Int} {vars : Int} {pure : Bool} : ∀ (k : Nat) (l : List Tok) (c : Cu), c.1 ≤ (Fr cd vars pure k l c).2.1 ∧ (Fr cd vars pure k l c).2.1 ≤ c.1 + 4 * k ∧ (Fr cd vars pure k l c).1.length = l.length + k
 | 0, l, c => by simp [Fr]
 | k + 1, l, c => by
  have h1 := Fy (cd := cd) (vars := vars) (pure := pure) (c := c)
  have h3 := MM (cd := cd) (vars := vars) (pure := pure) k (l ++ (BZ cd vars pure c).1) (BZ cd vars pure c).2
  rw [Fr];rw [Sm] at h3;omega
def Ip (params : List Int) : Prop := params.length ≤ 4 ∧ ∀ m, m ∈ params → 0 ≤ m ∧ m ≤ 2
theorem OP {params : List Int} (h : Ip params) {i : Int} (h0 : 0 ≤ i) (h1 : i < params.length) : 0 ≤ at0 0 params i ∧ at0 0 params i ≤ 2 := by
 rw [DU h0 h1]; exact h.2 _ (Ss _)
theorem RA {cd : List Int} {vars : Int} {params : List Int} {pure : Bool} {c : Cu} (hcd : Ct cd) (hp : Ip params) (h0 : 0 ≤ c.1) (hl : 0 < params.length) :
  c.1 ≤ (KD cd vars params pure c).2.1 ∧ (KD cd vars params pure c).2.1 ≤ c.1 + 10 ∧ 1 ≤ (KD cd vars params pure c).1.length ∧ (KD cd vars params pure c).1.length ≤ 3 := by
 have p1 := AL (cd := cd) (n := params.length) (c := c)
 have v1 := Aa (n := params.length) (c := c) hcd h0
 have v2 := v1.2.1 (by omega)
 have v3 := OP hp v1.1 v2
 have a1 := MM (cd := cd) (vars := vars) (pure := pure) (at0 0 params (pickV cd params.length c)).toNat [] (curC cd params.length c)
 rw [List.length_nil] at a1;unfold KD;simp only [Sm, Sp, List.length_nil];omega
def exA : Nat → Int
 | 0 => 10
 | d + 1 => 2 * exA d + 20
def exB : Nat → Nat
 | 0 => 1
 | d + 1 => 2 * exB d + 3
theorem MD : ∀ d, 10 ≤ exA d ∧ 1 ≤ exB d
 | 0 => by decide
 | d + 1 => by have := MD d; rw [exA, exB]; omega
theorem CS {cd : List Int} {vars : Int} {params : List Int} {pure : Bool} (hcd : Ct cd) (hp : Ip params) : ∀ (d : Nat) (c : Cu), 0 ≤ c.1 →
  c.1 ≤ (Am cd vars params pure d c).2.1 ∧ (Am cd vars params pure d c).2.1 ≤ c.1 + exA d ∧ 1 ≤ (Am cd vars params pure d c).1.length ∧ (Am cd vars params pure d c).1.length ≤ exB d
 | 0, c, h0 => by
  have h1 := Fy (cd := cd) (vars := vars) (pure := pure) (c := c)
  rw [Am, exA, exB]; omega
 | d + 1, c, h0 => by
  have p1 := AL (cd := cd) (n := 3) (c := c)
  have p2 := AL (cd := cd) (n := 3) (c := curC cd 3 c)
  have h1 := Fy (cd := cd) (vars := vars) (pure := pure) (c := curC cd 3 c)
  have hx := MD d
  have hb : ∀ c' : Cu, 0 ≤ c'.1 → c'.1 ≤ (ND cd (Am cd vars params pure d) c').2.1 ∧ (ND cd (Am cd vars params pure d) c').2.1 ≤ c'.1 + 2 * exA d + 2 ∧ 1 ≤ (ND cd (Am cd vars params pure d) c').1.length ∧ (ND cd (Am cd vars params pure d) c').1.length ≤ 2 * exB d + 1 := fun c' h0' => by
   have e1 := CS (vars := vars) (pure := pure) hcd hp d c' h0'
   have e2 := CS (vars := vars) (pure := pure) hcd hp d (Am cd vars params pure d c').2 (by omega)
   have e3 := AL (cd := cd) (n := 6) (c := (Am cd vars params pure d (Am cd vars params pure d c').2).2)
   unfold ND;simp only [Sm, Sp, List.length_nil];omega
  have b1 := hb (curC cd 3 c) (by omega)
  have b2 := hb (curC cd 3 (curC cd 3 c)) (by omega)
  rw [Am, exA, exB];split
  ·omega
  ·split
   ·rename_i hq
    have b3 := RA (cd := cd) (vars := vars) (pure := pure) (c := curC cd 3 (curC cd 3 c)) hcd hp (by omega) hq.2
    split <;> omega
   ·omega
open Go.Eng
theorem FN (cd : List Int) (c : Cu) (bw : Nat) (pv : Value) (hcd : Ct cd) (h0 : 0 ≤ c.1) (h1 : c.1 ≤ 268435456) : Proc Try.prog 61 [.t (.v (.pointer (some ⟨bw, 0, none⟩)))] ([pv]) ([T.bytes cd]) [.obox (.pointer (some ⟨bw, 0, none⟩)) (cuC pv c)] (.t (.int (RV cd c))) [.obox (.pointer (some ⟨bw, 0, none⟩)) (cuC pv (curC cd 12 c))] := by
 refine Proc.intro tys Try.func61 Z Z (N := 6) [100] 99 ([(0, .t (.v (.pointer (some ⟨bw, 0, none⟩))))]) ([(100, .obox (.pointer (some ⟨bw, 0, none⟩)) (cuC pv c)), (99, .ro [pv] [T.bytes cd])]) Z Z Z Z (by decide) (by decide) Z (fun w0 G F0 => ?_);refine nY Z (sG (eZ Z (nA (eZ Z (bZ [T.int 0, T.int 1, T.int 2, T.int 3, T.int (-1), T.int 5, T.int 7, T.int 10, T.int 2147483647, T.int (-2147483648), T.int 0, T.int 1] ?_)))));refine nZ Z (WO_le (Le.gather (u := 4) (id := 4) Z Z (by first | (simp; done) | (simp; omega) | omega)) ?_);refine nZ Z ?_;refine cP [100] (hm := (Df cd numL c bw pv hcd h0 (by omega) (by decide) (by decide))) (k := ?_);refine nZ Z (eZ Z (nB (rT ?_)));refine eP [_] ?_ ?_
 ·rfl
 ·rfl
theorem with1 {p g : Prop} (h : p) (k : p → g) : g := k h
theorem exB_le : ∀ e : Nat, e < 9 → exB e ≤ 1021 := by decide
def ExC (cd : List Int) (vars : Int) (params : List Int) (pure : Bool) (pv : Value) (d : Nat) : Prop :=
 ∀ (dd : Int) (c : Cu) (bw : Nat), dd = d → d ≤ 8 → 0 ≤ c.1 → c.1 + exA d ≤ 134217728 →
  Proc Try.prog 117 [.t (.v (.pointer (some ⟨bw, 0, none⟩))), .t (.int dd), .t (.int vars), .t (T.ints params), .t (.bool pure)] [pv] [T.bytes cd]
   [.obox (.pointer (some ⟨bw, 0, none⟩)) (cuC pv c)] (.own (.list 2 ((Am cd vars params pure d c).1.map Tok.tt))) [.obox (.pointer (some ⟨bw, 0, none⟩)) (cuC pv (Am cd vars params pure d c).2)]
theorem Oz (cd : List Int) (vars : Int) (params : List Int) (pure : Bool) (d : Nat) (dd : Int) (c : Cu) (bw : Nat) (pv : Value) (hcd : Ct cd) (hp : Ip params) (hd : dd = d) (hd8 : d ≤ 8) (h0 : 0 ≤ c.1) (h1 : c.1 + exA d ≤ 134217728) (hr : ∀ e, e < d → ExC cd vars params pure pv e) : Proc Try.prog 117 [.t (.v (.pointer (some ⟨bw, 0, none⟩))), .t (.int dd), .t (.int vars), .t (T.ints params), .t (.bool pure)] ([pv]) ([T.bytes cd]) [.obox (.pointer (some ⟨bw, 0, none⟩)) (cuC pv c)] (.own (.list 2 ((Am cd vars params pure d c).1.map Tok.tt))) [.obox (.pointer (some ⟨bw, 0, none⟩)) (cuC pv (Am cd vars params pure d c).2)] := by
 have hxa := MD d
 have hc3 := AL (cd := cd) (n := 3) (c := c)
 have hc33 := AL (cd := cd) (n := 3) (c := curC cd 3 c)
 refine Proc.intro tys Try.func117 Z Z (N := 103) [100] 99 ([(0, .t (.v (.pointer (some ⟨bw, 0, none⟩)))), (1, .t (.int dd)), (2, .t (.int vars)), (3, .t (T.ints params)), (4, .t (.bool pure))]) ([(100, .obox (.pointer (some ⟨bw, 0, none⟩)) (cuC pv c)), (99, .ro [pv] [T.bytes cd])]) Z Z Z Z (by decide) (by decide) Z (fun w0 G F0 => ?_);refine nY Z (sG (eZ Z (nB (sQ (sG (eK 3 Z ?_))))));refine gB (fun h1 => ?_) (fun h1 => ?_)
 ·
  simp only [HS] at h1;refine xK 2 Z (nB (Ao Z (sQ (sQ ?_))))
  first
  | (refine with1 (p := d = 0) ?_ (fun hd0 => ?_); omega; subst hd0; rw [Am]; refine with1 (p := ∃ c0 : Cu, c0 = c ∧ c.1 ≤ c0.1 ∧ c0.1 ≤ c.1 + 2) ⟨c, rfl, by omega, by omega⟩ (fun hh => ?_); obtain ⟨c0, hc0, hca, hcb⟩ := hh; rw [← hc0])
  have hk6 := AL (cd := cd) (n := 6) (c := c0)
  refine rG (eZ Z ?_);refine cP [100] (hm := (AY cd 6 c0 bw pv hcd (by omega) (by omega))) (k := ?_);refine nZ Z (nB (AD (sQ (sQ (kY [0,1,2,3,4,10,22] Z (rG (eK 2 Z (nB ?_))))))));refine A4 (α := Bool) [0, 1, 2, 3, 4, 22] [100, 99] (fun x => [(23, .t (.bool x))]) (fun x => []) (fun x => x = decide (pickV cd 6 c0 = 0 ∨ pickV cd 6 c0 = 1)) ?_ (fun b hx => ?_)
  ·
   refine AB Z (fun h2 => ?_) (fun h2 => ?_)
   ·
    simp only [HS] at h2;refine AC (jQ _ ?_)
    all_goals first | (simp_all; done) | (symm; simp; omega) | (simp; omega)
   simp only [HS] at h2;refine rG (eK 2 Z (oN (jQ _ ?_)))
   all_goals first | (simp_all; done) | (symm; simp; omega) | (simp; omega)
  have hb1 := hx
  refine tN ?_;refine AB Z (fun h2 => ?_) (fun h2 => ?_)
  ·
   refine sQ (kY [0,1,2,3,4] Z (rG (eK 2 Z (nB ?_))));refine AB Z (fun h3 => ?_) (fun h3 => ?_)
   ·
    simp only [HS] at h3;refine sG (eK 2 Z ?_);refine cP [100] (hm := (AY cd vars (curC cd 6 c0) bw pv hcd (by omega) (by omega))) (k := ?_);refine nZ Z (AH tys Z Z (AA Z) Z Z Z (by kernel_rfl) Z Z Z Z Z Z (bZ [(Tok.mk 2 (pickV cd vars (curC cd 6 c0))).tt] ?_));refine nZ Z (eZ Z (nB ?_))
    (refine AQ (Le.gather (u := 10) (id := 32) rfl rfl (by first | (simp; done) | (simp; omega))) ?_; refine AU rfl ?_)
    refine rT (bR (tR (tR ?_)));refine eP [_] ?_ ?_
    ·first
     | (unfold BZ; (repeat' split); all_goals first | rfl | (exfalso; simp_all; done) | (exfalso; simp_all; omega))
    ·first
     | (unfold BZ; (repeat' split); all_goals first | rfl | (exfalso; simp_all; done) | (exfalso; simp_all; omega))
   simp only [HS] at h3;refine AC (bN (tN (sG (eZ Z ?_))));refine cP [100] (hm := (FN cd (curC cd 6 c0) bw pv hcd (by omega) (by omega))) (k := ?_);refine nZ Z (AH tys Z Z (AA Z) Z Z Z (by kernel_rfl) Z Z Z Z Z Z (bZ [(Tok.mk 1 (RV cd (curC cd 6 c0))).tt] ?_));refine nZ Z (eZ Z (nB ?_))
   (refine AQ (Le.gather (u := 10) (id := 45) rfl rfl (by first | (simp; done) | (simp; omega))) ?_; refine AU rfl ?_)
   refine rT (tR ?_);refine eP [_] ?_ ?_
   ·first
    | (unfold BZ; (repeat' split); all_goals first | rfl | (exfalso; simp_all; done) | (exfalso; simp_all; omega))
   ·first
    | (unfold BZ; (repeat' split); all_goals first | rfl | (exfalso; simp_all; done) | (exfalso; simp_all; omega))
  refine sQ (kY [0,1,2,3,4,22] Z (rG (eK 2 Z (nB ?_))));refine AB Z (fun h3 => ?_) (fun h3 => ?_)
  ·
   simp only [HS] at h3;refine sG (eK 2 Z (nB ?_));refine AB Z (fun h4 => ?_) (fun h4 => ?_)
   ·
    simp only [HS] at h4;refine sG (eZ Z (bZ [T.int 9, T.int 10] ?_));refine nZ Z (WO_le (Le.gather (u := 38) (id := 38) Z Z (by first | (simp; done) | (simp; omega) | omega)) ?_);refine nZ Z ?_;refine cP [100] (hm := (Df cd [9, 10] (curC cd 6 c0) bw pv hcd (by omega) (by omega) (by decide) (by decide))) (k := ?_);refine nZ Z (AH tys Z Z (AA Z) Z Z Z (by kernel_rfl) Z Z Z Z Z Z (bZ [(Tok.mk (at0 0 [9, 10] (pickV cd 2 (curC cd 6 c0))) 0).tt] ?_));refine nZ Z (kZ [0,1,2,3,4,41] Z (eZ Z (nB ?_)))
    (refine AQ (Le.gather (u := 10) (id := 41) rfl rfl (by first | (simp; done) | (simp; omega))) ?_; refine AU rfl ?_)
    refine rT (bR (tR (tR ?_)));refine eP [_] ?_ ?_
    ·first
     | (unfold BZ; (repeat' split); all_goals first | rfl | (exfalso; simp_all; done) | (exfalso; simp_all; omega))
    ·first
     | (unfold BZ; (repeat' split); all_goals first | rfl | (exfalso; simp_all; done) | (exfalso; simp_all; omega))
   simp only [HS] at h4;refine AC (bN (tN (sG (eZ Z ?_))));refine cP [100] (hm := (FN cd (curC cd 6 c0) bw pv hcd (by omega) (by omega))) (k := ?_);refine nZ Z (AH tys Z Z (AA Z) Z Z Z (by kernel_rfl) Z Z Z Z Z Z (bZ [(Tok.mk 1 (RV cd (curC cd 6 c0))).tt] ?_));refine nZ Z (eZ Z (kZ [0,1,2,3,4,10] Z (nB ?_)))
   (refine AQ (Le.gather (u := 10) (id := 45) rfl rfl (by first | (simp; done) | (simp; omega))) ?_; refine AU rfl ?_)
   refine rT (tR ?_);refine eP [_] ?_ ?_
   ·first
    | (unfold BZ; (repeat' split); all_goals first | rfl | (exfalso; simp_all; done) | (exfalso; simp_all; omega))
   ·first
    | (unfold BZ; (repeat' split); all_goals first | rfl | (exfalso; simp_all; done) | (exfalso; simp_all; omega))
  simp only [HS] at h3;refine AC (bN (tN (sG (eZ Z ?_))));refine cP [100] (hm := (FN cd (curC cd 6 c0) bw pv hcd (by omega) (by omega))) (k := ?_);refine nZ Z (AH tys Z Z (AA Z) Z Z Z (by kernel_rfl) Z Z Z Z Z Z (bZ [(Tok.mk 1 (RV cd (curC cd 6 c0))).tt] ?_));refine nZ Z (eZ Z (nB ?_))
  (refine AQ (Le.gather (u := 10) (id := 45) rfl rfl (by first | (simp; done) | (simp; omega))) ?_; refine AU rfl ?_)
  refine rT (tR ?_);refine eP [_] ?_ ?_
  ·first
   | (unfold BZ; (repeat' split); all_goals first | rfl | (exfalso; simp_all; done) | (exfalso; simp_all; omega))
  ·first
   | (unfold BZ; (repeat' split); all_goals first | rfl | (exfalso; simp_all; done) | (exfalso; simp_all; omega))
 simp only [HS] at h1;refine eZ Z (gY Z ?_);refine cP [100] (hm := (DJ cd 3 c bw pv hcd h0 (by omega))) (k := ?_);refine nZ Z (eZ Z (nB ?_));refine AB Z (fun h2 => ?_) (fun h2 => ?_)
 ·
  simp only [HS] at h2;refine sQ (sQ ?_)
  first
  | (refine with1 (p := ¬ d = 0) ?_ (fun hd0 => ?_); omega; obtain ⟨e, rfl⟩ := Nat.exists_eq_succ_of_ne_zero hd0; rw [Am, if_pos (by assumption)]; refine with1 (p := ∃ c0 : Cu, c0 = curC cd 3 c ∧ c.1 ≤ c0.1 ∧ c0.1 ≤ c.1 + 2) ⟨_, rfl, by omega, by omega⟩ (fun hh => ?_); obtain ⟨c0, hc0, hca, hcb⟩ := hh; rw [← hc0])
  have hk6 := AL (cd := cd) (n := 6) (c := c0)
  refine kY [0,1,2,3,4,10] Z (rG (eZ Z ?_));refine cP [100] (hm := (AY cd 6 c0 bw pv hcd (by omega) (by omega))) (k := ?_);refine nZ Z (nB (AD (sQ (sG (eK 2 Z (nB ?_))))));refine A4 (α := Bool) [0, 1, 2, 3, 4, 22] [100, 99] (fun x => [(23, .t (.bool x))]) (fun x => []) (fun x => x = decide (pickV cd 6 c0 = 0 ∨ pickV cd 6 c0 = 1)) ?_ (fun b hx => ?_)
  ·
   refine AB Z (fun h3 => ?_) (fun h3 => ?_)
   ·
    simp only [HS] at h3;refine AC (jQ _ ?_)
    all_goals first | (simp_all; done) | (symm; simp; omega) | (simp; omega)
   simp only [HS] at h3;refine rG (eK 2 Z (oN (jQ _ ?_)))
   all_goals first | (simp_all; done) | (symm; simp; omega) | (simp; omega)
  have hb1 := hx
  refine tN ?_;refine AB Z (fun h3 => ?_) (fun h3 => ?_)
  ·
   refine sQ (kY [0,1,2,3,4] Z (rG (eK 2 Z (nB ?_))));refine AB Z (fun h4 => ?_) (fun h4 => ?_)
   ·
    simp only [HS] at h4;refine sG (eK 2 Z ?_);refine cP [100] (hm := (AY cd vars (curC cd 6 c0) bw pv hcd (by omega) (by omega))) (k := ?_);refine nZ Z (AH tys Z Z (AA Z) Z Z Z (by kernel_rfl) Z Z Z Z Z Z (bZ [(Tok.mk 2 (pickV cd vars (curC cd 6 c0))).tt] ?_));refine nZ Z (eZ Z (nB ?_))
    (refine AQ (Le.gather (u := 10) (id := 32) rfl rfl (by first | (simp; done) | (simp; omega))) ?_; refine AU rfl ?_)
    refine rT (bR (tR (tR ?_)));refine eP [_] ?_ ?_
    ·first
     | (unfold BZ; (repeat' split); all_goals first | rfl | (exfalso; simp_all; done) | (exfalso; simp_all; omega))
    ·first
     | (unfold BZ; (repeat' split); all_goals first | rfl | (exfalso; simp_all; done) | (exfalso; simp_all; omega))
   simp only [HS] at h4;refine AC (bN (tN (sG (eZ Z ?_))));refine cP [100] (hm := (FN cd (curC cd 6 c0) bw pv hcd (by omega) (by omega))) (k := ?_);refine nZ Z (AH tys Z Z (AA Z) Z Z Z (by kernel_rfl) Z Z Z Z Z Z (bZ [(Tok.mk 1 (RV cd (curC cd 6 c0))).tt] ?_));refine nZ Z (eZ Z (nB ?_))
   (refine AQ (Le.gather (u := 10) (id := 45) rfl rfl (by first | (simp; done) | (simp; omega))) ?_; refine AU rfl ?_)
   refine rT (tR ?_);refine eP [_] ?_ ?_
   ·first
    | (unfold BZ; (repeat' split); all_goals first | rfl | (exfalso; simp_all; done) | (exfalso; simp_all; omega))
   ·first
    | (unfold BZ; (repeat' split); all_goals first | rfl | (exfalso; simp_all; done) | (exfalso; simp_all; omega))
  refine sQ (kY [0,1,2,3,4,22] Z (rG (eK 2 Z (nB ?_))));refine AB Z (fun h4 => ?_) (fun h4 => ?_)
  ·
   simp only [HS] at h4;refine sG (eK 2 Z (nB ?_));refine AB Z (fun h5 => ?_) (fun h5 => ?_)
   ·
    simp only [HS] at h5;refine sG (eZ Z (bZ [T.int 9, T.int 10] ?_));refine nZ Z (WO_le (Le.gather (u := 38) (id := 38) Z Z (by first | (simp; done) | (simp; omega) | omega)) ?_);refine nZ Z ?_;refine cP [100] (hm := (Df cd [9, 10] (curC cd 6 c0) bw pv hcd (by omega) (by omega) (by decide) (by decide))) (k := ?_);refine nZ Z (AH tys Z Z (AA Z) Z Z Z (by kernel_rfl) Z Z Z Z Z Z (bZ [(Tok.mk (at0 0 [9, 10] (pickV cd 2 (curC cd 6 c0))) 0).tt] ?_));refine nZ Z (kZ [0,1,2,3,4,41] Z (eZ Z (nB ?_)))
    (refine AQ (Le.gather (u := 10) (id := 41) rfl rfl (by first | (simp; done) | (simp; omega))) ?_; refine AU rfl ?_)
    refine rT (bR (tR (tR ?_)));refine eP [_] ?_ ?_
    ·first
     | (unfold BZ; (repeat' split); all_goals first | rfl | (exfalso; simp_all; done) | (exfalso; simp_all; omega))
    ·first
     | (unfold BZ; (repeat' split); all_goals first | rfl | (exfalso; simp_all; done) | (exfalso; simp_all; omega))
   simp only [HS] at h5;refine AC (bN (tN (sG (eZ Z ?_))));refine cP [100] (hm := (FN cd (curC cd 6 c0) bw pv hcd (by omega) (by omega))) (k := ?_);refine nZ Z (AH tys Z Z (AA Z) Z Z Z (by kernel_rfl) Z Z Z Z Z Z (bZ [(Tok.mk 1 (RV cd (curC cd 6 c0))).tt] ?_));refine nZ Z (eZ Z (kZ [0,1,2,3,4,10] Z (nB ?_)))
   (refine AQ (Le.gather (u := 10) (id := 45) rfl rfl (by first | (simp; done) | (simp; omega))) ?_; refine AU rfl ?_)
   refine rT (tR ?_);refine eP [_] ?_ ?_
   ·first
    | (unfold BZ; (repeat' split); all_goals first | rfl | (exfalso; simp_all; done) | (exfalso; simp_all; omega))
   ·first
    | (unfold BZ; (repeat' split); all_goals first | rfl | (exfalso; simp_all; done) | (exfalso; simp_all; omega))
  simp only [HS] at h4;refine AC (bN (tN (sG (eZ Z ?_))));refine cP [100] (hm := (FN cd (curC cd 6 c0) bw pv hcd (by omega) (by omega))) (k := ?_);refine nZ Z (AH tys Z Z (AA Z) Z Z Z (by kernel_rfl) Z Z Z Z Z Z (bZ [(Tok.mk 1 (RV cd (curC cd 6 c0))).tt] ?_));refine nZ Z (eZ Z (nB ?_))
  (refine AQ (Le.gather (u := 10) (id := 45) rfl rfl (by first | (simp; done) | (simp; omega))) ?_; refine AU rfl ?_)
  refine rT (tR ?_);refine eP [_] ?_ ?_
  ·first
   | (unfold BZ; (repeat' split); all_goals first | rfl | (exfalso; simp_all; done) | (exfalso; simp_all; omega))
  ·first
   | (unfold BZ; (repeat' split); all_goals first | rfl | (exfalso; simp_all; done) | (exfalso; simp_all; omega))
 simp only [HS] at h2;refine AC (tN (sQ (sQ ?_)));refine with1 (p := ¬ d = 0) ?_ (fun hd0 => ?_);omega
 obtain ⟨e, rfl⟩ := Nat.exists_eq_succ_of_ne_zero hd0
 rw [Am, if_neg (by assumption)]
 have hxe := MD e
 rw [exA] at h1
 have hxb := exB_le e (by omega)
 refine kY [0,1,2,3,4,10] Z (rG (eK 3 Z ?_));refine gB (fun h3 => ?_) (fun h3 => ?_)
 ·
  simp only [HS] at h3;refine xK 6 Z (kZ [0,1,2,3,4,10,53,55] Z (eZ Z (nB (A8 Z (AC (tN (sQ ?_)))))))
  first
  | (refine with1 (p := ¬ (pure = false ∧ 0 < params.length)) ?_ (fun hq => ?_); (focus (intro hh; obtain ⟨q1, q2⟩ := hh; first | (exfalso; omega) | (simp_all; done))); rw [if_neg hq]; refine with1 (p := ∃ c2 : Cu, c2 = curC cd 3 c ∧ c.1 ≤ c2.1 ∧ c2.1 ≤ c.1 + 4) ⟨_, rfl, by omega, by omega⟩ (fun hh => ?_); obtain ⟨c2, hc2, hca, hcb⟩ := hh; rw [← hc2])
  have he1 := CS (vars := vars) (pure := pure) hcd hp e c2 (by omega)
  have he2 := CS (vars := vars) (pure := pure) hcd hp e (Am cd vars params pure e c2).2 (by omega)
  have he4 := (Aa (n := 6) (c := (Am cd vars params pure e (Am cd vars params pure e c2).2).2) hcd (by omega))
  have he5 := he4.2.1 (by omega)
  have he3 := AL (cd := cd) (n := 6) (c := (Am cd vars params pure e (Am cd vars params pure e c2).2).2)
  refine rG (eK 2 Z (evI ?_));refine eK 3 Z ?_;refine cP [100] (hm := (hr e (by omega) _ c2 bw (by omega) (by omega) (by omega) (by omega))) (k := ?_);refine nZ Z (eZ Z (kZ [0,1,2,3,4,10,87,88] Z (eZ Z (evI ?_))));refine eK 3 Z ?_;refine cP [100] (hm := (hr e (by omega) _ (Am cd vars params pure e c2).2 bw (by omega) (by omega) (by omega) (by omega))) (k := ?_);refine nZ Z (WO_le (Le.adoptE (u := 87) 187 Z Z) (nZ Z (WO_le (Le.adoptE (u := 94) 194 Z Z) (nZ Z (AE tys Z Z (AA Z) Z Z Z Z Z (.own Z (by first | omega | (simp only [Sm]; omega))) Z (.own Z (by first | decide | omega)) (by decide) (by simp; omega) (by decide) Z ?_)))));refine nZ Z (eZ Z (nB (sQ (kY [0,10,14] Z (rG (eK 2 Z ?_))))));refine cP [100] (hm := (AY cd 6 (Am cd vars params pure e (Am cd vars params pure e c2).2).2 bw pv hcd (by omega) (by omega))) (k := ?_);refine nZ Z (evI ?_);refine AH tys Z Z (AA Z) Z Z Z (by kernel_rfl) Z Z Z Z Z Z (bZ [(Tok.mk (3 + pickV cd 6 (Am cd vars params pure e (Am cd vars params pure e c2).2).2) 0).tt] ?_);refine nZ Z (AE tys Z Z (AA Z) Z Z Z Z Z (.own Z (by first | omega | (simp only [Sm]; omega))) Z (.own Z (by first | decide | omega)) (by decide) (by simp; omega) (by decide) Z ?_);refine nZ Z (eZ Z (nB ?_))
  (refine AQ (Le.gather (u := 10) (id := 187) rfl rfl (by first | (simp; done) | (simp; omega))) ?_; refine AU rfl ?_)
  refine rT ?_;refine eP [_] ?_ ?_
  ·first
   | (unfold ND; simp [Sn, Ts]; rfl)
  ·first
   | (unfold ND; simp [Sn, Ts]; done)
 simp only [HS] at h3;refine eZ Z (gY Z (evE ?_));refine xK 3 Z ?_;refine gB (fun h4 => ?_) (fun h4 => ?_)
 ·
  simp only [HS] at h4;refine xZ Z (kZ [0,1,2,3,4,10,53,55] Z (eZ Z (nB (A8 Z (AC (tN (sQ ?_)))))))
  first
  | (refine with1 (p := ¬ (pure = false ∧ 0 < params.length)) ?_ (fun hq => ?_); (focus (intro hh; obtain ⟨q1, q2⟩ := hh; first | (exfalso; omega) | (simp_all; done))); rw [if_neg hq]; refine with1 (p := ∃ c2 : Cu, c2 = curC cd 3 c ∧ c.1 ≤ c2.1 ∧ c2.1 ≤ c.1 + 4) ⟨_, rfl, by omega, by omega⟩ (fun hh => ?_); obtain ⟨c2, hc2, hca, hcb⟩ := hh; rw [← hc2])
  have he1 := CS (vars := vars) (pure := pure) hcd hp e c2 (by omega)
  have he2 := CS (vars := vars) (pure := pure) hcd hp e (Am cd vars params pure e c2).2 (by omega)
  have he4 := (Aa (n := 6) (c := (Am cd vars params pure e (Am cd vars params pure e c2).2).2) hcd (by omega))
  have he5 := he4.2.1 (by omega)
  have he3 := AL (cd := cd) (n := 6) (c := (Am cd vars params pure e (Am cd vars params pure e c2).2).2)
  refine rG (eK 2 Z (evI ?_));refine eK 3 Z ?_;refine cP [100] (hm := (hr e (by omega) _ c2 bw (by omega) (by omega) (by omega) (by omega))) (k := ?_);refine nZ Z (eZ Z (kZ [0,1,2,3,4,10,87,88] Z (eZ Z (evI ?_))));refine eK 3 Z ?_;refine cP [100] (hm := (hr e (by omega) _ (Am cd vars params pure e c2).2 bw (by omega) (by omega) (by omega) (by omega))) (k := ?_);refine nZ Z (WO_le (Le.adoptE (u := 87) 187 Z Z) (nZ Z (WO_le (Le.adoptE (u := 94) 194 Z Z) (nZ Z (AE tys Z Z (AA Z) Z Z Z Z Z (.own Z (by first | omega | (simp only [Sm]; omega))) Z (.own Z (by first | decide | omega)) (by decide) (by simp; omega) (by decide) Z ?_)))));refine nZ Z (eZ Z (nB (sQ (kY [0,10,14] Z (rG (eK 2 Z ?_))))));refine cP [100] (hm := (AY cd 6 (Am cd vars params pure e (Am cd vars params pure e c2).2).2 bw pv hcd (by omega) (by omega))) (k := ?_);refine nZ Z (evI ?_);refine AH tys Z Z (AA Z) Z Z Z (by kernel_rfl) Z Z Z Z Z Z (bZ [(Tok.mk (3 + pickV cd 6 (Am cd vars params pure e (Am cd vars params pure e c2).2).2) 0).tt] ?_);refine nZ Z (AE tys Z Z (AA Z) Z Z Z Z Z (.own Z (by first | omega | (simp only [Sm]; omega))) Z (.own Z (by first | decide | omega)) (by decide) (by simp; omega) (by decide) Z ?_);refine nZ Z (eZ Z (nB ?_))
  (refine AQ (Le.gather (u := 10) (id := 187) rfl rfl (by first | (simp; done) | (simp; omega))) ?_; refine AU rfl ?_)
  refine rT ?_;refine eP [_] ?_ ?_
  ·first
   | (unfold ND; simp [Sn, Ts]; rfl)
  ·first
   | (unfold ND; simp [Sn, Ts]; done)
 simp only [HS] at h4;refine eZ Z (gY Z ?_);refine cP [100] (hm := (DJ cd 3 (curC cd 3 c) bw pv hcd (by omega) (by omega))) (k := ?_);refine nZ Z (kZ [0,1,2,3,4,10,53,55] Z (eZ Z (nB ?_)));refine AB Z (fun h5 => ?_) (fun h5 => ?_)
 ·
  simp only [HS] at h5;refine sQ ?_;rw [if_pos ⟨by simp_all, by omega⟩, if_pos (by assumption)];refine with1 (p := ∃ c2 : Cu, c2 = curC cd 3 (curC cd 3 c) ∧ c.1 ≤ c2.1 ∧ c2.1 ≤ c.1 + 4) ⟨_, rfl, by omega, by omega⟩ (fun hh => ?_)
  obtain ⟨c2, hc2, hca, hcb⟩ := hh
  rw [← hc2]
  have hpl : 0 < params.length := by omega
  have hk7 := AL (cd := cd) (n := params.length) (c := c2)
  have hv7 := Aa (n := params.length) (c := c2) hcd (by omega)
  have hv7' := hv7.2.1 (by omega)
  have hps := OP hp hv7.1 hv7'
  have hat := DU (d := (0 : Int)) hv7.1 hv7'
  refine rG (eK 2 Z (evE ?_));refine cP [100] (hm := (AY cd params.length c2 bw pv hcd (by omega) (by omega))) (k := ?_);refine nZ Z (eZ Z (nA (eZ Z (WO_le (Le.nilOwn (u := 12) 2 Z) (nZ Z (WO_le (Le.adoptE (u := 12) 112 Z Z) (nZ Z (nB (sQ (sQ (kY [0,1,2,3,4,10,11,12] Z (rG (eZ Z (nB (AD ?_)))))))))))))));refine lK (α := Int × List Tok × List T × Nat × Cu) [0, 1, 2, 3, 4, 11] [99] (fun x => [(13, .t (.int (x.1))), (12, .sl 112 0 (x.2.2.2.1))]) (fun x => [(100, .obox (.pointer (some ⟨bw, 0, none⟩)) (cuC pv (x.2.2.2.2))), (112, .L 2 (x.2.2.1))]) (fun x => 0 ≤ (x.1) ∧ ((x.2.1).length : Int) = (x.1) ∧ (x.1) ≤ at0 0 params (pickV cd params.length c2) ∧ (x.2.2.2.1) = (x.2.2.1).length ∧ (x.2.2.1) = (x.2.1).map Tok.tt ∧ Fr cd vars pure (at0 0 params (pickV cd params.length c2) - (x.1)).toNat (x.2.1) (x.2.2.2.2) = Fr cd vars pure (at0 0 params (pickV cd params.length c2)).toNat [] (curC cd params.length c2) ∧ c2.1 ≤ (x.2.2.2.2).1 ∧ (x.2.2.2.2).1 ≤ c2.1 + 2 + 4 * (x.1)) (fun x => Int.toNat (at0 0 params (pickV cd params.length c2) - (x.1))) (0, [], [], 0, curC cd params.length c2) ?_ (fun x hx => ?_)
  ·dsimp only
   exact ⟨by omega, by simp, by omega, rfl, rfl, by simp, by omega, by omega⟩
  obtain ⟨i, l, ys, n, c'⟩ := x
  obtain ⟨hi0, hil, him, hn, hys, hre, hia, hib⟩ := hx
  dsimp only at hi0 hil him hn hys hre hia hib ⊢;refine nY Z (sQ (sG (eK 3 Z ?_)));refine iX (h5 := hv7.1) (h6 := (EK _ _ hv7.1 hv7')) (k := ?_);refine eK 2 Z (nB ?_);refine AB Z (fun h6 => ?_) (fun h6 => ?_)
  ·
   simp only [HS] at h6;refine AC (tN (sQ (AD ?_)))
   have hlf := Fy (cd := cd) (vars := vars) (pure := pure) (c := c')
   have hlx : Am cd vars params pure 0 c' = BZ cd vars pure c' := by rw [Am]
   have hlf0 : (Am cd vars params pure 0 c').1.length = 1 := by rw [Am]; exact hlf.2.2
   have hyl : ys.length = l.length := by rw [hys, Sk]
   refine rG (eK 3 Z (kZ [0,1,2,3,4,11,12,13,61,62,63,64,65,66,69,70,71] Z (eK 2 Z ?_)));refine cP [100] (hm := (hr 0 (by omega) 0 c' bw Z (by omega) (by omega) (by rw [exA]; omega))) (k := ?_);refine nZ Z (WO_le (Le.adoptE (u := 74) 174 Z Z) (nZ Z (AE tys Z Z (AA Z) Z Z Z Z Z (.own Z (by first | omega | (simp only [Sm]; omega))) Z (.own Z (by first | decide | omega)) (by decide) (by simp only [Sq, Sk]; omega) (by decide) Z ?_)));refine nZ Z (eZ Z (oN (bN (tN (rG (eZ Z (evI ?_)))))));refine eZ Z (oN ?_);refine lQ (_, l ++ (BZ cd vars pure c').1, _, _, _) ?_ ?_
   ·dsimp only
    subst hn
    have hk5 : (at0 0 params (pickV cd params.length c2) - i).toNat = (at0 0 params (pickV cd params.length c2) - (i + 1)).toNat + 1 := by omega
    rw [hk5, Fr] at hre;rw [hlx];refine ⟨by omega, by rw [Sm]; omega, by omega, by simp, ?_, hre, by omega, by omega⟩;rw [hys, S5]
    simp [Sn, Am]
   ·(show Int.toNat _ < Int.toNat _); omega
  simp only [HS] at h6;refine AN (tE (AJ (AI (tN (sQ ?_)))))
  have hz : (at0 0 params (pickV cd params.length c2) - i).toNat = 0 := by omega
  rw [hz, Fr] at hre;subst hn hys;refine rG (eK 2 Z (AH tys Z Z (AA Z) Z Z Z (by kernel_rfl) Z Z Z Z Z Z (kZ [0,1,2,3,4,76,78] Z (bZ [(Tok.mk 11 (pickV cd params.length c2)).tt] ?_))));refine nZ Z (AE tys Z Z (AA Z) Z Z Z Z Z (.own Z (by first | omega | (simp only [Sm]; omega))) Z (.own Z (by first | decide | omega)) (by decide) (by simp only [Sq, Sk, Sp, List.length_nil]; omega) (by decide) Z ?_);refine nZ Z (eZ Z (nB ?_))
  (refine AQ (Le.gather (u := 10) (id := 112) rfl rfl (by first | (simp; done) | (simp; omega))) ?_; refine AU rfl ?_)
  refine rT (tR ?_);refine eP [_] ?_ ?_
  ·first
   | (unfold KD; rw [← hre]; simp [Sn]; rfl)
  ·first
   | (unfold KD; rw [← hre]; done)
 simp only [HS] at h5;refine AC (tN (sQ ?_))
 first
 | (refine with1 (p := pure = false ∧ 0 < params.length) ?_ (fun hq => ?_); (focus (refine ⟨?_, ?_⟩; (focus (simp_all; done)); omega)); rw [if_pos hq, if_neg (by assumption)]; refine with1 (p := ∃ c2 : Cu, c2 = curC cd 3 (curC cd 3 c) ∧ c.1 ≤ c2.1 ∧ c2.1 ≤ c.1 + 4) ⟨_, rfl, by omega, by omega⟩ (fun hh => ?_); obtain ⟨c2, hc2, hca, hcb⟩ := hh; rw [← hc2])
 have he1 := CS (vars := vars) (pure := pure) hcd hp e c2 (by omega)
 have he2 := CS (vars := vars) (pure := pure) hcd hp e (Am cd vars params pure e c2).2 (by omega)
 have he4 := (Aa (n := 6) (c := (Am cd vars params pure e (Am cd vars params pure e c2).2).2) hcd (by omega))
 have he5 := he4.2.1 (by omega)
 have he3 := AL (cd := cd) (n := 6) (c := (Am cd vars params pure e (Am cd vars params pure e c2).2).2)
 refine rG (eK 2 Z (evI ?_));refine eK 3 Z ?_;refine cP [100] (hm := (hr e (by omega) _ c2 bw (by omega) (by omega) (by omega) (by omega))) (k := ?_);refine nZ Z (eZ Z (kZ [0,1,2,3,4,10,87,88] Z (eZ Z (evI ?_))));refine eK 3 Z ?_;refine cP [100] (hm := (hr e (by omega) _ (Am cd vars params pure e c2).2 bw (by omega) (by omega) (by omega) (by omega))) (k := ?_);refine nZ Z (WO_le (Le.adoptE (u := 87) 187 Z Z) (nZ Z (WO_le (Le.adoptE (u := 94) 194 Z Z) (nZ Z (AE tys Z Z (AA Z) Z Z Z Z Z (.own Z (by first | omega | (simp only [Sm]; omega))) Z (.own Z (by first | decide | omega)) (by decide) (by simp; omega) (by decide) Z ?_)))));refine nZ Z (eZ Z (nB (sQ (kY [0,10,14] Z (rG (eK 2 Z ?_))))));refine cP [100] (hm := (AY cd 6 (Am cd vars params pure e (Am cd vars params pure e c2).2).2 bw pv hcd (by omega) (by omega))) (k := ?_);refine nZ Z (evI ?_);refine AH tys Z Z (AA Z) Z Z Z (by kernel_rfl) Z Z Z Z Z Z (bZ [(Tok.mk (3 + pickV cd 6 (Am cd vars params pure e (Am cd vars params pure e c2).2).2) 0).tt] ?_);refine nZ Z (AE tys Z Z (AA Z) Z Z Z Z Z (.own Z (by first | omega | (simp only [Sm]; omega))) Z (.own Z (by first | decide | omega)) (by decide) (by simp; omega) (by decide) Z ?_);refine nZ Z (eZ Z (nB ?_))
 (refine AQ (Le.gather (u := 10) (id := 187) rfl rfl (by first | (simp; done) | (simp; omega))) ?_; refine AU rfl ?_)
 refine rT ?_;refine eP [_] ?_ ?_
 ·first
  | (unfold ND; simp [Sn, Ts]; rfl)
 ·first
  | (unfold ND; simp [Sn, Ts]; done)
theorem Q0 (cd : List Int) (vars : Int) (params : List Int) (pure : Bool) (pv : Value) (hcd : Ct cd) (hp : Ip params) (d : Nat) : ExC cd vars params pure pv d :=
 Nat.strongRecOn (motive := fun d => ExC cd vars params pure pv d) d fun d ih dd c bw hd hd8 h0 h1 => Oz cd vars params pure d dd c bw pv hcd hp hd hd8 h0 h1 ih
open Go.Eng
def D2 (params : List Int) : List Int := (params.zipIdx.filter fun z => decide (z.1 = 0)).map fun z => (z.2 : Int)
theorem IQ {params : List Int} {k : Int} (h0 : 0 ≤ k) (h1 : k < params.length) : D2 (params.take (k + 1).toNat) = D2 (params.take k.toNat) ++ (if params[k.toNat]'(by omega) = 0 then [k] else []) := by
 rw [BO h0 h1, D2, List.zipIdx_append, List.filter_append, S5]
 have hl : (params.take k.toNat).length = k.toNat := by rw [Sq]; omega
 rw [hl]
 congr 1
 simp only [List.zipIdx_cons, List.zipIdx_nil, TV, List.filter_nil];split
 ·rename_i h
  rw [if_pos (by simpa using h)]
  simp; omega
 ·rename_i h
  rw [if_neg (by simpa using h)];rfl
abbrev Qj : List Int := [1, 2, 2, 3, 3, 4, 5, 6, 7, 8, 9]
def My (loop flat : Bool) (vars : Int) (d : Nat) (k : Int) : Int :=
 if (loop = true ∧ k = 3) ∨ (flat = true ∧ k = 7) ∨ (flat = true ∧ k = 8) ∨ (k = 1 ∧ vars = 0) ∨ (k = 3 ∧ d = 4) then 2 else k
def Cb (cd : List Int) (loop flat : Bool) (vars : Int) (d : Nat) (c : Cu) : Int × Cu :=
 if My loop flat vars d (at0 0 Qj (pickV cd 11 c)) = 6 then
  (if pickV cd 3 (curC cd 11 c) = 0 then (6, curC cd 3 (curC cd 11 c)) else (9, curC cd 3 (curC cd 11 c)))
 else (My loop flat vars d (at0 0 Qj (pickV cd 11 c)), curC cd 11 c)
def exR (cd : List Int) (vars : Int) (params : List Int) (k : Int) (c : Cu) : List Tok × Cu :=
 if k = 3 ∨ k = 6 then ([], c) else Am cd vars params (decide (pickV cd 2 (curC cd 2 c) = 0)) (1 + pickV cd 2 c).toNat (curC cd 2 (curC cd 2 c))
def nR (cd : List Int) (vars : Int) (params : List Int) (k : Int) (c : Cu) : Int × Cu :=
 if k = 1 then (pickV cd vars c, curC cd vars c) else if k = 3 then (at0 0 (D2 params) (pickV cd (D2 params).length c), curC cd (D2 params).length c) else (0, c)
structure Dr where
 blk : List Int
 news : List Stmt
 cu : Cu
def dfs (l : List Stmt) : Nat := (l.filter fun s => decide (s.kind = 3)).length
def headR (cd : List Int) (vars : Int) (params : List Int) (loop flat : Bool) (d : Nat) (c : Cu) : Stmt × Cu :=
 (⟨(Cb cd loop flat vars d c).1, (nR cd vars params (Cb cd loop flat vars d c).1 (exR cd vars params (Cb cd loop flat vars d c).1 (Cb cd loop flat vars d c).2).2).1, (exR cd vars params (Cb cd loop flat vars d c).1 (Cb cd loop flat vars d c).2).1, [], []⟩,
  (nR cd vars params (Cb cd loop flat vars d c).1 (exR cd vars params (Cb cd loop flat vars d c).1 (Cb cd loop flat vars d c).2).2).2)
def kidsR (cd : List Int) (r : Bool → Nat → Nat → Cu → Dr) (loop : Bool) (k d : Nat) (s : Stmt) (c : Cu) : Stmt × List Stmt × Cu :=
 if s.kind = 7 then
  (if pickV cd 2 (r loop k d c).cu = 0 then
   (⟨s.kind, s.n, s.ex, (r loop k d c).blk, (r loop (k + (r loop k d c).news.length) (d + dfs (r loop k d c).news) (curC cd 2 (r loop k d c).cu)).blk⟩,
    (r loop k d c).news ++ (r loop (k + (r loop k d c).news.length) (d + dfs (r loop k d c).news) (curC cd 2 (r loop k d c).cu)).news,
    (r loop (k + (r loop k d c).news.length) (d + dfs (r loop k d c).news) (curC cd 2 (r loop k d c).cu)).cu)
  else (⟨s.kind, s.n, s.ex, (r loop k d c).blk, []⟩, (r loop k d c).news, curC cd 2 (r loop k d c).cu))
 else if s.kind = 8 then (⟨s.kind, s.n, s.ex, (r true k d c).blk, []⟩, (r true k d c).news, (r true k d c).cu)
 else (s, [], c)
def NS (cd : List Int) (vars : Int) (params : List Int) (r : Bool → Nat → Nat → Cu → Dr) (loop flat : Bool) (k d : Nat) (c : Cu) : Stmt × List Stmt × Cu :=
 kidsR cd r loop (k + 1) (d + dfs [(headR cd vars params loop flat d c).1]) (headR cd vars params loop flat d c).1 (headR cd vars params loop flat d c).2
def stmL (cd : List Int) (vars : Int) (params : List Int) (r : Bool → Nat → Nat → Cu → Dr) (loop flat : Bool) (n0 d0 : Nat) : Nat → List Int → List Stmt → Cu → Dr
 | 0, b, l, c => ⟨b, l, c⟩
 | n + 1, b, l, c => if 12 ≤ n0 + l.length then ⟨b, l, c⟩ else
  stmL cd vars params r loop flat n0 d0 n (b ++ [((n0 + l.length : Nat) : Int)]) (l ++ (NS cd vars params r loop flat (n0 + l.length) (d0 + dfs l) c).1 :: (NS cd vars params r loop flat (n0 + l.length) (d0 + dfs l) c).2.1)
   (NS cd vars params r loop flat (n0 + l.length) (d0 + dfs l) c).2.2
def dr0 : Bool → Nat → Nat → Cu → Dr := fun _ _ _ c => ⟨[], [], c⟩
def HC (cd : List Int) (vars : Int) (params : List Int) : Nat → Bool → Nat → Nat → Cu → Dr
 | 0, loop, n0, d0, c => stmL cd vars params dr0 loop true n0 d0 (1 + pickV cd 3 c).toNat [] [] (curC cd 3 c)
 | e + 1, loop, n0, d0, c => stmL cd vars params (HC cd vars params e) loop false n0 d0 (1 + pickV cd 3 c).toNat [] [] (curC cd 3 c)
def CL (cd : List Int) : Nat → List Int → Cu → List Int × Cu
 | 0, l, c => (l, c)
 | k + 1, l, c => CL cd k (l ++ [at0 0 [0, 0, 0, 1, 2] (pickV cd 5 c)]) (curC cd 5 c)
def BX (cd : List Int) (c : Cu) : List Int × Cu := CL cd (pickV cd 4 c).toNat [0] (curC cd 4 c)
def Ep (a b : Int) : Int := if a < b then a else b
def FR (cd : List Int) (params : List Int) (m : Int) (c : Cu) : Func × Cu :=
 (⟨m, Ep 6 (m + pickV cd 3 c), (HC cd (Ep 6 (m + pickV cd 3 c)) params (1 + pickV cd 2 (curC cd 3 c)).toNat false 0 0 (curC cd 2 (curC cd 3 c))).blk, (HC cd (Ep 6 (m + pickV cd 3 c)) params (1 + pickV cd 2 (curC cd 3 c)).toNat false 0 0 (curC cd 2 (curC cd 3 c))).news⟩,
  (HC cd (Ep 6 (m + pickV cd 3 c)) params (1 + pickV cd 2 (curC cd 3 c)).toNat false 0 0 (curC cd 2 (curC cd 3 c))).cu)
def Bu (cd : List Int) (params : List Int) : List Int → List Func → Cu → List Func × Cu
 | [], l, c => (l, c)
 | m :: ms, l, c => Bu cd params ms (l ++ [(FR cd params m c).1]) (FR cd params m c).2
def Fp (cd : List Int) (c : Cu) : Prog × Cu := (⟨(Bu cd (BX cd c).1 (BX cd c).1 [] (BX cd c).2).1⟩, (Bu cd (BX cd c).1 (BX cd c).1 [] (BX cd c).2).2)
open Go.Eng
section
variable {cd : List Int} {vars : Int} {params : List Int}
theorem Ly {loop flat : Bool} {d : Nat} {c : Cu} : c.1 ≤ (Cb cd loop flat vars d c).2.1 ∧ (Cb cd loop flat vars d c).2.1 ≤ c.1 + 4 := by
 have p1 := AL (cd := cd) (n := 11) (c := c)
 have p2 := AL (cd := cd) (n := 3) (c := curC cd 11 c)
 unfold Cb
 repeat' split
 all_goals (simp only; omega)
theorem Rb {k : Int} {c : Cu} (hcd : Ct cd) (hp : Ip params) (h0 : 0 ≤ c.1) : c.1 ≤ (exR cd vars params k c).2.1 ∧ (exR cd vars params k c).2.1 ≤ c.1 + 104 ∧ (exR cd vars params k c).1.length ≤ 13 := by
 have p1 := AL (cd := cd) (n := 2) (c := c)
 have p2 := AL (cd := cd) (n := 2) (c := curC cd 2 c)
 have v1 := Aa (n := 2) (c := c) hcd h0
 have v2 := v1.2.1 (by omega)
 have e := CS (vars := vars) (pure := decide (pickV cd 2 (curC cd 2 c) = 0)) hcd hp (1 + pickV cd 2 c).toNat (curC cd 2 (curC cd 2 c)) (by omega)
 have hb : exA (1 + pickV cd 2 c).toNat ≤ 100 ∧ exB (1 + pickV cd 2 c).toNat ≤ 13 := by
  rcases (show pickV cd 2 c = 0 ∨ pickV cd 2 c = 1 by omega) with h | h <;> rw [h] <;> decide
 unfold exR;split
 ·simp only [List.length_nil]; omega
 ·omega
theorem nR_at {k : Int} {c : Cu} : c.1 ≤ (nR cd vars params k c).2.1 ∧ (nR cd vars params k c).2.1 ≤ c.1 + 2 := by
 have p1 := AL (cd := cd) (n := vars) (c := c)
 have p2 := AL (cd := cd) (n := (D2 params).length) (c := c)
 unfold nR
 repeat' split
 all_goals (simp only; omega)
def Pq (s : Stmt) : Prop := s.ex.length ≤ 13 ∧ s.thn.length ≤ 3 ∧ s.els.length ≤ 3
theorem Qo {loop flat : Bool} {d : Nat} {c : Cu} (hcd : Ct cd) (hp : Ip params) (h0 : 0 ≤ c.1) : c.1 ≤ (headR cd vars params loop flat d c).2.1 ∧ (headR cd vars params loop flat d c).2.1 ≤ c.1 + 110 ∧ Pq (headR cd vars params loop flat d c).1 := by
 have h1 := Ly (cd := cd) (vars := vars) (loop := loop) (flat := flat) (d := d) (c := c)
 have h2 := Rb (vars := vars) (k := (Cb cd loop flat vars d c).1) (c := (Cb cd loop flat vars d c).2) hcd hp (by omega)
 have h3 := nR_at (cd := cd) (vars := vars) (params := params) (k := (Cb cd loop flat vars d c).1) (c := (exR cd vars params (Cb cd loop flat vars d c).1 (Cb cd loop flat vars d c).2).2)
 unfold headR;exact ⟨by dsimp only; omega, by dsimp only; omega, h2.2.2, by simp, by simp⟩
def DrOk (k : Nat) (c : Cu) (r : Dr) : Prop := c.1 ≤ r.cu.1 ∧ r.cu.1 ≤ c.1 + 2 + 200 * r.news.length ∧ k + r.news.length ≤ 12 ∧ r.blk.length ≤ 3 ∧ ∀ s, s ∈ r.news → Pq s
def NM (r : Bool → Nat → Nat → Cu → Dr) : Prop := ∀ loop k d c, 0 ≤ c.1 → k ≤ 12 → DrOk k c (r loop k d c)
theorem L3 {r : Bool → Nat → Nat → Cu → Dr} (hr : NM r) {loop : Bool} {k d : Nat} {s : Stmt} {c : Cu} (hs : Pq s) (h0 : 0 ≤ c.1) (hk : k ≤ 12) :
  c.1 ≤ (kidsR cd r loop k d s c).2.2.1 ∧ (kidsR cd r loop k d s c).2.2.1 ≤ c.1 + 6 + 200 * (kidsR cd r loop k d s c).2.1.length ∧ k + (kidsR cd r loop k d s c).2.1.length ≤ 12 ∧ Pq (kidsR cd r loop k d s c).1 ∧ ∀ x, x ∈ (kidsR cd r loop k d s c).2.1 → Pq x := by
 have a := hr loop k d c h0 hk
 have p := AL (cd := cd) (n := 2) (c := (r loop k d c).cu)
 have b := hr loop (k + (r loop k d c).news.length) (d + dfs (r loop k d c).news) (curC cd 2 (r loop k d c).cu) (by have := a.1; omega) a.2.2.1
 have e := hr true k d c h0 hk
 obtain ⟨a1, a2, a3, a4, a5⟩ := a
 obtain ⟨b1, b2, b3, b4, b5⟩ := b
 obtain ⟨e1, e2, e3, e4, e5⟩ := e
 unfold kidsR;split
 ·split
  ·refine ⟨by dsimp only; omega, by dsimp only; rw [Sm]; omega, by dsimp only; rw [Sm]; omega, ⟨hs.1, a4, b4⟩, fun x hx => ?_⟩
   rcases So.1 hx with hx | hx
   ·exact a5 x hx
   ·exact b5 x hx
  ·exact ⟨by dsimp only; omega, by dsimp only; omega, by dsimp only; omega, ⟨hs.1, a4, by simp⟩, a5⟩
 ·split
  ·exact ⟨by dsimp only; omega, by dsimp only; omega, by dsimp only; omega, ⟨hs.1, e4, by simp⟩, e5⟩
  ·exact ⟨by dsimp only; omega, by dsimp only; omega, by simpa using hk, hs, by simp⟩
theorem Nn {r : Bool → Nat → Nat → Cu → Dr} (hcd : Ct cd) (hp : Ip params) (hr : NM r) {loop flat : Bool} {n0 d0 : Nat} : ∀ (n : Nat) (b : List Int) (l : List Stmt) (c : Cu), 0 ≤ c.1 → n0 + l.length ≤ 12 → (∀ s, s ∈ l → Pq s) →
  c.1 ≤ (stmL cd vars params r loop flat n0 d0 n b l c).cu.1 ∧ (stmL cd vars params r loop flat n0 d0 n b l c).cu.1 + 200 * l.length ≤ c.1 + 200 * (stmL cd vars params r loop flat n0 d0 n b l c).news.length ∧ n0 + (stmL cd vars params r loop flat n0 d0 n b l c).news.length ≤ 12 ∧
   (stmL cd vars params r loop flat n0 d0 n b l c).blk.length ≤ b.length + n ∧ ∀ s, s ∈ (stmL cd vars params r loop flat n0 d0 n b l c).news → Pq s
 | 0, b, l, c, h0, hl, hs => by rw [stmL]; exact ⟨by dsimp only; omega, by dsimp only; omega, hl, by simp, hs⟩
 | n + 1, b, l, c, h0, hl, hs => by
  rw [stmL];split
  ·exact ⟨by dsimp only; omega, by dsimp only; omega, hl, by simp, hs⟩
  ·rename_i hlt
   have h1 := Qo (vars := vars) (loop := loop) (flat := flat) (d := d0 + dfs l) (c := c) hcd hp h0
   have h2 := L3 (cd := cd) hr (loop := loop) (k := n0 + l.length + 1) (d := d0 + dfs l + dfs [(headR cd vars params loop flat (d0 + dfs l) c).1]) (s := (headR cd vars params loop flat (d0 + dfs l) c).1) (c := (headR cd vars params loop flat (d0 + dfs l) c).2) h1.2.2 (by omega) (by omega)
   obtain ⟨k1, k2, k3, k4, k5⟩ := h2
   unfold NS;generalize kidsR cd r loop (n0 + l.length + 1) (d0 + dfs l + dfs [(headR cd vars params loop flat (d0 + dfs l) c).1]) (headR cd vars params loop flat (d0 + dfs l) c).1 (headR cd vars params loop flat (d0 + dfs l) c).2 = z at k1 k2 k3 k4 k5
   have ih := Nn hcd hp hr (loop := loop) (flat := flat) (n0 := n0) (d0 := d0) n (b ++ [((n0 + l.length : Nat) : Int)]) (l ++ z.1 :: z.2.1) z.2.2 (by omega) (by rw [Sm, Sp]; omega) (fun s h => by
    rcases So.1 h with h | h
    ·exact hs s h
    ·rcases Sw.1 h with rfl | h
     ·exact k4
     ·exact k5 s h)
   rw [Sm, Sp, Sm, Sp, List.length_nil] at ih
   obtain ⟨i1, i2, i3, i4, i5⟩ := ih
   exact ⟨by omega, by omega, i3, by omega, i5⟩
theorem Re : NM dr0 := fun loop k d c h0 hk => ⟨Tr _, by unfold dr0; simp; omega, by unfold dr0; simpa using hk, by unfold dr0; simp, fun s h => by unfold dr0 at h; simp at h⟩
theorem No {r : Bool → Nat → Nat → Cu → Dr} {flat : Bool} (hcd : Ct cd) (hp : Ip params) (hr : NM r) (loop : Bool) (k d : Nat) (c : Cu) (h0 : 0 ≤ c.1) (hk : k ≤ 12) : DrOk k c (stmL cd vars params r loop flat k d (1 + pickV cd 3 c).toNat [] [] (curC cd 3 c)) := by
 have p1 := AL (cd := cd) (n := 3) (c := c)
 have v1 := Aa (n := 3) (c := c) hcd h0
 have v2 := v1.2.1 (by omega)
 have h := Nn (vars := vars) hcd hp hr (loop := loop) (flat := flat) (n0 := k) (d0 := d) (1 + pickV cd 3 c).toNat [] [] (curC cd 3 c) (by omega) (by simpa using hk) (by simp)
 generalize stmL cd vars params r loop flat k d (1 + pickV cd 3 c).toNat [] [] (curC cd 3 c) = z at h
 obtain ⟨i1, i2, i3, i4, i5⟩ := h
 have e0 : ([] : List Stmt).length = 0 := rfl
 have e1 : ([] : List Int).length = 0 := rfl
 rw [e0] at i2;rw [e1] at i4;exact ⟨by omega, by omega, i3, by omega, i5⟩
theorem Kg (hcd : Ct cd) (hp : Ip params) : ∀ e : Nat, NM (HC cd vars params e)
 | 0 => fun loop k d c h0 hk => by rw [HC]; exact No hcd hp Re loop k d c h0 hk
 | e + 1 => fun loop k d c h0 hk => by rw [HC]; exact No hcd hp (Kg hcd hp e) loop k d c h0 hk
end
open Go.Eng
theorem OX (a b : Int) : Fun Try.prog 110 [.t (.int a), .t (.int b)] (A2 [.t (.int (Ep a b))]) := by
 refine Fun.begin tys Try.func110 Z Z (N := 10) [(0, .t (.int a)), (1, .t (.int b))] Z Z (fun w0 G F0 => ?_);refine sG (eZ Z (nB (sQ (sG (eK 3 Z (nB ?_))))));refine AB Z (fun h1 => ?_) (fun h1 => ?_)
 ·
  simp only [HS] at h1;refine sG (eK 2 Z (nB (rT (tR (eR ?_)))))
  ·(rw [Ep, if_pos (by assumption)]; done)
 simp only [HS] at h1;refine AC (tN (sG (eK 2 Z (nB (rT (eR ?_))))))
 ·(rw [Ep, if_neg (by omega)]; done)
open Go.Eng
section
variable {cd : List Int} {params : List Int}
theorem SH {k : Int} (h0 : 0 ≤ k) (h1 : k < 5) : (0 : Int) ≤ at0 0 [0, 0, 0, 1, 2] k ∧ at0 0 [0, 0, 0, 1, 2] k ≤ (2 : Int) := by
 rcases (show k = 0 ∨ k = 1 ∨ k = 2 ∨ k = 3 ∨ k = 4 by omega) with h | h | h | h | h <;> subst h <;> decide
theorem Hk (hcd : Ct cd) : ∀ (k : Nat) (l : List Int) (c : Cu), 0 ≤ c.1 → (∀ m, m ∈ l → 0 ≤ m ∧ m ≤ 2) →
  c.1 ≤ (CL cd k l c).2.1 ∧ (CL cd k l c).2.1 ≤ c.1 + 2 * k ∧ (CL cd k l c).1.length = l.length + k ∧ (∀ m, m ∈ (CL cd k l c).1 → 0 ≤ m ∧ m ≤ 2) ∧ l <+: (CL cd k l c).1
 | 0, l, c, h0, hl => by simp [CL]; exact hl
 | k + 1, l, c, h0, hl => by
  have p := AL (cd := cd) (n := 5) (c := c)
  have v := Aa (n := 5) (c := c) hcd h0
  have f := SH v.1 (v.2.1 (by omega))
  have ih := Hk hcd k (l ++ [at0 0 [0, 0, 0, 1, 2] (pickV cd 5 c)]) (curC cd 5 c) (by omega) (fun m hm => by
   rcases So.1 hm with hm | hm
   ·exact hl m hm
   ·rw [S1] at hm; subst hm; exact f)
  rw [Sm, Sp, List.length_nil] at ih
  obtain ⟨a, b, d, e, g⟩ := ih
  rw [CL];exact ⟨by omega, by omega, by omega, e, List.IsPrefix.trans (List.prefix_append _ _) g⟩
theorem FJ {c : Cu} (hcd : Ct cd) (h0 : 0 ≤ c.1) : c.1 ≤ (BX cd c).2.1 ∧ (BX cd c).2.1 ≤ c.1 + 10 ∧ Ip (BX cd c).1 ∧ [(0 : Int)] <+: (BX cd c).1 := by
 have p := AL (cd := cd) (n := 4) (c := c)
 have v := Aa (n := 4) (c := c) hcd h0
 have v2 := v.2.1 (by omega)
 have h := Hk hcd (pickV cd 4 c).toNat [0] (curC cd 4 c) (by omega) (by simp)
 rw [Sp, List.length_nil] at h
 obtain ⟨a, b, d, e, g⟩ := h
 unfold BX;exact ⟨by omega, by omega, ⟨by omega, e⟩, g⟩
def okFn (f : Func) : Prop := f.body.length ≤ 3 ∧ f.stmts.length ≤ 12 ∧ ∀ s, s ∈ f.stmts → Pq s
theorem F3 {m : Int} {c : Cu} (hcd : Ct cd) (hp : Ip params) (h0 : 0 ≤ c.1) : c.1 ≤ (FR cd params m c).2.1 ∧ (FR cd params m c).2.1 ≤ c.1 + 2500 ∧ okFn (FR cd params m c).1 := by
 have p1 := AL (cd := cd) (n := 3) (c := c)
 have p2 := AL (cd := cd) (n := 2) (c := curC cd 3 c)
 have h := Kg (vars := Ep 6 (m + pickV cd 3 c)) hcd hp (1 + pickV cd 2 (curC cd 3 c)).toNat false 0 0 (curC cd 2 (curC cd 3 c)) (by omega) (by omega)
 obtain ⟨a, b, d, e, g⟩ := h
 unfold FR;exact ⟨by dsimp only; omega, by dsimp only; omega, e, by dsimp only; omega, g⟩
theorem Jy (hcd : Ct cd) (hp : Ip params) : ∀ (ms : List Int) (l : List Func) (c : Cu), 0 ≤ c.1 → (∀ f, f ∈ l → okFn f) →
  c.1 ≤ (Bu cd params ms l c).2.1 ∧ (Bu cd params ms l c).2.1 ≤ c.1 + 2500 * ms.length ∧ (Bu cd params ms l c).1.length = l.length + ms.length ∧ ∀ f, f ∈ (Bu cd params ms l c).1 → okFn f
 | [], l, c, h0, hl => by simp [Bu]; exact hl
 | m :: ms, l, c, h0, hl => by
  have h := F3 (m := m) hcd hp h0
  have ih := Jy hcd hp ms (l ++ [(FR cd params m c).1]) (FR cd params m c).2 (by omega) (fun f hf => by
   rcases So.1 hf with hf | hf
   ·exact hl f hf
   ·rw [S1] at hf; subst hf; exact h.2.2)
  rw [Sm, Sp, List.length_nil] at ih;rw [Bu, Sp];exact ⟨by omega, by omega, by omega, ih.2.2.2⟩
theorem Li {c : Cu} (hcd : Ct cd) (h0 : 0 ≤ c.1) : c.1 ≤ (Fp cd c).2.1 ∧ (Fp cd c).2.1 ≤ c.1 + 10010 ∧ 1 ≤ (Fp cd c).1.funcs.length ∧ (Fp cd c).1.funcs.length ≤ 4 ∧ ∀ f, f ∈ (Fp cd c).1.funcs → okFn f := by
 obtain ⟨a, b, d, e⟩ := FJ (c := c) hcd h0
 have h := Jy hcd d (BX cd c).1 [] (BX cd c).2 (by omega) (by simp)
 have hl := e.length_le
 rw [Sp, List.length_nil] at hl;rw [List.length_nil] at h
 have hd := d.1
 unfold Fp;exact ⟨by dsimp only; omega, by dsimp only; omega, by dsimp only; omega, by dsimp only; omega, h.2.2.2⟩
end
open Go.Eng
structure TS where
 k : Int
 n : Int
 a : T
 b : T
 c : T
def TS.tt (z : TS) : T := .agg [T.int z.k, T.int z.n, z.a, z.b, z.c]
def Ai (zs : List TS) : List Int := D2 (zs.map fun z => z.k - 3)
theorem I9 {zs : List TS} {k : Int} (h0 : 0 ≤ k) (h1 : k < zs.length) : Ai (zs.take (k + 1).toNat) = Ai (zs.take k.toNat) ++ (if (zs[k.toNat]'(by omega)).k = 3 then [k] else []) := by
 have h := IQ (params := zs.map fun z => z.k - 3) h0 (by rw [Sk]; exact h1)
 rw [← List.map_take, ← List.map_take, List.getElem_map] at h;unfold Ai;rw [h]
 congr 1
 split
 ·rw [if_pos (by omega)]
 ·rw [if_neg (by omega)]
theorem KX (p : Int → Bool) : ∀ (l : List Int) (i : Nat), ((l.zipIdx i).filter fun z => p z.1).length = (l.filter p).length
 | [], i => rfl
 | a :: l, i => by
  rw [List.zipIdx_cons, TV, TV];simp only;split
  ·rw [Sp, Sp, KX p l]
  ·exact KX p l _
theorem C0 (zs : List TS) : (Ai zs).length = (zs.filter fun z => decide (z.k = 3)).length := by
 unfold Ai D2;rw [Sk, KX (fun z => decide (z = 0)), List.filter_map, Sk]
 congr 1
 apply List.filter_congr
 intro z _;simp only [Function.comp]
 by_cases h : z.k = 3
 ·simp [h]
 ·simp [h]; omega
theorem Jl (p v : Int) (zs : List TS) (hz : zs.length ≤ 1048576) : Fun Try.prog 81 [.t (.agg [T.int p, T.int v, T.ints [], .list 5 (zs.map TS.tt)])] (A2 [.own (T.ints (Ai zs))]) := by
 refine Fun.begin tys Try.func81 Z Z (N := 23) [(0, .t (.agg [T.int p, T.int v, T.ints [], .list 5 (zs.map TS.tt)]))] Z Z (fun w0 G F0 => ?_);refine sG (AV Z Z (AA Z) Z Z (nZ Z (eZ Z (nA (eZ Z (WO_le (Le.nilOwn (u := 3) 1 Z) (nZ Z (WO_le (Le.adoptE (u := 3) 104 Z Z) (nZ Z (nB (sQ (sG (eK 2 Z (evE ?_))))))))))))));refine eZ Z (nB (AD ?_));refine lK (α := Int × List Int × List T × Nat) [7, 8] [] (fun x => [(9, .t (.int (x.1))), (3, .sl 104 0 (x.2.2.2))]) (fun x => [(104, .L 1 (x.2.2.1))]) (fun x => 0 ≤ (x.1) ∧ (x.1) ≤ zs.length ∧ (x.2.2.2) = (x.2.2.1).length ∧ (x.2.2.1) = (x.2.1).map T.int ∧ (x.2.1) = Ai (zs.take (x.1).toNat) ∧ ((x.2.1).length : Int) ≤ (x.1)) (fun x => Int.toNat (zs.length - (x.1))) (0, [], [], 0) ?_ (fun x hx => ?_)
 ·dsimp only
  exact ⟨by omega, by omega, rfl, rfl, rfl, by simp⟩
 obtain ⟨k, l, ys, n⟩ := x
 obtain ⟨hk0, hk1, hn, hys, hl, hll⟩ := hx
 dsimp only at hk0 hk1 hn hys hl hll ⊢;refine nY Z (sG (eZ Z (nB (sQ ?_))));refine AB Z (fun h1 => ?_) (fun h1 => ?_)
 ·
  simp only [HS] at h1;refine AC (tN (sQ (AD (sG (eZ Z ?_)))));refine iY (k := ?_);refine eZ Z ?_
  try refine WO_le (Le.freeze (u := 13) rfl) ?_
  refine nZ Z (WO_le (Le.blur5 (t := 13) Z) (nZ Z (AF tys Z Z (AA Z) Z Z Z (nZ Z (eZ Z (sT Z (nZ Z (nB (sQ (kY [3,4,5,7,8,9,10,11,12,13] Z (rG (eK 3 Z (nB ?_)))))))))))));refine AB Z (fun h2 => ?_) (fun h2 => ?_)
  ·
   simp only [HS] at h2
   have hyl : ys.length = l.length := by rw [hys, Sk]
   refine rG (eK 2 Z (bZ [T.int k] ?_));refine nZ Z (AE tys Z Z (AA Z) Z Z Z Z Z (.own Z (by first | omega | (simp only [Sm]; omega))) Z (.own Z (by first | decide | omega)) (by decide) (by simp only [Sq, Sp, List.length_nil]; omega) (by decide) Z ?_);refine nZ Z (eZ Z (oN (bN (tN (kY [3,4,5,7,8,9,10,11,12,13,14,15,16,17,18,19,20] Z (rG (evI ?_)))))));refine eZ Z (oN ?_);refine lQ (_, l ++ (if (zs[k.toNat]'(by omega)).k = 3 then [k] else []), _, _) ?_ ?_
   ·dsimp only
    subst hn;refine ⟨by omega, by omega, ?_, ?_, by rw [I9 hk0 (by omega), hl], ?_⟩
    all_goals first | rfl | (rw [if_pos (by assumption), Sy, hys, S5]; rfl) | (rw [if_neg (by assumption), S3]; exact hys) | (rw [if_pos (by assumption)]; simp [hys]; done) | (rw [if_pos (by assumption)]; simp [hys]; omega) | (rw [if_neg (by assumption)]; simp [hys]; done) | (rw [if_neg (by assumption)]; simp [hys]; omega) | (simp; done)
   ·(show Int.toNat _ < Int.toNat _); omega
  simp only [HS] at h2;refine AC (bN (tN (rG (evI ?_))));refine eZ Z (oN ?_);refine lQ (_, l ++ (if (zs[k.toNat]'(by omega)).k = 3 then [k] else []), _, _) ?_ ?_
  ·dsimp only
   subst hn;refine ⟨by omega, by omega, ?_, ?_, by rw [I9 hk0 (by omega), hl], ?_⟩
   all_goals first | rfl | (rw [if_pos (by assumption), Sy, hys, S5]; rfl) | (rw [if_neg (by assumption), S3]; exact hys) | (rw [if_pos (by assumption)]; simp [hys]; done) | (rw [if_pos (by assumption)]; simp [hys]; omega) | (rw [if_neg (by assumption)]; simp [hys]; done) | (rw [if_neg (by assumption)]; simp [hys]; omega) | (simp; done)
  ·(show Int.toNat _ < Int.toNat _); omega
 simp only [HS] at h1;refine AN (tE (AJ (AI (tN (sQ ?_)))));subst hn;refine rG (eK 2 Z (nB (AQ (Le.gather (u := 2) (id := 104) Z Z (by omega)) (nY Z (rT (eR ?_))))))
 ·rw [hys, hl, A5 (by omega), Sn (by simp)]
  rfl
end Go.Proofs.Ytddfnpiikkilhaa
