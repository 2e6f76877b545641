/- Walks and laws of the claim. -/
import Derived.Test.YtddfnpiikkilhaaTy
import Derived.Test.YtddfnpiikkilhaaRows
import Derived.Test.YtddfnpiikkilhaaMb
import Derived.Test.YtddfnpiikkilhaaRows
import Derived.Test.YtddfnpiikkilhaaMe
set_option linter.unusedVariables false
set_option linter.unusedSimpArgs false
set_option maxRecDepth 10000
set_option maxHeartbeats 2000000
namespace Go.Proofs.Ytddfnpiikkilhaa
open Go.Eng
open Go.Eng
theorem A6 (n lo hi : Int) : Fun Try.prog 77 [.t (.int n), .t (.int lo), .t (.int hi)] (A5 [.t (.bool (decide (lo ≤ n ∧ n ≤ hi)))]) := by
 refine Fun.begin tys Try.func77 Z Z (N := 15) [(0, .t (.int n)), (1, .t (.int lo)), (2, .t (.int hi))] Z Z (fun w0 G F0 => ?_);refine sG (eZ Z (nA (eK 4 Z ?_)));refine gB (fun h1 => ?_) (fun h1 => ?_)
 ·
  simp only [HS] at h1;refine xK 4 Z (kZ [6] Z (nB (rT (eR ?_))))
  ·(simp_all <;> omega)
 simp only [HS] at h1;refine xK 4 Z (kZ [6,14] Z (eZ Z (nB (rT (eR ?_)))))
 ·(simp_all <;> omega)
theorem Al (n lo hi : Int) : Fun Try.prog 37 [.t (.int n), .t (.int lo), .t (.int hi)] (A5 [.t (.bool (decide (lo ≤ n ∧ n ≤ hi)))]) := by
 refine Fun.begin tys Try.func37 Z Z (N := 15) [(0, .t (.int n)), (1, .t (.int lo)), (2, .t (.int hi))] Z Z (fun w0 G F0 => ?_);refine sG (eZ Z (nA (eK 4 Z ?_)));refine gB (fun h1 => ?_) (fun h1 => ?_)
 ·
  simp only [HS] at h1;refine xK 4 Z (kZ [6] Z (nB (rT (eR ?_))))
  ·(simp_all <;> omega)
 simp only [HS] at h1;refine xK 4 Z (kZ [6,14] Z (eZ Z (nB (rT (eR ?_)))))
 ·(simp_all <;> omega)
def CK (l : List Int) (lo hi : Int) : Bool := l.all fun n => decide (lo ≤ n ∧ n ≤ hi)
theorem Lf {l : List Int} {lo hi k : Int} (h0 : 0 ≤ k) (h1 : k < l.length) (h : CK (l.take k.toNat) lo hi = true) (h2 : lo ≤ l[k.toNat]'(by omega) ∧ l[k.toNat]'(by omega) ≤ hi) : CK (l.take (k + 1).toNat) lo hi = true := by
 rw [show (k + 1).toNat = k.toNat + 1 from by omega, List.take_add_one, List.getElem?_eq_getElem (by omega)];unfold CK at *;rw [List.all_append, h]
 simpa using h2
theorem O8 {l : List Int} {lo hi k : Int} (h0 : 0 ≤ k) (h1 : k < l.length) (h2 : ¬ (lo ≤ l[k.toNat]'(by omega) ∧ l[k.toNat]'(by omega) ≤ hi)) : CK l lo hi = false := by
 unfold CK;rw [List.all_eq_false];exact ⟨l[k.toNat]'(by omega), Qr _, by simpa using h2⟩
theorem NP {l : List Int} {lo hi k : Int} (h : CK (l.take k.toNat) lo hi = true) (h0 : 0 ≤ k) (h1 : (l.length : Int) ≤ k) : CK l lo hi = true := by
 rwa [Qi (by omega)] at h
theorem IQ (l : List Int) (lo hi : Int) (hl : l.length ≤ 1073741824) : Fun Try.prog 56 [.t (T.ints l), .t (.int lo), .t (.int hi)] (A5 [.t (.bool (CK l lo hi))]) := by
 refine Fun.begin tys Try.func56 Z Z (N := 21) [(0, .t (T.ints l)), (1, .t (.int lo)), (2, .t (.int hi))] Z Z (fun w0 G F0 => ?_);refine sG (eZ Z (nB (sQ (sG (eZ Z (evE ?_))))));refine eZ Z (nB (AF ?_));refine lK (α := Int) [9, 10, 1, 2] [] (fun x => [(11, .t (.int x))]) (fun x => []) (fun x => 0 ≤ x ∧ x ≤ l.length ∧ CK (l.take x.toNat) lo hi = true) (fun x => Int.toNat (l.length - x)) 0 ?_ (fun k hx => ?_)
 ·refine ⟨?_, ?_, ?_⟩ <;> simp [CK]
 obtain ⟨hk0, hk1, hk2⟩ := hx
 refine nY Z (sG (eZ Z (nB (sQ ?_))));refine AD Z (fun h1 => ?_) (fun h1 => ?_)
 ·
  simp only [HS] at h1;refine AE (tN (sQ (AF (sG ?_))));refine iY (k := ?_);refine eK 2 Z (nA (eK 3 Z (AQ ?_)));refine ⟨_, A6 _ _ _, rfl, ?_⟩;refine eZ Z (kZ [1,2,8,9,10,11,12,13,14,15,16,17,18,19] Z (nB ?_));refine AD Z (fun h2 => ?_) (fun h2 => ?_)
  ·
   simp only [HS] at h2;refine sG (eZ Z (nB (rT (bR (tR (AR (bR (tR (eR ?_)))))))))
   ·rw [O8 hk0 (by omega) (by simpa using h2)]
  simp only [HS] at h2;refine AE (bN (tN (rG (evI ?_))));refine eZ Z (oN ?_);refine lQ _ ?_ ?_
  ·skip
   exact ⟨by omega, by omega, Lf hk0 (by omega) hk2 (by simpa using h2)⟩
  ·(show Int.toNat _ < Int.toNat _); omega
 simp only [HS] at h1;refine AV (tE (AP (AO (tN (sG (eZ Z (nB (rT (eR ?_)))))))))
 ·rw [NP hk2 hk0 (by omega)]
open Go.Eng
theorem CU {α : Type} {l : List α} {k : Int} (h0 : 0 ≤ k) (h1 : k < l.length) : l.drop k.toNat = l[k.toNat]'(by omega) :: l.drop (k + 1).toNat := by
 rw [show (k + 1).toNat = k.toNat + 1 from by omega];exact List.drop_eq_getElem_cons (by omega)
theorem A7 {α : Type} {l : List α} {k : Int} (h1 : (l.length : Int) ≤ k) : l.drop k.toNat = [] := List.drop_of_length_le (by omega)
theorem M5 {α : Type} {xs : List T} {l : List α} {g : α → T} {k : Int} (h0 : 0 ≤ k) (h1 : k < l.length) (hl : xs.length = l.length) (h : xs.take k.toNat = (l.take k.toNat).map g) :
  (xs.set k.toNat (g (l[k.toNat]'(by omega)))).take (k + 1).toNat = (l.take (k + 1).toNat).map g := by
 rw [show (k + 1).toNat = k.toNat + 1 from by omega, List.take_add_one, List.take_add_one, List.getElem?_set_self (by omega), List.getElem?_eq_getElem (by omega)];simp only [Option.toList_some, Q8, Q4, List.map_nil, ← h];rw [List.take_set_of_le (Qu _)]
theorem Ot {α : Type} {xs : List T} {l : List α} {g : α → T} {k : Int} (h1 : (l.length : Int) ≤ k) (hl : xs.length = l.length) (h : xs.take k.toNat = (l.take k.toNat).map g) : xs = l.map g := by
 rwa [Qi (by omega), Qi (by omega)] at h
def at0 {α : Type} (d : α) (l : List α) (i : Int) : α := (l[i.toNat]?).getD d
theorem Dz {α : Type} {d : α} {l : List α} {i : Int} (h0 : 0 ≤ i) (h1 : i < l.length) : at0 d l i = l[i.toNat]'(by omega) := by
 unfold at0; rw [List.getElem?_eq_getElem (by omega)]; rfl
def cnt (ll : List (List Int)) : Bool := decide ((ll.length : Int) ≤ 5) && ll.all fun l => decide ((l.length : Int) ≤ 300) && CK l 0 1000000
def FI {α : Type} (p : α → Bool) : List α → Int → Int
 | [], _ => -1
 | x :: xs, k => if p x then k else FI p xs (k + 1)
theorem F1 {α : Type} {p : α → Bool} : ∀ {l : List α} {k : Int}, 0 ≤ k → decide (0 ≤ FI p l k) = l.any p
 | [], _, _ => rfl
 | x :: l, k, h => by
  rw [FI, List.any_cons];cases hp : p x
  ·simpa using F1 (l := l) (k := k + 1) (by omega)
  ·simpa using h
theorem KU {α : Type} {p : α → Bool} {l : List α} {k : Int} (h0 : 0 ≤ k) (h1 : k < l.length) : FI p (l.drop k.toNat) k = if p (l[k.toNat]'(by omega)) then k else FI p (l.drop (k + 1).toNat) (k + 1) := by
 rw [CU h0 h1, FI]
theorem Oc (l : List Int) (p : Int → Bool) (f : Nat) (caps : List D) (hcaps : caps.all D.imm = true) (hl : l.length ≤ 9223372036854775807) (hf : ∀ x, x ∈ l → Fun Try.prog f (.t (T.int x) :: caps) (.t (.bool (p x)))) : Fun Try.prog 93 [.t (T.ints l), .clo f caps] (A5 [.t (.int (FI p l 0))]) := by
 refine Fun.begin tys Try.func93 Z Z (N := 19) [(0, .t (T.ints l)), (1, .clo f caps)] Z Z (fun w0 G F0 => ?_);refine sG (eZ Z (nB (sQ (sG (eZ Z (evE ?_))))));refine eZ Z (nB (AF ?_));refine lK (α := Int) [0, 1, 7] [] (fun x => [(8, .t (.int x))]) (fun x => []) (fun x => 0 ≤ x ∧ x ≤ l.length ∧ FI p l 0 = FI p (l.drop x.toNat) x) (fun x => Int.toNat (l.length - x)) 0 ?_ (fun k hx => ?_)
 ·exact ⟨by omega, by omega, rfl⟩
 obtain ⟨hk0, hk1, hk2⟩ := hx
 refine nY Z (sG (eZ Z (nB (sQ ?_))));refine AD Z (fun h1 => ?_) (fun h1 => ?_)
 ·
  simp only [HS] at h1;refine AE (tN (sQ (AF (sG (eK 2 Z (nA (Dt tys Z Z (AA Z) Z Z (by assumption) ?_)))))));refine eK 2 Z ?_;refine iY (k := ?_);refine eZ Z ?_;refine CX Z Z (AA Z) Z Z (by repeat (first | exact ResL.done | exact ResL.imms (by first | rfl | assumption) | refine ResL.t ?_ | refine ResL.own ?_ | refine ResL.slA Z (by first | rfl | (simp; done) | (simp; omega)) ?_ | refine ResL.sl Z (by first | omega | (simp; done) | (simp; omega)) ?_ | refine ResL.rp ?_ | refine ResL.clo ?_ ?_ | refine ResL.aggT ?_ ?_ | refine ResL.ref Z ?_ ?_ | refine ResL.nil' ?_ | refine ResL.nil 1 ?_)) (hf _ (Qr _)) Z ?_;refine kZ [0,1,5,7,8,9,10,11,12,13,14,15,16] Z (nB ?_);refine AD Z (fun h2 => ?_) (fun h2 => ?_)
  ·
   refine sG (eK 2 Z (nB (rT (bR (tR (AR (bR (tR (eR ?_)))))))))
   ·rw [hk2, KU hk0 h1]
    simp [h2]
    done
  refine AE (bN (tN (rG (evI ?_))));refine eZ Z (oN ?_);refine lQ _ ?_ ?_
  ·skip
   refine ⟨by omega, by omega, ?_⟩; rw [hk2, KU hk0 h1]; simp [h2]
  ·(show Int.toNat _ < Int.toNat _); omega
 simp only [HS] at h1;refine AV (tE (AP (AO (tN (sG (eZ Z (nB (rT (eR ?_)))))))))
 ·rw [hk2, A7 h1]
  rfl
theorem FQ (l : List Int) (p : Int → Bool) (f : Nat) (caps : List D) (hcaps : caps.all D.imm = true) (hl : l.length ≤ 9223372036854775807) (hf : ∀ x, x ∈ l → Fun Try.prog f (.t (T.int x) :: caps) (.t (.bool (p x)))) : Fun Try.prog 62 [.t (T.ints l), .clo f caps] (A5 [.t (.bool (l.any p))]) := by
 refine Fun.begin tys Try.func62 Z Z (N := 9) [(0, .t (T.ints l)), (1, .clo f caps)] Z Z (fun w0 G F0 => ?_);refine sG (eZ Z (nA (eZ Z (Dt tys Z Z (AA Z) Z Z (by assumption) ?_))));refine CX Z Z (AA Z) Z Z (by repeat (first | exact ResL.done | exact ResL.imms (by first | rfl | assumption) | refine ResL.t ?_ | refine ResL.own ?_ | refine ResL.slA Z (by first | rfl | (simp; done) | (simp; omega)) ?_ | refine ResL.sl Z (by first | omega | (simp; done) | (simp; omega)) ?_ | refine ResL.rp ?_ | refine ResL.clo ?_ ?_ | refine ResL.aggT ?_ ?_ | refine ResL.ref Z ?_ ?_ | refine ResL.nil' ?_ | refine ResL.nil 1 ?_)) (Oc l p f caps hcaps hl hf) Z ?_;refine eK 2 Z (nB (rT (eR ?_)))
 ·rw [← F1 (Int.le_refl 0)]
def hot1 (k : Int) : List Int → Int → Int × Int × Int → Int × Int × Int
 | [], _, s => s
 | n :: l, i, s => hot1 k l (i + 1) (if s.2.2 < n then (k, i, n) else s)
def hotGo : List (List Int) → Int → Int × Int × Int → Int × Int × Int
 | [], _, s => s
 | l :: ll, k, s => hotGo ll (k + 1) (hot1 k l 0 s)
def hot (ll : List (List Int)) : Int × Int × Int := if cnt ll then hotGo ll 0 (0, 0, 0) else (0, 0, 0)
open Go.ChangeShapes Go.WideShapes Go.ChangeAt Go.RowKit Go.Eng
theorem Try.own : ownKnob Try.prog.godebug = none := by kernel_rfl
theorem Try.laidOut : laidOutB Try.prog = true := by kernel_rfl
open Go.Eng
def okN {α : Type} (B : Nat) (l : List α) : Prop := l.length ≤ B
def okL {α : Type} (B : Nat) (ok : α → Prop) (l : List α) : Prop := l.length ≤ B ∧ ∀ x, x ∈ l → ok x
theorem M1 {α : Type} {l : List (List α)} {k : Int} (h0 : 0 ≤ k) (h1 : k < l.length) : (l.drop k.toNat).flatten = l[k.toNat]'(by omega) ++ (l.drop (k + 1).toNat).flatten := by
 rw [CU h0 h1, List.flatten_cons]
theorem CD {α : Type} {l : List α} {k : Int} (h0 : 0 ≤ k) (h1 : k < l.length) : l.take (k + 1).toNat = l.take k.toNat ++ [l[k.toNat]'(by omega)] := by
 rw [show (k + 1).toNat = k.toNat + 1 from by omega, List.take_add_one, List.getElem?_eq_getElem (by omega)];rfl
theorem BW {α : Type} {l : List α} {k : Int} (h1 : (l.length : Int) ≤ k) : l.take k.toNat = l := Qi (by omega)
theorem Ig {α : Type} {l : List (List α)} {k : Int} (h0 : 0 ≤ k) (h1 : k < l.length) : (l.take (k + 1).toNat).flatten = (l.take k.toNat).flatten ++ l[k.toNat]'(by omega) := by
 rw [CD h0 h1, List.flatten_append]; simp
theorem HC {α : Type} {l : List (List α)} (k : Nat) : (l.take k).flatten.length + (l.drop k).flatten.length = l.flatten.length := by
 rw [← Qg, ← List.flatten_append, RZ]
open Go.Eng
abbrev Cu := Int × Int
def Cc (cd : List Int) : Prop := cd.length ≤ 1048576 ∧ ∀ b, b ∈ cd → 0 ≤ b ∧ b ≤ 255
section
variable (cd : List Int)
def nxB (c : Cu) : Int := if c.1 < cd.length then at0 0 cd c.1 else 0
def nxC (c : Cu) : Cu := (c.1 + 1, IntKind.u64.wrap (IntKind.u64.wrap (IntKind.u64.wrap (c.2 * 6364136223846793005) + nxB cd c) + 1442695040888963407))
def nxH (s : Int) : Int := IntKind.i64.wrap (IntKind.u64.wrap ((BitVec.ofInt IntKind.u64.bits (s.fdiv (2 ^ min (40 : Int).toNat IntKind.u64.bits)) &&& BitVec.ofInt IntKind.u64.bits 255).toNat : Nat))
def nxV (c : Cu) : Int := if c.1 + 1 ≤ cd.length then nxB cd c else nxH (nxC cd c).2
def pickV (n : Int) (c : Cu) : Int := if n ≤ 1 then 0 else if 200 < n then (nxV cd c * 256 + nxV cd (nxC cd c)).tmod n else (nxV cd c).tmod n
def curC (n : Int) (c : Cu) : Cu := if n ≤ 1 then c else if 200 < n then nxC cd (nxC cd c) else nxC cd c
end
section
variable {cd : List Int} {c : Cu} {n : Int}
theorem nxH_in (s : Int) : 0 ≤ nxH s ∧ nxH s ≤ 255 := by
 have h : (BitVec.ofInt IntKind.u64.bits (s.fdiv (2 ^ min (40 : Int).toNat IntKind.u64.bits)) &&& BitVec.ofInt IntKind.u64.bits 255).toNat ≤ 255 := by
  rw [BitVec.toNat_and];exact RK Nat.and_le_right (by decide)
 unfold nxH;generalize (BitVec.ofInt IntKind.u64.bits (s.fdiv (2 ^ min (40 : Int).toNat IntKind.u64.bits)) &&& BitVec.ofInt IntKind.u64.bits 255).toNat = m at h
 have e1 : IntKind.u64.wrap (m : Int) = m := by
  simp [IntKind.wrap, IntKind.bits, IntKind.signed]
  omega
 rw [e1]
 have e2 : IntKind.i64.wrap (m : Int) = m := D0 (by omega) (by omega)
 rw [e2];omega
theorem PR (hc : Cc cd) (h0 : 0 ≤ c.1) : 0 ≤ nxB cd c ∧ nxB cd c ≤ 255 := by
 unfold nxB;split
 ·rename_i h
  rw [Dz h0 h];exact hc.2 _ (Qr _)
 ·omega
theorem KJ (hc : Cc cd) (h0 : 0 ≤ c.1) : 0 ≤ nxV cd c ∧ nxV cd c ≤ 255 := by
 unfold nxV;split
 ·exact PR hc h0
 ·exact nxH_in _
theorem AM : c.1 ≤ (curC cd n c).1 ∧ (curC cd n c).1 ≤ c.1 + 2 := by
 unfold curC nxC;split
 ·omega
 ·split <;> simp only <;> omega
theorem Ac (hc : Cc cd) (h0 : 0 ≤ c.1) : 0 ≤ pickV cd n c ∧ (1 ≤ n → pickV cd n c < n) ∧ pickV cd n c ≤ 65535 := by
 unfold pickV;split
 ·omega
 ·have h1 := KJ (c := c) hc h0
  have h2 := KJ (c := nxC cd c) hc (show 0 ≤ c.1 + 1 by omega)
  have key : ∀ z : Int, 0 ≤ z → z ≤ 65535 → 0 ≤ z.tmod n ∧ (1 ≤ n → z.tmod n < n) ∧ z.tmod n ≤ 65535 := fun z hz hz2 => by
   rw [Int.tmod_eq_emod_of_nonneg hz]
   have a := Int.emod_nonneg z (show n ≠ 0 by omega)
   have b := Int.emod_lt_of_pos z (show 0 < n by omega)
   have d : z % n ≤ z := by
    by_cases h : z < n
    ·rw [Int.emod_eq_of_lt hz h]; exact Int.le_refl _
    ·omega
   omega
  split
  ·exact key _ (by omega) (by omega)
  ·exact key _ (by omega) (by omega)
end
open Go.Eng
def T.bytes (l : List Int) : T := .list 1 (l.map fun n => .v (.int .u8 n))
abbrev cuC (pv : Value) (c : Cu) : List D := [.t (.v pv), .t (.v (.int .i64 c.1)), .t (.v (.int .u64 c.2))]
theorem u64_small {n : Int} (h0 : 0 ≤ n) (h1 : n ≤ 255) : IntKind.u64.wrap n = n := by
 simp [IntKind.wrap, IntKind.bits, IntKind.signed]; omega
theorem Mo {n : Int} (h0 : 0 ≤ n) (h1 : n ≤ 255) : IntKind.i64.wrap n = n := D0 (by omega) (by omega)
theorem KL (cd : List Int) (c : Cu) (bw : Nat) (pv : Value) (hcd : Cc cd) (h0 : 0 ≤ c.1) (h1 : c.1 ≤ 1073741824) : Proc Try.prog 87 [.t (.v (.pointer (some ⟨bw, 0, none⟩)))] ([pv]) ([T.bytes cd]) [.obox (.pointer (some ⟨bw, 0, none⟩)) (cuC pv c)] (.t (.int (nxV cd c))) [.obox (.pointer (some ⟨bw, 0, none⟩)) (cuC pv (nxC cd c))] := by
 have hcl := hcd.1
 have hB := PR hcd h0
 refine Proc.intro tys Try.func87 Z Z (N := 62) [100] 99 ([(0, .t (.v (.pointer (some ⟨bw, 0, none⟩))))]) ([(100, .obox (.pointer (some ⟨bw, 0, none⟩)) (cuC pv c)), (99, .ro [pv] [T.bytes cd])]) Z Z Z Z (by decide) (by decide) Z (fun w0 G F0 => ?_);refine nY Z (AU (Le.openNew (u := 100) 1100 Z Z Z Z Z) (nY Z (AU (Le.named (t := 0) (u := 100) 1100 Z Z) (nY Z (sG (eZ Z (nA (eZ Z (nB (sQ (sQ (Ai A9 (by kernel_rfl) (evQ ?_)))))))))))));refine BD rfl Z (AA Z) Z Z Z (evQ ?_);refine evQ ?_;refine AS Z (evQ ?_);refine BD rfl Z (AA Z) Z Z Z (evQ ?_);refine C4 tys 99 0 Z Z (AA Z) Z Z Z Z (evEQ ?_);refine evQ ?_;refine AS Z (BE (tN ?_));refine A1 (α := Int) [0, 2] [100, 99, 1100] (fun x => [(3, .t (.int x))]) (fun x => []) (fun x => x = nxB cd c) ?_ (fun b hx => ?_)
 ·
  refine AD Z (fun h1 => ?_) (fun h1 => ?_)
  ·
   simp only [HS] at h1;refine Ai A9 (by kernel_rfl) (evQ ?_);refine BD rfl Z (AA Z) Z Z Z (evQ ?_);refine C4 tys 99 0 Z Z (AA Z) Z Z Z Z (evQ ?_);refine BD rfl Z (AA Z) Z Z Z (AS Z (evQ ?_));refine evQ ?_;refine A3 tys Z Z (AA Z) Z Z Z Z Z Z Z h0 _ (EE _ _ h0 (by simp_all)) ?_;refine evQ ?_
   have hlt : c.1 < cd.length := by simp_all
   have hbe : nxB cd c = cd[c.1.toNat]'(by omega) := by rw [nxB, if_pos hlt, Dz h0 hlt]
   refine Ni (td := .int .u8) (k := .i64) (m := nxB cd c) Z Z (AA Z) Z (by kernel_rfl) (by kernel_rfl) Z (by rw [← hbe]; exact Mo hB.1 hB.2) ?_;refine evQ ?_;refine AS Z (BE (jQ _ ?_));dsimp only
   all_goals first | rfl | (unfold nxB; rw [if_neg (by simp_all)])
  simp only [HS] at h1;refine AE (jQ _ ?_)
  all_goals first | rfl | (unfold nxB; rw [if_neg (by simp_all)])
 have hb := hx
 refine tN (sQ (kY [0,2,3] Z (rG (eZ Z (AK rfl Z (AA Z) Z Z Z (eK 2 Z (evI ?_)))))));refine AK rfl Z (AA Z) Z Z Z (eZ Z (sT Z (nZ Z (nB (sQ (kY [0,2,3] Z (rG (eK 2 Z (AK rfl Z (AA Z) Z Z Z (eK 2 Z (GJ Z Z (AA Z) Z Z Z binMul Z (eZ Z (I5 (td := .int .i64) (k := .u64) (m := b) Z Z (AA Z) Z (by kernel_rfl) (by kernel_rfl) Z (by subst hb; exact u64_small hB.1 hB.2) ?_)))))))))))));refine GJ Z Z (AA Z) Z Z Z Pb Z (kZ [0,2,3,32,40] Z (GJ Z Z (AA Z) Z Z Z Pb Z (AK rfl Z (AA Z) Z Z Z (eZ Z (sT Z (nZ Z (nB (sQ (sQ (Ai A9 (by kernel_rfl) (evQ ?_)))))))))));refine BD rfl Z (AA Z) Z Z Z (AS Z (evQ ?_));refine evQ ?_;refine evQ ?_;refine BD rfl Z (AA Z) Z Z Z (evQ ?_);refine C4 tys 99 0 Z Z (AA Z) Z Z Z Z (AS Z (evEQ ?_));refine evQ ?_;refine BE (tN ?_);refine AD Z (fun h1 => ?_) (fun h1 => ?_)
 ·
  simp only [HS] at h1;refine sG (eK 2 Z (nB (AU (Le.close (u := 100) 1100 Z Z Z) (nY Z (rT (tR ?_))))));refine eP [_] ?_ ?_
  ·subst hb
   first
   | (rw [nxV, if_pos (by simp_all)]; rfl)
  ·subst hb
   rfl
 simp only [HS] at h1;refine AE (tN (sG (eZ Z (AK rfl Z (AA Z) Z Z Z (eK 2 Z (GJ Z Z (AA Z) Z Z Z (binShr (by decide)) Z (GJ Z Z (AA Z) Z Z Z binAnd Z (WO_conv (td := .int .u64) (k := .i64) Z Z (AA Z) Z (by kernel_rfl) (by kernel_rfl) Z (kZ [2,61] Z (eZ Z (nB (AU (Le.close (u := 100) 1100 Z Z Z) (nY Z (rT ?_))))))))))))));refine eP [_] ?_ ?_
 ·subst hb
  first
  | (rw [nxV, if_neg (by simp_all)]; rfl)
 ·subst hb
  rfl
theorem Ab (cd : List Int) (n : Int) (c : Cu) (bw : Nat) (pv : Value) (hcd : Cc cd) (h0 : 0 ≤ c.1) (h1 : c.1 ≤ 536870912) : Proc Try.prog 54 [.t (.v (.pointer (some ⟨bw, 0, none⟩))), .t (.int n)] ([pv]) ([T.bytes cd]) [.obox (.pointer (some ⟨bw, 0, none⟩)) (cuC pv c)] (.t (.int (pickV cd n c))) [.obox (.pointer (some ⟨bw, 0, none⟩)) (cuC pv (curC cd n c))] := by
 have hx1 := KJ (c := c) hcd h0
 have hx2 := KJ (c := nxC cd c) hcd (show 0 ≤ c.1 + 1 by omega)
 refine Proc.intro tys Try.func54 Z Z (N := 20) [100] 99 ([(0, .t (.v (.pointer (some ⟨bw, 0, none⟩)))), (1, .t (.int n))]) ([(100, .obox (.pointer (some ⟨bw, 0, none⟩)) (cuC pv c)), (99, .ro [pv] [T.bytes cd])]) Z Z Z Z (by decide) (by decide) Z (fun w0 G F0 => ?_);refine nY Z (sG (eZ Z (nB (sQ (sG (eK 2 Z (nB ?_)))))));refine AD Z (fun h1 => ?_) (fun h1 => ?_)
 ·
  simp only [HS] at h1;refine sG (eZ Z (nB (rT (tR ?_))));refine eP [_] ?_ ?_
  ·first
   | (rw [pickV, if_pos (by omega)]; rfl)
  ·first
   | (rw [curC, if_pos (by omega)]; done)
 simp only [HS] at h1;refine AE (tN (sG (eZ Z ?_)));refine cP [100] (hm := (KL cd c bw pv hcd h0 (by omega))) (k := ?_);refine nZ Z (eZ Z (nB (sQ (sG (eK 2 Z (nB ?_))))));refine AD Z (fun h2 => ?_) (fun h2 => ?_)
 ·
  simp only [HS] at h2;refine kY [0,1,4,5] Z (rG (eZ Z (evI ?_)));refine eZ Z ?_;refine cP [100] (hm := (KL cd (nxC cd c) bw pv hcd (show 0 ≤ c.1 + 1 by omega) (show c.1 + 1 ≤ 1073741824 by omega))) (k := ?_);refine nZ Z (evI ?_);refine eZ Z (nA (eK 2 Z (Pd Z Z (AA Z) Z Z Z (by omega) (kZ [4,19] Z (eZ Z (nB (rT ?_)))))));refine eP [_] ?_ ?_
  ·first
   | (rw [pickV, if_neg (by omega), if_pos (by omega)]; rfl)
  ·first
   | (rw [curC, if_neg (by omega), if_pos (by omega)]; done)
 simp only [HS] at h2;refine AE (tN (sQ (kY [1,4,5] Z (rG (eK 2 Z (Pd Z Z (AA Z) Z Z Z (by omega) (eZ Z (nB (rT ?_)))))))));refine eP [_] ?_ ?_
 ·first
  | (rw [pickV, if_neg (by omega), if_neg (by omega)]; rfl)
 ·first
  | (rw [curC, if_neg (by omega), if_neg (by omega)]; done)
theorem DA (cd : List Int) (n : Int) (c : Cu) (bw : Nat) (pv : Value) (hcd : Cc cd) (h0 : 0 ≤ c.1) (h1 : c.1 ≤ 536870912) : Proc Try.prog 53 [.t (.v (.pointer (some ⟨bw, 0, none⟩))), .t (.int n)] ([pv]) ([T.bytes cd]) [.obox (.pointer (some ⟨bw, 0, none⟩)) (cuC pv c)] (.t (.bool (decide (pickV cd n c = 0)))) [.obox (.pointer (some ⟨bw, 0, none⟩)) (cuC pv (curC cd n c))] := by
 refine Proc.intro tys Try.func53 Z Z (N := 9) [100] 99 ([(0, .t (.v (.pointer (some ⟨bw, 0, none⟩)))), (1, .t (.int n))]) ([(100, .obox (.pointer (some ⟨bw, 0, none⟩)) (cuC pv c)), (99, .ro [pv] [T.bytes cd])]) Z Z Z Z (by decide) (by decide) Z (fun w0 G F0 => ?_);refine nY Z (sG (eZ Z (nA (eK 2 Z ?_))));refine cP [100] (hm := (Ab cd n c bw pv hcd h0 h1)) (k := ?_);refine nZ Z (eK 2 Z (nB (rT ?_)));refine eP [_] ?_ ?_
 ·rfl
 ·rfl
theorem Da (cd l : List Int) (c : Cu) (bw : Nat) (pv : Value) (hcd : Cc cd) (h0 : 0 ≤ c.1) (h1 : c.1 ≤ 536870912) (hl : 1 ≤ l.length) (hl2 : l.length ≤ 1073741824) : Proc Try.prog 35 [.t (.v (.pointer (some ⟨bw, 0, none⟩))), .t (T.ints l)] ([pv]) ([T.bytes cd]) [.obox (.pointer (some ⟨bw, 0, none⟩)) (cuC pv c)] (.t (.int (at0 0 l (pickV cd l.length c)))) [.obox (.pointer (some ⟨bw, 0, none⟩)) (cuC pv (curC cd l.length c))] := by
 have hv := Ac (n := l.length) hcd h0
 have hv1 := hv.2.1 (by omega)
 refine Proc.intro tys Try.func35 Z Z (N := 12) [100] 99 ([(0, .t (.v (.pointer (some ⟨bw, 0, none⟩)))), (1, .t (T.ints l))]) ([(100, .obox (.pointer (some ⟨bw, 0, none⟩)) (cuC pv c)), (99, .ro [pv] [T.bytes cd])]) Z Z Z Z (by decide) (by decide) Z (fun w0 G F0 => ?_);refine nY Z (sG (eZ Z (nA (eK 3 Z (evE ?_)))));refine cP [100] (hm := (Ab cd l.length c bw pv hcd h0 h1)) (k := ?_);refine nZ Z ?_;refine iX (h5 := hv.1) (h6 := (EE _ _ hv.1 hv1)) (k := ?_);refine eK 2 Z (kZ [4] Z (nB (rT ?_)));refine eP [_] ?_ ?_
 ·rw [Dz hv.1 hv1]
  rfl
 ·rfl
open Go.Eng
structure Tok where
 op : Int
 n : Int
def Tok.tt (x : Tok) : T := .agg [T.int x.op, T.int x.n]
abbrev T.Toks (l : List Tok) : T := .list 2 (l.map Tok.tt)
structure Stmt where
 kind : Int
 n : Int
 ex : List (Tok)
 thn : List Int
 els : List Int
def Stmt.tt (x : Stmt) : T := .agg [T.int x.kind, T.int x.n, T.Toks x.ex, T.ints x.thn, T.ints x.els]
def Stmt.ok (B : Nat) (x : Stmt) : Prop := okN B x.ex ∧ okN B x.thn ∧ okN B x.els ∧ True
abbrev T.Stmts (l : List (Stmt)) : T := .list 5 (l.map Stmt.tt)
structure Func where
 params : Int
 vars : Int
 body : List Int
 stmts : List (Stmt)
def Func.tt (x : Func) : T := .agg [T.int x.params, T.int x.vars, T.ints x.body, T.Stmts x.stmts]
def Func.ok (B : Nat) (x : Func) : Prop := okN B x.body ∧ okL B (Stmt.ok B) x.stmts ∧ True
abbrev T.Funcs (l : List (Func)) : T := .list 4 (l.map Func.tt)
structure Prog where
 funcs : List (Func)
def Prog.tt (x : Prog) : T := .agg [T.Funcs x.funcs]
def Prog.ok (B : Nat) (x : Prog) : Prop := okL B (Func.ok B) x.funcs ∧ True
open Go.Eng
abbrev numL : List Int := [0, 1, 2, 3, -1, 5, 7, 10, 2147483647, -2147483648, 0, 1]
def PS (cd : List Int) (c : Cu) : Int := at0 0 numL (pickV cd 12 c)
def BT (cd : List Int) (vars : Int) (pure : Bool) (c : Cu) : List Tok × Cu :=
 if (pickV cd 6 c = 0 ∨ pickV cd 6 c = 1) ∧ 0 < vars then ([⟨2, pickV cd vars (curC cd 6 c)⟩], curC cd vars (curC cd 6 c))
 else if pickV cd 6 c = 2 ∧ pure = false then ([⟨at0 0 [9, 10] (pickV cd 2 (curC cd 6 c)), 0⟩], curC cd 2 (curC cd 6 c))
 else ([⟨1, PS cd (curC cd 6 c)⟩], curC cd 12 (curC cd 6 c))
def FK (cd : List Int) (vars : Int) (pure : Bool) : Nat → List Tok → Cu → List Tok × Cu
 | 0, l, c => (l, c)
 | k + 1, l, c => FK cd vars pure k (l ++ (BT cd vars pure c).1) (BT cd vars pure c).2
def Lb (cd : List Int) (e : Cu → List Tok × Cu) (c : Cu) : List Tok × Cu :=
 ((e c).1 ++ (e (e c).2).1 ++ [⟨3 + pickV cd 6 (e (e c).2).2, 0⟩], curC cd 6 (e (e c).2).2)
def Iv (cd : List Int) (vars : Int) (params : List Int) (pure : Bool) (c : Cu) : List Tok × Cu :=
 ((FK cd vars pure (at0 0 params (pickV cd params.length c)).toNat [] (curC cd params.length c)).1 ++ [⟨11, pickV cd params.length c⟩], (FK cd vars pure (at0 0 params (pickV cd params.length c)).toNat [] (curC cd params.length c)).2)
def Ao (cd : List Int) (vars : Int) (params : List Int) (pure : Bool) : Nat → Cu → List Tok × Cu
 | 0, c => BT cd vars pure c
 | d + 1, c =>
  if pickV cd 3 c = 0 then BT cd vars pure (curC cd 3 c)
  else if pure = false ∧ 0 < params.length then
   if pickV cd 3 (curC cd 3 c) = 0 then Iv cd vars params pure (curC cd 3 (curC cd 3 c)) else Lb cd (Ao cd vars params pure d) (curC cd 3 (curC cd 3 c))
  else Lb cd (Ao cd vars params pure d) (curC cd 3 c)
theorem FP {cd : List Int} {vars : Int} {pure : Bool} {c : Cu} : c.1 ≤ (BT cd vars pure c).2.1 ∧ (BT cd vars pure c).2.1 ≤ c.1 + 4 ∧ (BT cd vars pure c).1.length = 1 := by
 have h1 := AM (cd := cd) (n := 6) (c := c)
 have h2 := AM (cd := cd) (n := vars) (c := curC cd 6 c)
 have h3 := AM (cd := cd) (n := 2) (c := curC cd 6 c)
 have h4 := AM (cd := cd) (n := 12) (c := curC cd 6 c)
 unfold BT
 repeat' split
 all_goals (refine ⟨?_, ?_, rfl⟩ <;> simp only <;> omega)
theorem Ko {cd : List Int} {vars : Int} {pure : Bool} : ∀ (k : Nat) (l : List Tok) (c : Cu), c.1 ≤ (FK cd vars pure k l c).2.1 ∧ (FK cd vars pure k l c).2.1 ≤ c.1 + 4 * k ∧ (FK cd vars pure k l c).1.length = l.length + k
 | 0, l, c => by simp [FK]
 | k + 1, l, c => by
  have h1 := FP (cd := cd) (vars := vars) (pure := pure) (c := c)
  have h3 := Ko (cd := cd) (vars := vars) (pure := pure) k (l ++ (BT cd vars pure c).1) (BT cd vars pure c).2
  rw [FK];rw [Qg] at h3;omega
def Hb (params : List Int) : Prop := params.length ≤ 4 ∧ ∀ m, m ∈ params → 0 ≤ m ∧ m ≤ 2
theorem Ma {params : List Int} (h : Hb params) {i : Int} (h0 : 0 ≤ i) (h1 : i < params.length) : 0 ≤ at0 0 params i ∧ at0 0 params i ≤ 2 := by
 rw [Dz h0 h1]; exact h.2 _ (Qr _)
theorem O1 {cd : List Int} {vars : Int} {params : List Int} {pure : Bool} {c : Cu} (hcd : Cc cd) (hp : Hb params) (h0 : 0 ≤ c.1) (hl : 0 < params.length) :
  c.1 ≤ (Iv cd vars params pure c).2.1 ∧ (Iv cd vars params pure c).2.1 ≤ c.1 + 10 ∧ 1 ≤ (Iv cd vars params pure c).1.length ∧ (Iv cd vars params pure c).1.length ≤ 3 := by
 have p1 := AM (cd := cd) (n := params.length) (c := c)
 have v1 := Ac (n := params.length) (c := c) hcd h0
 have v2 := v1.2.1 (by omega)
 have v3 := Ma hp v1.1 v2
 have a1 := Ko (cd := cd) (vars := vars) (pure := pure) (at0 0 params (pickV cd params.length c)).toNat [] (curC cd params.length c)
 rw [List.length_nil] at a1;unfold Iv;simp only [Qg, Qk, List.length_nil];omega
def exA : Nat → Int
 | 0 => 10
 | d + 1 => 2 * exA d + 20
def exB : Nat → Nat
 | 0 => 1
 | d + 1 => 2 * exB d + 3
theorem Kh : ∀ d, 10 ≤ exA d ∧ 1 ≤ exB d
 | 0 => by decide
 | d + 1 => by have := Kh d; rw [exA, exB]; omega
theorem CH {cd : List Int} {vars : Int} {params : List Int} {pure : Bool} (hcd : Cc cd) (hp : Hb params) : ∀ (d : Nat) (c : Cu), 0 ≤ c.1 →
  c.1 ≤ (Ao cd vars params pure d c).2.1 ∧ (Ao cd vars params pure d c).2.1 ≤ c.1 + exA d ∧ 1 ≤ (Ao cd vars params pure d c).1.length ∧ (Ao cd vars params pure d c).1.length ≤ exB d
 | 0, c, h0 => by
  have h1 := FP (cd := cd) (vars := vars) (pure := pure) (c := c)
  rw [Ao, exA, exB]; omega
 | d + 1, c, h0 => by
  have p1 := AM (cd := cd) (n := 3) (c := c)
  have p2 := AM (cd := cd) (n := 3) (c := curC cd 3 c)
  have h1 := FP (cd := cd) (vars := vars) (pure := pure) (c := curC cd 3 c)
  have hx := Kh d
  have hb : ∀ c' : Cu, 0 ≤ c'.1 → c'.1 ≤ (Lb cd (Ao cd vars params pure d) c').2.1 ∧ (Lb cd (Ao cd vars params pure d) c').2.1 ≤ c'.1 + 2 * exA d + 2 ∧ 1 ≤ (Lb cd (Ao cd vars params pure d) c').1.length ∧ (Lb cd (Ao cd vars params pure d) c').1.length ≤ 2 * exB d + 1 := fun c' h0' => by
   have e1 := CH (vars := vars) (pure := pure) hcd hp d c' h0'
   have e2 := CH (vars := vars) (pure := pure) hcd hp d (Ao cd vars params pure d c').2 (by omega)
   have e3 := AM (cd := cd) (n := 6) (c := (Ao cd vars params pure d (Ao cd vars params pure d c').2).2)
   unfold Lb;simp only [Qg, Qk, List.length_nil];omega
  have b1 := hb (curC cd 3 c) (by omega)
  have b2 := hb (curC cd 3 (curC cd 3 c)) (by omega)
  rw [Ao, exA, exB];split
  ·omega
  ·split
   ·rename_i hq
    have b3 := O1 (cd := cd) (vars := vars) (pure := pure) (c := curC cd 3 (curC cd 3 c)) hcd hp (by omega) hq.2
    split <;> omega
   ·omega
open Go.Eng
theorem Eu (cd : List Int) (c : Cu) (bw : Nat) (pv : Value) (hcd : Cc cd) (h0 : 0 ≤ c.1) (h1 : c.1 ≤ 268435456) : Proc Try.prog 61 [.t (.v (.pointer (some ⟨bw, 0, none⟩)))] ([pv]) ([T.bytes cd]) [.obox (.pointer (some ⟨bw, 0, none⟩)) (cuC pv c)] (.t (.int (PS cd c))) [.obox (.pointer (some ⟨bw, 0, none⟩)) (cuC pv (curC cd 12 c))] := by
 refine Proc.intro tys Try.func61 Z Z (N := 6) [100] 99 ([(0, .t (.v (.pointer (some ⟨bw, 0, none⟩))))]) ([(100, .obox (.pointer (some ⟨bw, 0, none⟩)) (cuC pv c)), (99, .ro [pv] [T.bytes cd])]) Z Z Z Z (by decide) (by decide) Z (fun w0 G F0 => ?_);refine nY Z (sG (eZ Z (nA (eZ Z (bZ [T.int 0, T.int 1, T.int 2, T.int 3, T.int (-1), T.int 5, T.int 7, T.int 10, T.int 2147483647, T.int (-2147483648), T.int 0, T.int 1] ?_)))));refine nZ Z (AC (Le.gather (u := 4) (id := 4) Z Z (by first | (simp; done) | (simp; omega) | omega)) ?_);refine nZ Z ?_;refine cP [100] (hm := (Da cd numL c bw pv hcd h0 (by omega) (by decide) (by decide))) (k := ?_);refine nZ Z (eZ Z (nB (rT ?_)));refine eP [_] ?_ ?_
 ·rfl
 ·rfl
theorem with1 {p g : Prop} (h : p) (k : p → g) : g := k h
theorem exB_le : ∀ e : Nat, e < 9 → exB e ≤ 1021 := by decide
def ExC (cd : List Int) (vars : Int) (params : List Int) (pure : Bool) (pv : Value) (d : Nat) : Prop :=
 ∀ (dd : Int) (c : Cu) (bw : Nat), dd = d → d ≤ 8 → 0 ≤ c.1 → c.1 + exA d ≤ 134217728 →
  Proc Try.prog 117 [.t (.v (.pointer (some ⟨bw, 0, none⟩))), .t (.int dd), .t (.int vars), .t (T.ints params), .t (.bool pure)] [pv] [T.bytes cd]
   [.obox (.pointer (some ⟨bw, 0, none⟩)) (cuC pv c)] (.own (.list 2 ((Ao cd vars params pure d c).1.map Tok.tt))) [.obox (.pointer (some ⟨bw, 0, none⟩)) (cuC pv (Ao cd vars params pure d c).2)]
theorem M6 (cd : List Int) (vars : Int) (params : List Int) (pure : Bool) (d : Nat) (dd : Int) (c : Cu) (bw : Nat) (pv : Value) (hcd : Cc cd) (hp : Hb params) (hd : dd = d) (hd8 : d ≤ 8) (h0 : 0 ≤ c.1) (h1 : c.1 + exA d ≤ 134217728) (hr : ∀ e, e < d → ExC cd vars params pure pv e) : Proc Try.prog 117 [.t (.v (.pointer (some ⟨bw, 0, none⟩))), .t (.int dd), .t (.int vars), .t (T.ints params), .t (.bool pure)] ([pv]) ([T.bytes cd]) [.obox (.pointer (some ⟨bw, 0, none⟩)) (cuC pv c)] (.own (.list 2 ((Ao cd vars params pure d c).1.map Tok.tt))) [.obox (.pointer (some ⟨bw, 0, none⟩)) (cuC pv (Ao cd vars params pure d c).2)] := by
 have hxa := Kh d
 have hc3 := AM (cd := cd) (n := 3) (c := c)
 have hc33 := AM (cd := cd) (n := 3) (c := curC cd 3 c)
 refine Proc.intro tys Try.func117 Z Z (N := 103) [100] 99 ([(0, .t (.v (.pointer (some ⟨bw, 0, none⟩)))), (1, .t (.int dd)), (2, .t (.int vars)), (3, .t (T.ints params)), (4, .t (.bool pure))]) ([(100, .obox (.pointer (some ⟨bw, 0, none⟩)) (cuC pv c)), (99, .ro [pv] [T.bytes cd])]) Z Z Z Z (by decide) (by decide) Z (fun w0 G F0 => ?_);refine nY Z (sG (eZ Z (nB (sQ (sG (eK 3 Z ?_))))));refine gB (fun h1 => ?_) (fun h1 => ?_)
 ·
  simp only [HS] at h1;refine xK 2 Z (nB (AY Z (sQ (sQ ?_))))
  first
  | (refine with1 (p := d = 0) ?_ (fun hd0 => ?_); omega; subst hd0; rw [Ao]; refine with1 (p := ∃ c0 : Cu, c0 = c ∧ c.1 ≤ c0.1 ∧ c0.1 ≤ c.1 + 2) ⟨c, rfl, by omega, by omega⟩ (fun hh => ?_); obtain ⟨c0, hc0, hca, hcb⟩ := hh; rw [← hc0])
  have hk6 := AM (cd := cd) (n := 6) (c := c0)
  refine rG (eZ Z ?_);refine cP [100] (hm := (Ab cd 6 c0 bw pv hcd (by omega) (by omega))) (k := ?_);refine nZ Z (nB (AF (sQ (sQ (kY [0,1,2,3,4,10,22] Z (rG (eK 2 Z (nB ?_))))))));refine A1 (α := Bool) [0, 1, 2, 3, 4, 22] [100, 99] (fun x => [(23, .t (.bool x))]) (fun x => []) (fun x => x = decide (pickV cd 6 c0 = 0 ∨ pickV cd 6 c0 = 1)) ?_ (fun b hx => ?_)
  ·
   refine AD Z (fun h2 => ?_) (fun h2 => ?_)
   ·
    simp only [HS] at h2;refine AE (jQ _ ?_)
    all_goals first | (simp_all; done) | (symm; simp; omega) | (simp; omega)
   simp only [HS] at h2;refine rG (eK 2 Z (oN (jQ _ ?_)))
   all_goals first | (simp_all; done) | (symm; simp; omega) | (simp; omega)
  have hb1 := hx
  refine tN ?_;refine AD Z (fun h2 => ?_) (fun h2 => ?_)
  ·
   refine sQ (kY [0,1,2,3,4] Z (rG (eK 2 Z (nB ?_))));refine AD Z (fun h3 => ?_) (fun h3 => ?_)
   ·
    simp only [HS] at h3;refine sG (eK 2 Z ?_);refine cP [100] (hm := (Ab cd vars (curC cd 6 c0) bw pv hcd (by omega) (by omega))) (k := ?_);refine nZ Z (AG tys Z Z (AA Z) Z Z Z (by kernel_rfl) Z Z Z Z Z Z (bZ [(Tok.mk 2 (pickV cd vars (curC cd 6 c0))).tt] ?_));refine nZ Z (eZ Z (nB ?_))
    (refine AU (Le.gather (u := 10) (id := 32) rfl rfl (by first | (simp; done) | (simp; omega))) ?_; refine A2 rfl ?_)
    refine rT (bR (tR (tR ?_)));refine eP [_] ?_ ?_
    ·first
     | (unfold BT; (repeat' split); all_goals first | rfl | (exfalso; simp_all; done) | (exfalso; simp_all; omega))
    ·first
     | (unfold BT; (repeat' split); all_goals first | rfl | (exfalso; simp_all; done) | (exfalso; simp_all; omega))
   simp only [HS] at h3;refine AE (bN (tN (sG (eZ Z ?_))));refine cP [100] (hm := (Eu cd (curC cd 6 c0) bw pv hcd (by omega) (by omega))) (k := ?_);refine nZ Z (AG tys Z Z (AA Z) Z Z Z (by kernel_rfl) Z Z Z Z Z Z (bZ [(Tok.mk 1 (PS cd (curC cd 6 c0))).tt] ?_));refine nZ Z (eZ Z (nB ?_))
   (refine AU (Le.gather (u := 10) (id := 45) rfl rfl (by first | (simp; done) | (simp; omega))) ?_; refine A2 rfl ?_)
   refine rT (tR ?_);refine eP [_] ?_ ?_
   ·first
    | (unfold BT; (repeat' split); all_goals first | rfl | (exfalso; simp_all; done) | (exfalso; simp_all; omega))
   ·first
    | (unfold BT; (repeat' split); all_goals first | rfl | (exfalso; simp_all; done) | (exfalso; simp_all; omega))
  refine sQ (kY [0,1,2,3,4,22] Z (rG (eK 2 Z (nB ?_))));refine AD Z (fun h3 => ?_) (fun h3 => ?_)
  ·
   simp only [HS] at h3;refine sG (eK 2 Z (nB ?_));refine AD Z (fun h4 => ?_) (fun h4 => ?_)
   ·
    simp only [HS] at h4;refine sG (eZ Z (bZ [T.int 9, T.int 10] ?_));refine nZ Z (AC (Le.gather (u := 38) (id := 38) Z Z (by first | (simp; done) | (simp; omega) | omega)) ?_);refine nZ Z ?_;refine cP [100] (hm := (Da cd [9, 10] (curC cd 6 c0) bw pv hcd (by omega) (by omega) (by decide) (by decide))) (k := ?_);refine nZ Z (AG tys Z Z (AA Z) Z Z Z (by kernel_rfl) Z Z Z Z Z Z (bZ [(Tok.mk (at0 0 [9, 10] (pickV cd 2 (curC cd 6 c0))) 0).tt] ?_));refine nZ Z (kZ [0,1,2,3,4,41] Z (eZ Z (nB ?_)))
    (refine AU (Le.gather (u := 10) (id := 41) rfl rfl (by first | (simp; done) | (simp; omega))) ?_; refine A2 rfl ?_)
    refine rT (bR (tR (tR ?_)));refine eP [_] ?_ ?_
    ·first
     | (unfold BT; (repeat' split); all_goals first | rfl | (exfalso; simp_all; done) | (exfalso; simp_all; omega))
    ·first
     | (unfold BT; (repeat' split); all_goals first | rfl | (exfalso; simp_all; done) | (exfalso; simp_all; omega))
   simp only [HS] at h4;refine AE (bN (tN (sG (eZ Z ?_))));refine cP [100] (hm := (Eu cd (curC cd 6 c0) bw pv hcd (by omega) (by omega))) (k := ?_);refine nZ Z (AG tys Z Z (AA Z) Z Z Z (by kernel_rfl) Z Z Z Z Z Z (bZ [(Tok.mk 1 (PS cd (curC cd 6 c0))).tt] ?_));refine nZ Z (eZ Z (kZ [0,1,2,3,4,10] Z (nB ?_)))
   (refine AU (Le.gather (u := 10) (id := 45) rfl rfl (by first | (simp; done) | (simp; omega))) ?_; refine A2 rfl ?_)
   refine rT (tR ?_);refine eP [_] ?_ ?_
   ·first
    | (unfold BT; (repeat' split); all_goals first | rfl | (exfalso; simp_all; done) | (exfalso; simp_all; omega))
   ·first
    | (unfold BT; (repeat' split); all_goals first | rfl | (exfalso; simp_all; done) | (exfalso; simp_all; omega))
  simp only [HS] at h3;refine AE (bN (tN (sG (eZ Z ?_))));refine cP [100] (hm := (Eu cd (curC cd 6 c0) bw pv hcd (by omega) (by omega))) (k := ?_);refine nZ Z (AG tys Z Z (AA Z) Z Z Z (by kernel_rfl) Z Z Z Z Z Z (bZ [(Tok.mk 1 (PS cd (curC cd 6 c0))).tt] ?_));refine nZ Z (eZ Z (nB ?_))
  (refine AU (Le.gather (u := 10) (id := 45) rfl rfl (by first | (simp; done) | (simp; omega))) ?_; refine A2 rfl ?_)
  refine rT (tR ?_);refine eP [_] ?_ ?_
  ·first
   | (unfold BT; (repeat' split); all_goals first | rfl | (exfalso; simp_all; done) | (exfalso; simp_all; omega))
  ·first
   | (unfold BT; (repeat' split); all_goals first | rfl | (exfalso; simp_all; done) | (exfalso; simp_all; omega))
 simp only [HS] at h1;refine eZ Z (gY Z ?_);refine cP [100] (hm := (DA cd 3 c bw pv hcd h0 (by omega))) (k := ?_);refine nZ Z (eZ Z (nB ?_));refine AD Z (fun h2 => ?_) (fun h2 => ?_)
 ·
  simp only [HS] at h2;refine sQ (sQ ?_)
  first
  | (refine with1 (p := ¬ d = 0) ?_ (fun hd0 => ?_); omega; obtain ⟨e, rfl⟩ := Nat.exists_eq_succ_of_ne_zero hd0; rw [Ao, if_pos (by assumption)]; refine with1 (p := ∃ c0 : Cu, c0 = curC cd 3 c ∧ c.1 ≤ c0.1 ∧ c0.1 ≤ c.1 + 2) ⟨_, rfl, by omega, by omega⟩ (fun hh => ?_); obtain ⟨c0, hc0, hca, hcb⟩ := hh; rw [← hc0])
  have hk6 := AM (cd := cd) (n := 6) (c := c0)
  refine kY [0,1,2,3,4,10] Z (rG (eZ Z ?_));refine cP [100] (hm := (Ab cd 6 c0 bw pv hcd (by omega) (by omega))) (k := ?_);refine nZ Z (nB (AF (sQ (sG (eK 2 Z (nB ?_))))));refine A1 (α := Bool) [0, 1, 2, 3, 4, 22] [100, 99] (fun x => [(23, .t (.bool x))]) (fun x => []) (fun x => x = decide (pickV cd 6 c0 = 0 ∨ pickV cd 6 c0 = 1)) ?_ (fun b hx => ?_)
  ·
   refine AD Z (fun h3 => ?_) (fun h3 => ?_)
   ·
    simp only [HS] at h3;refine AE (jQ _ ?_)
    all_goals first | (simp_all; done) | (symm; simp; omega) | (simp; omega)
   simp only [HS] at h3;refine rG (eK 2 Z (oN (jQ _ ?_)))
   all_goals first | (simp_all; done) | (symm; simp; omega) | (simp; omega)
  have hb1 := hx
  refine tN ?_;refine AD Z (fun h3 => ?_) (fun h3 => ?_)
  ·
   refine sQ (kY [0,1,2,3,4] Z (rG (eK 2 Z (nB ?_))));refine AD Z (fun h4 => ?_) (fun h4 => ?_)
   ·
    simp only [HS] at h4;refine sG (eK 2 Z ?_);refine cP [100] (hm := (Ab cd vars (curC cd 6 c0) bw pv hcd (by omega) (by omega))) (k := ?_);refine nZ Z (AG tys Z Z (AA Z) Z Z Z (by kernel_rfl) Z Z Z Z Z Z (bZ [(Tok.mk 2 (pickV cd vars (curC cd 6 c0))).tt] ?_));refine nZ Z (eZ Z (nB ?_))
    (refine AU (Le.gather (u := 10) (id := 32) rfl rfl (by first | (simp; done) | (simp; omega))) ?_; refine A2 rfl ?_)
    refine rT (bR (tR (tR ?_)));refine eP [_] ?_ ?_
    ·first
     | (unfold BT; (repeat' split); all_goals first | rfl | (exfalso; simp_all; done) | (exfalso; simp_all; omega))
    ·first
     | (unfold BT; (repeat' split); all_goals first | rfl | (exfalso; simp_all; done) | (exfalso; simp_all; omega))
   simp only [HS] at h4;refine AE (bN (tN (sG (eZ Z ?_))));refine cP [100] (hm := (Eu cd (curC cd 6 c0) bw pv hcd (by omega) (by omega))) (k := ?_);refine nZ Z (AG tys Z Z (AA Z) Z Z Z (by kernel_rfl) Z Z Z Z Z Z (bZ [(Tok.mk 1 (PS cd (curC cd 6 c0))).tt] ?_));refine nZ Z (eZ Z (nB ?_))
   (refine AU (Le.gather (u := 10) (id := 45) rfl rfl (by first | (simp; done) | (simp; omega))) ?_; refine A2 rfl ?_)
   refine rT (tR ?_);refine eP [_] ?_ ?_
   ·first
    | (unfold BT; (repeat' split); all_goals first | rfl | (exfalso; simp_all; done) | (exfalso; simp_all; omega))
   ·first
    | (unfold BT; (repeat' split); all_goals first | rfl | (exfalso; simp_all; done) | (exfalso; simp_all; omega))
  refine sQ (kY [0,1,2,3,4,22] Z (rG (eK 2 Z (nB ?_))));refine AD Z (fun h4 => ?_) (fun h4 => ?_)
  ·
   simp only [HS] at h4;refine sG (eK 2 Z (nB ?_));refine AD Z (fun h5 => ?_) (fun h5 => ?_)
   ·
    simp only [HS] at h5;refine sG (eZ Z (bZ [T.int 9, T.int 10] ?_));refine nZ Z (AC (Le.gather (u := 38) (id := 38) Z Z (by first | (simp; done) | (simp; omega) | omega)) ?_);refine nZ Z ?_;refine cP [100] (hm := (Da cd [9, 10] (curC cd 6 c0) bw pv hcd (by omega) (by omega) (by decide) (by decide))) (k := ?_);refine nZ Z (AG tys Z Z (AA Z) Z Z Z (by kernel_rfl) Z Z Z Z Z Z (bZ [(Tok.mk (at0 0 [9, 10] (pickV cd 2 (curC cd 6 c0))) 0).tt] ?_));refine nZ Z (kZ [0,1,2,3,4,41] Z (eZ Z (nB ?_)))
    (refine AU (Le.gather (u := 10) (id := 41) rfl rfl (by first | (simp; done) | (simp; omega))) ?_; refine A2 rfl ?_)
    refine rT (bR (tR (tR ?_)));refine eP [_] ?_ ?_
    ·first
     | (unfold BT; (repeat' split); all_goals first | rfl | (exfalso; simp_all; done) | (exfalso; simp_all; omega))
    ·first
     | (unfold BT; (repeat' split); all_goals first | rfl | (exfalso; simp_all; done) | (exfalso; simp_all; omega))
   simp only [HS] at h5;refine AE (bN (tN (sG (eZ Z ?_))));refine cP [100] (hm := (Eu cd (curC cd 6 c0) bw pv hcd (by omega) (by omega))) (k := ?_);refine nZ Z (AG tys Z Z (AA Z) Z Z Z (by kernel_rfl) Z Z Z Z Z Z (bZ [(Tok.mk 1 (PS cd (curC cd 6 c0))).tt] ?_));refine nZ Z (eZ Z (kZ [0,1,2,3,4,10] Z (nB ?_)))
   (refine AU (Le.gather (u := 10) (id := 45) rfl rfl (by first | (simp; done) | (simp; omega))) ?_; refine A2 rfl ?_)
   refine rT (tR ?_);refine eP [_] ?_ ?_
   ·first
    | (unfold BT; (repeat' split); all_goals first | rfl | (exfalso; simp_all; done) | (exfalso; simp_all; omega))
   ·first
    | (unfold BT; (repeat' split); all_goals first | rfl | (exfalso; simp_all; done) | (exfalso; simp_all; omega))
  simp only [HS] at h4;refine AE (bN (tN (sG (eZ Z ?_))));refine cP [100] (hm := (Eu cd (curC cd 6 c0) bw pv hcd (by omega) (by omega))) (k := ?_);refine nZ Z (AG tys Z Z (AA Z) Z Z Z (by kernel_rfl) Z Z Z Z Z Z (bZ [(Tok.mk 1 (PS cd (curC cd 6 c0))).tt] ?_));refine nZ Z (eZ Z (nB ?_))
  (refine AU (Le.gather (u := 10) (id := 45) rfl rfl (by first | (simp; done) | (simp; omega))) ?_; refine A2 rfl ?_)
  refine rT (tR ?_);refine eP [_] ?_ ?_
  ·first
   | (unfold BT; (repeat' split); all_goals first | rfl | (exfalso; simp_all; done) | (exfalso; simp_all; omega))
  ·first
   | (unfold BT; (repeat' split); all_goals first | rfl | (exfalso; simp_all; done) | (exfalso; simp_all; omega))
 simp only [HS] at h2;refine AE (tN (sQ (sQ ?_)));refine with1 (p := ¬ d = 0) ?_ (fun hd0 => ?_);omega
 obtain ⟨e, rfl⟩ := Nat.exists_eq_succ_of_ne_zero hd0
 rw [Ao, if_neg (by assumption)]
 have hxe := Kh e
 rw [exA] at h1
 have hxb := exB_le e (by omega)
 refine kY [0,1,2,3,4,10] Z (rG (eK 3 Z ?_));refine gB (fun h3 => ?_) (fun h3 => ?_)
 ·
  simp only [HS] at h3;refine xK 6 Z (kZ [0,1,2,3,4,10,53,55] Z (eZ Z (nB (BC Z (AE (tN (sQ ?_)))))))
  first
  | (refine with1 (p := ¬ (pure = false ∧ 0 < params.length)) ?_ (fun hq => ?_); (focus (intro hh; obtain ⟨q1, q2⟩ := hh; first | (exfalso; omega) | (simp_all; done))); rw [if_neg hq]; refine with1 (p := ∃ c2 : Cu, c2 = curC cd 3 c ∧ c.1 ≤ c2.1 ∧ c2.1 ≤ c.1 + 4) ⟨_, rfl, by omega, by omega⟩ (fun hh => ?_); obtain ⟨c2, hc2, hca, hcb⟩ := hh; rw [← hc2])
  have he1 := CH (vars := vars) (pure := pure) hcd hp e c2 (by omega)
  have he2 := CH (vars := vars) (pure := pure) hcd hp e (Ao cd vars params pure e c2).2 (by omega)
  have he4 := (Ac (n := 6) (c := (Ao cd vars params pure e (Ao cd vars params pure e c2).2).2) hcd (by omega))
  have he5 := he4.2.1 (by omega)
  have he3 := AM (cd := cd) (n := 6) (c := (Ao cd vars params pure e (Ao cd vars params pure e c2).2).2)
  refine rG (eK 2 Z (evI ?_));refine eK 3 Z ?_;refine cP [100] (hm := (hr e (by omega) _ c2 bw (by omega) (by omega) (by omega) (by omega))) (k := ?_);refine nZ Z (eZ Z (kZ [0,1,2,3,4,10,87,88] Z (eZ Z (evI ?_))));refine eK 3 Z ?_;refine cP [100] (hm := (hr e (by omega) _ (Ao cd vars params pure e c2).2 bw (by omega) (by omega) (by omega) (by omega))) (k := ?_);refine nZ Z (AC (Le.adoptE (u := 87) 187 Z Z) (nZ Z (AC (Le.adoptE (u := 94) 194 Z Z) (nZ Z (AJ tys Z Z (AA Z) Z Z Z Z Z (.own Z (by first | omega | (simp only [Qg]; omega))) Z (.own Z (by first | decide | omega)) (by decide) (by simp; omega) (by decide) Z ?_)))));refine nZ Z (eZ Z (nB (sQ (kY [0,10,14] Z (rG (eK 2 Z ?_))))));refine cP [100] (hm := (Ab cd 6 (Ao cd vars params pure e (Ao cd vars params pure e c2).2).2 bw pv hcd (by omega) (by omega))) (k := ?_);refine nZ Z (evI ?_);refine AG tys Z Z (AA Z) Z Z Z (by kernel_rfl) Z Z Z Z Z Z (bZ [(Tok.mk (3 + pickV cd 6 (Ao cd vars params pure e (Ao cd vars params pure e c2).2).2) 0).tt] ?_);refine nZ Z (AJ tys Z Z (AA Z) Z Z Z Z Z (.own Z (by first | omega | (simp only [Qg]; omega))) Z (.own Z (by first | decide | omega)) (by decide) (by simp; omega) (by decide) Z ?_);refine nZ Z (eZ Z (nB ?_))
  (refine AU (Le.gather (u := 10) (id := 187) rfl rfl (by first | (simp; done) | (simp; omega))) ?_; refine A2 rfl ?_)
  refine rT ?_;refine eP [_] ?_ ?_
  ·first
   | (unfold Lb; simp [Qi, Nat.add_assoc]; rfl)
  ·first
   | (unfold Lb; simp [Qi, Nat.add_assoc]; done)
 simp only [HS] at h3;refine eZ Z (gY Z (evE ?_));refine xK 3 Z ?_;refine gB (fun h4 => ?_) (fun h4 => ?_)
 ·
  simp only [HS] at h4;refine xZ Z (kZ [0,1,2,3,4,10,53,55] Z (eZ Z (nB (BC Z (AE (tN (sQ ?_)))))))
  first
  | (refine with1 (p := ¬ (pure = false ∧ 0 < params.length)) ?_ (fun hq => ?_); (focus (intro hh; obtain ⟨q1, q2⟩ := hh; first | (exfalso; omega) | (simp_all; done))); rw [if_neg hq]; refine with1 (p := ∃ c2 : Cu, c2 = curC cd 3 c ∧ c.1 ≤ c2.1 ∧ c2.1 ≤ c.1 + 4) ⟨_, rfl, by omega, by omega⟩ (fun hh => ?_); obtain ⟨c2, hc2, hca, hcb⟩ := hh; rw [← hc2])
  have he1 := CH (vars := vars) (pure := pure) hcd hp e c2 (by omega)
  have he2 := CH (vars := vars) (pure := pure) hcd hp e (Ao cd vars params pure e c2).2 (by omega)
  have he4 := (Ac (n := 6) (c := (Ao cd vars params pure e (Ao cd vars params pure e c2).2).2) hcd (by omega))
  have he5 := he4.2.1 (by omega)
  have he3 := AM (cd := cd) (n := 6) (c := (Ao cd vars params pure e (Ao cd vars params pure e c2).2).2)
  refine rG (eK 2 Z (evI ?_));refine eK 3 Z ?_;refine cP [100] (hm := (hr e (by omega) _ c2 bw (by omega) (by omega) (by omega) (by omega))) (k := ?_);refine nZ Z (eZ Z (kZ [0,1,2,3,4,10,87,88] Z (eZ Z (evI ?_))));refine eK 3 Z ?_;refine cP [100] (hm := (hr e (by omega) _ (Ao cd vars params pure e c2).2 bw (by omega) (by omega) (by omega) (by omega))) (k := ?_);refine nZ Z (AC (Le.adoptE (u := 87) 187 Z Z) (nZ Z (AC (Le.adoptE (u := 94) 194 Z Z) (nZ Z (AJ tys Z Z (AA Z) Z Z Z Z Z (.own Z (by first | omega | (simp only [Qg]; omega))) Z (.own Z (by first | decide | omega)) (by decide) (by simp; omega) (by decide) Z ?_)))));refine nZ Z (eZ Z (nB (sQ (kY [0,10,14] Z (rG (eK 2 Z ?_))))));refine cP [100] (hm := (Ab cd 6 (Ao cd vars params pure e (Ao cd vars params pure e c2).2).2 bw pv hcd (by omega) (by omega))) (k := ?_);refine nZ Z (evI ?_);refine AG tys Z Z (AA Z) Z Z Z (by kernel_rfl) Z Z Z Z Z Z (bZ [(Tok.mk (3 + pickV cd 6 (Ao cd vars params pure e (Ao cd vars params pure e c2).2).2) 0).tt] ?_);refine nZ Z (AJ tys Z Z (AA Z) Z Z Z Z Z (.own Z (by first | omega | (simp only [Qg]; omega))) Z (.own Z (by first | decide | omega)) (by decide) (by simp; omega) (by decide) Z ?_);refine nZ Z (eZ Z (nB ?_))
  (refine AU (Le.gather (u := 10) (id := 187) rfl rfl (by first | (simp; done) | (simp; omega))) ?_; refine A2 rfl ?_)
  refine rT ?_;refine eP [_] ?_ ?_
  ·first
   | (unfold Lb; simp [Qi, Nat.add_assoc]; rfl)
  ·first
   | (unfold Lb; simp [Qi, Nat.add_assoc]; done)
 simp only [HS] at h4;refine eZ Z (gY Z ?_);refine cP [100] (hm := (DA cd 3 (curC cd 3 c) bw pv hcd (by omega) (by omega))) (k := ?_);refine nZ Z (kZ [0,1,2,3,4,10,53,55] Z (eZ Z (nB ?_)));refine AD Z (fun h5 => ?_) (fun h5 => ?_)
 ·
  simp only [HS] at h5;refine sQ ?_;rw [if_pos ⟨by simp_all, by omega⟩, if_pos (by assumption)];refine with1 (p := ∃ c2 : Cu, c2 = curC cd 3 (curC cd 3 c) ∧ c.1 ≤ c2.1 ∧ c2.1 ≤ c.1 + 4) ⟨_, rfl, by omega, by omega⟩ (fun hh => ?_)
  obtain ⟨c2, hc2, hca, hcb⟩ := hh
  rw [← hc2]
  have hpl : 0 < params.length := by omega
  have hk7 := AM (cd := cd) (n := params.length) (c := c2)
  have hv7 := Ac (n := params.length) (c := c2) hcd (by omega)
  have hv7' := hv7.2.1 (by omega)
  have hps := Ma hp hv7.1 hv7'
  have hat := Dz (d := (0 : Int)) hv7.1 hv7'
  refine rG (eK 2 Z (evE ?_));refine cP [100] (hm := (Ab cd params.length c2 bw pv hcd (by omega) (by omega))) (k := ?_);refine nZ Z (eZ Z (nA (eZ Z (AC (Le.nilOwn (u := 12) 2 Z) (nZ Z (AC (Le.adoptE (u := 12) 112 Z Z) (nZ Z (nB (sQ (sQ (kY [0,1,2,3,4,10,11,12] Z (rG (eZ Z (nB (AF ?_)))))))))))))));refine lK (α := Int × List Tok × List T × Nat × Cu) [0, 1, 2, 3, 4, 11] [99] (fun x => [(13, .t (.int (x.1))), (12, .sl 112 0 (x.2.2.2.1))]) (fun x => [(100, .obox (.pointer (some ⟨bw, 0, none⟩)) (cuC pv (x.2.2.2.2))), (112, .L 2 (x.2.2.1))]) (fun x => 0 ≤ (x.1) ∧ ((x.2.1).length : Int) = (x.1) ∧ (x.1) ≤ at0 0 params (pickV cd params.length c2) ∧ (x.2.2.2.1) = (x.2.2.1).length ∧ (x.2.2.1) = (x.2.1).map Tok.tt ∧ FK cd vars pure (at0 0 params (pickV cd params.length c2) - (x.1)).toNat (x.2.1) (x.2.2.2.2) = FK cd vars pure (at0 0 params (pickV cd params.length c2)).toNat [] (curC cd params.length c2) ∧ c2.1 ≤ (x.2.2.2.2).1 ∧ (x.2.2.2.2).1 ≤ c2.1 + 2 + 4 * (x.1)) (fun x => Int.toNat (at0 0 params (pickV cd params.length c2) - (x.1))) (0, [], [], 0, curC cd params.length c2) ?_ (fun x hx => ?_)
  ·dsimp only
   exact ⟨by omega, by simp, by omega, rfl, rfl, by simp, by omega, by omega⟩
  obtain ⟨i, l, ys, n, c'⟩ := x
  obtain ⟨hi0, hil, him, hn, hys, hre, hia, hib⟩ := hx
  dsimp only at hi0 hil him hn hys hre hia hib ⊢;refine nY Z (sQ (sG (eK 3 Z ?_)));refine iX (h5 := hv7.1) (h6 := (EE _ _ hv7.1 hv7')) (k := ?_);refine eK 2 Z (nB ?_);refine AD Z (fun h6 => ?_) (fun h6 => ?_)
  ·
   simp only [HS] at h6;refine AE (tN (sQ (AF ?_)))
   have hlf := FP (cd := cd) (vars := vars) (pure := pure) (c := c')
   have hlx : Ao cd vars params pure 0 c' = BT cd vars pure c' := by rw [Ao]
   have hlf0 : (Ao cd vars params pure 0 c').1.length = 1 := by rw [Ao]; exact hlf.2.2
   have hyl : ys.length = l.length := by rw [hys, Qh]
   refine rG (eK 3 Z (kZ [0,1,2,3,4,11,12,13,61,62,63,64,65,66,69,70,71] Z (eK 2 Z ?_)));refine cP [100] (hm := (hr 0 (by omega) 0 c' bw Z (by omega) (by omega) (by rw [exA]; omega))) (k := ?_);refine nZ Z (AC (Le.adoptE (u := 74) 174 Z Z) (nZ Z (AJ tys Z Z (AA Z) Z Z Z Z Z (.own Z (by first | omega | (simp only [Qg]; omega))) Z (.own Z (by first | decide | omega)) (by decide) (by simp only [Qo, Qh]; omega) (by decide) Z ?_)));refine nZ Z (eZ Z (oN (bN (tN (rG (eZ Z (evI ?_)))))));refine eZ Z (oN ?_);refine lQ (_, l ++ (BT cd vars pure c').1, _, _, _) ?_ ?_
   ·dsimp only
    subst hn
    have hk5 : (at0 0 params (pickV cd params.length c2) - i).toNat = (at0 0 params (pickV cd params.length c2) - (i + 1)).toNat + 1 := by omega
    rw [hk5, FK] at hre;rw [hlx];refine ⟨by omega, by rw [Qg]; omega, by omega, by simp, ?_, hre, by omega, by omega⟩;rw [hys, Q8]
    simp [Qi, Ao]
   ·(show Int.toNat _ < Int.toNat _); omega
  simp only [HS] at h6;refine AV (tE (AP (AO (tN (sQ ?_)))))
  have hz : (at0 0 params (pickV cd params.length c2) - i).toNat = 0 := by omega
  rw [hz, FK] at hre;subst hn hys;refine rG (eK 2 Z (AG tys Z Z (AA Z) Z Z Z (by kernel_rfl) Z Z Z Z Z Z (kZ [0,1,2,3,4,76,78] Z (bZ [(Tok.mk 11 (pickV cd params.length c2)).tt] ?_))));refine nZ Z (AJ tys Z Z (AA Z) Z Z Z Z Z (.own Z (by first | omega | (simp only [Qg]; omega))) Z (.own Z (by first | decide | omega)) (by decide) (by simp only [Qo, Qh, Qk, List.length_nil]; omega) (by decide) Z ?_);refine nZ Z (eZ Z (nB ?_))
  (refine AU (Le.gather (u := 10) (id := 112) rfl rfl (by first | (simp; done) | (simp; omega))) ?_; refine A2 rfl ?_)
  refine rT (tR ?_);refine eP [_] ?_ ?_
  ·first
   | (unfold Iv; rw [← hre]; simp [Qi]; rfl)
  ·first
   | (unfold Iv; rw [← hre]; done)
 simp only [HS] at h5;refine AE (tN (sQ ?_))
 first
 | (refine with1 (p := pure = false ∧ 0 < params.length) ?_ (fun hq => ?_); (focus (refine ⟨?_, ?_⟩; (focus (simp_all; done)); omega)); rw [if_pos hq, if_neg (by assumption)]; refine with1 (p := ∃ c2 : Cu, c2 = curC cd 3 (curC cd 3 c) ∧ c.1 ≤ c2.1 ∧ c2.1 ≤ c.1 + 4) ⟨_, rfl, by omega, by omega⟩ (fun hh => ?_); obtain ⟨c2, hc2, hca, hcb⟩ := hh; rw [← hc2])
 have he1 := CH (vars := vars) (pure := pure) hcd hp e c2 (by omega)
 have he2 := CH (vars := vars) (pure := pure) hcd hp e (Ao cd vars params pure e c2).2 (by omega)
 have he4 := (Ac (n := 6) (c := (Ao cd vars params pure e (Ao cd vars params pure e c2).2).2) hcd (by omega))
 have he5 := he4.2.1 (by omega)
 have he3 := AM (cd := cd) (n := 6) (c := (Ao cd vars params pure e (Ao cd vars params pure e c2).2).2)
 refine rG (eK 2 Z (evI ?_));refine eK 3 Z ?_;refine cP [100] (hm := (hr e (by omega) _ c2 bw (by omega) (by omega) (by omega) (by omega))) (k := ?_);refine nZ Z (eZ Z (kZ [0,1,2,3,4,10,87,88] Z (eZ Z (evI ?_))));refine eK 3 Z ?_;refine cP [100] (hm := (hr e (by omega) _ (Ao cd vars params pure e c2).2 bw (by omega) (by omega) (by omega) (by omega))) (k := ?_);refine nZ Z (AC (Le.adoptE (u := 87) 187 Z Z) (nZ Z (AC (Le.adoptE (u := 94) 194 Z Z) (nZ Z (AJ tys Z Z (AA Z) Z Z Z Z Z (.own Z (by first | omega | (simp only [Qg]; omega))) Z (.own Z (by first | decide | omega)) (by decide) (by simp; omega) (by decide) Z ?_)))));refine nZ Z (eZ Z (nB (sQ (kY [0,10,14] Z (rG (eK 2 Z ?_))))));refine cP [100] (hm := (Ab cd 6 (Ao cd vars params pure e (Ao cd vars params pure e c2).2).2 bw pv hcd (by omega) (by omega))) (k := ?_);refine nZ Z (evI ?_);refine AG tys Z Z (AA Z) Z Z Z (by kernel_rfl) Z Z Z Z Z Z (bZ [(Tok.mk (3 + pickV cd 6 (Ao cd vars params pure e (Ao cd vars params pure e c2).2).2) 0).tt] ?_);refine nZ Z (AJ tys Z Z (AA Z) Z Z Z Z Z (.own Z (by first | omega | (simp only [Qg]; omega))) Z (.own Z (by first | decide | omega)) (by decide) (by simp; omega) (by decide) Z ?_);refine nZ Z (eZ Z (nB ?_))
 (refine AU (Le.gather (u := 10) (id := 187) rfl rfl (by first | (simp; done) | (simp; omega))) ?_; refine A2 rfl ?_)
 refine rT ?_;refine eP [_] ?_ ?_
 ·first
  | (unfold Lb; simp [Qi, Nat.add_assoc]; rfl)
 ·first
  | (unfold Lb; simp [Qi, Nat.add_assoc]; done)
theorem Ov (cd : List Int) (vars : Int) (params : List Int) (pure : Bool) (pv : Value) (hcd : Cc cd) (hp : Hb params) (d : Nat) : ExC cd vars params pure pv d :=
 Nat.strongRecOn (motive := fun d => ExC cd vars params pure pv d) d fun d ih dd c bw hd hd8 h0 h1 => M6 cd vars params pure d dd c bw pv hcd hp hd hd8 h0 h1 ih
open Go.Eng
def Dx (params : List Int) : List Int := (params.zipIdx.filter fun z => decide (z.1 = 0)).map fun z => (z.2 : Int)
theorem HB {params : List Int} {k : Int} (h0 : 0 ≤ k) (h1 : k < params.length) : Dx (params.take (k + 1).toNat) = Dx (params.take k.toNat) ++ (if params[k.toNat]'(by omega) = 0 then [k] else []) := by
 rw [CD h0 h1, Dx, List.zipIdx_append, List.filter_append, Q8]
 have hl : (params.take k.toNat).length = k.toNat := by rw [Qo]; omega
 rw [hl]
 congr 1
 simp only [List.zipIdx_cons, List.zipIdx_nil, List.filter_cons, List.filter_nil];split
 ·rename_i h
  rw [if_pos (by simpa using h)]
  simp; omega
 ·rename_i h
  rw [if_neg (by simpa using h)];rfl
abbrev OZ : List Int := [1, 2, 2, 3, 3, 4, 5, 6, 7, 8, 9]
def LM (loop flat : Bool) (vars : Int) (d : Nat) (k : Int) : Int :=
 if (loop = true ∧ k = 3) ∨ (flat = true ∧ k = 7) ∨ (flat = true ∧ k = 8) ∨ (k = 1 ∧ vars = 0) ∨ (k = 3 ∧ d = 4) then 2 else k
def CR (cd : List Int) (loop flat : Bool) (vars : Int) (d : Nat) (c : Cu) : Int × Cu :=
 if LM loop flat vars d (at0 0 OZ (pickV cd 11 c)) = 6 then
  (if pickV cd 3 (curC cd 11 c) = 0 then (6, curC cd 3 (curC cd 11 c)) else (9, curC cd 3 (curC cd 11 c)))
 else (LM loop flat vars d (at0 0 OZ (pickV cd 11 c)), curC cd 11 c)
def exR (cd : List Int) (vars : Int) (params : List Int) (k : Int) (c : Cu) : List Tok × Cu :=
 if k = 3 ∨ k = 6 then ([], c) else Ao cd vars params (decide (pickV cd 2 (curC cd 2 c) = 0)) (1 + pickV cd 2 c).toNat (curC cd 2 (curC cd 2 c))
def nR (cd : List Int) (vars : Int) (params : List Int) (k : Int) (c : Cu) : Int × Cu :=
 if k = 1 then (pickV cd vars c, curC cd vars c) else if k = 3 then (at0 0 (Dx params) (pickV cd (Dx params).length c), curC cd (Dx params).length c) else (0, c)
structure Dr where
 blk : List Int
 news : List Stmt
 cu : Cu
def dfs (l : List Stmt) : Nat := (l.filter fun s => decide (s.kind = 3)).length
def headR (cd : List Int) (vars : Int) (params : List Int) (loop flat : Bool) (d : Nat) (c : Cu) : Stmt × Cu :=
 (⟨(CR cd loop flat vars d c).1, (nR cd vars params (CR cd loop flat vars d c).1 (exR cd vars params (CR cd loop flat vars d c).1 (CR cd loop flat vars d c).2).2).1, (exR cd vars params (CR cd loop flat vars d c).1 (CR cd loop flat vars d c).2).1, [], []⟩,
  (nR cd vars params (CR cd loop flat vars d c).1 (exR cd vars params (CR cd loop flat vars d c).1 (CR cd loop flat vars d c).2).2).2)
def kidsR (cd : List Int) (r : Bool → Nat → Nat → Cu → Dr) (loop : Bool) (k d : Nat) (s : Stmt) (c : Cu) : Stmt × List Stmt × Cu :=
 if s.kind = 7 then
  (if pickV cd 2 (r loop k d c).cu = 0 then
   (⟨s.kind, s.n, s.ex, (r loop k d c).blk, (r loop (k + (r loop k d c).news.length) (d + dfs (r loop k d c).news) (curC cd 2 (r loop k d c).cu)).blk⟩,
    (r loop k d c).news ++ (r loop (k + (r loop k d c).news.length) (d + dfs (r loop k d c).news) (curC cd 2 (r loop k d c).cu)).news,
    (r loop (k + (r loop k d c).news.length) (d + dfs (r loop k d c).news) (curC cd 2 (r loop k d c).cu)).cu)
  else (⟨s.kind, s.n, s.ex, (r loop k d c).blk, []⟩, (r loop k d c).news, curC cd 2 (r loop k d c).cu))
 else if s.kind = 8 then (⟨s.kind, s.n, s.ex, (r true k d c).blk, []⟩, (r true k d c).news, (r true k d c).cu)
 else (s, [], c)
def Lp (cd : List Int) (vars : Int) (params : List Int) (r : Bool → Nat → Nat → Cu → Dr) (loop flat : Bool) (k d : Nat) (c : Cu) : Stmt × List Stmt × Cu :=
 kidsR cd r loop (k + 1) (d + dfs [(headR cd vars params loop flat d c).1]) (headR cd vars params loop flat d c).1 (headR cd vars params loop flat d c).2
def stmL (cd : List Int) (vars : Int) (params : List Int) (r : Bool → Nat → Nat → Cu → Dr) (loop flat : Bool) (n0 d0 : Nat) : Nat → List Int → List Stmt → Cu → Dr
 | 0, b, l, c => ⟨b, l, c⟩
 | n + 1, b, l, c => if 12 ≤ n0 + l.length then ⟨b, l, c⟩ else
  stmL cd vars params r loop flat n0 d0 n (b ++ [((n0 + l.length : Nat) : Int)]) (l ++ (Lp cd vars params r loop flat (n0 + l.length) (d0 + dfs l) c).1 :: (Lp cd vars params r loop flat (n0 + l.length) (d0 + dfs l) c).2.1)
   (Lp cd vars params r loop flat (n0 + l.length) (d0 + dfs l) c).2.2
def dr0 : Bool → Nat → Nat → Cu → Dr := fun _ _ _ c => ⟨[], [], c⟩
def GO (cd : List Int) (vars : Int) (params : List Int) : Nat → Bool → Nat → Nat → Cu → Dr
 | 0, loop, n0, d0, c => stmL cd vars params dr0 loop true n0 d0 (1 + pickV cd 3 c).toNat [] [] (curC cd 3 c)
 | e + 1, loop, n0, d0, c => stmL cd vars params (GO cd vars params e) loop false n0 d0 (1 + pickV cd 3 c).toNat [] [] (curC cd 3 c)
def CE (cd : List Int) : Nat → List Int → Cu → List Int × Cu
 | 0, l, c => (l, c)
 | k + 1, l, c => CE cd k (l ++ [at0 0 [0, 0, 0, 1, 2] (pickV cd 5 c)]) (curC cd 5 c)
def BS (cd : List Int) (c : Cu) : List Int × Cu := CE cd (pickV cd 4 c).toNat [0] (curC cd 4 c)
def ES (a b : Int) : Int := if a < b then a else b
def E0 (cd : List Int) (params : List Int) (m : Int) (c : Cu) : Func × Cu :=
 (⟨m, ES 6 (m + pickV cd 3 c), (GO cd (ES 6 (m + pickV cd 3 c)) params (1 + pickV cd 2 (curC cd 3 c)).toNat false 0 0 (curC cd 2 (curC cd 3 c))).blk, (GO cd (ES 6 (m + pickV cd 3 c)) params (1 + pickV cd 2 (curC cd 3 c)).toNat false 0 0 (curC cd 2 (curC cd 3 c))).news⟩,
  (GO cd (ES 6 (m + pickV cd 3 c)) params (1 + pickV cd 2 (curC cd 3 c)).toNat false 0 0 (curC cd 2 (curC cd 3 c))).cu)
def Br (cd : List Int) (params : List Int) : List Int → List Func → Cu → List Func × Cu
 | [], l, c => (l, c)
 | m :: ms, l, c => Br cd params ms (l ++ [(E0 cd params m c).1]) (E0 cd params m c).2
def FH (cd : List Int) (c : Cu) : Prog × Cu := (⟨(Br cd (BS cd c).1 (BS cd c).1 [] (BS cd c).2).1⟩, (Br cd (BS cd c).1 (BS cd c).1 [] (BS cd c).2).2)
open Go.Eng
section
variable {cd : List Int} {vars : Int} {params : List Int}
theorem KO {loop flat : Bool} {d : Nat} {c : Cu} : c.1 ≤ (CR cd loop flat vars d c).2.1 ∧ (CR cd loop flat vars d c).2.1 ≤ c.1 + 4 := by
 have p1 := AM (cd := cd) (n := 11) (c := c)
 have p2 := AM (cd := cd) (n := 3) (c := curC cd 11 c)
 unfold CR
 repeat' split
 all_goals (simp only; omega)
theorem PW {k : Int} {c : Cu} (hcd : Cc cd) (hp : Hb params) (h0 : 0 ≤ c.1) : c.1 ≤ (exR cd vars params k c).2.1 ∧ (exR cd vars params k c).2.1 ≤ c.1 + 104 ∧ (exR cd vars params k c).1.length ≤ 13 := by
 have p1 := AM (cd := cd) (n := 2) (c := c)
 have p2 := AM (cd := cd) (n := 2) (c := curC cd 2 c)
 have v1 := Ac (n := 2) (c := c) hcd h0
 have v2 := v1.2.1 (by omega)
 have e := CH (vars := vars) (pure := decide (pickV cd 2 (curC cd 2 c) = 0)) hcd hp (1 + pickV cd 2 c).toNat (curC cd 2 (curC cd 2 c)) (by omega)
 have hb : exA (1 + pickV cd 2 c).toNat ≤ 100 ∧ exB (1 + pickV cd 2 c).toNat ≤ 13 := by
  rcases (show pickV cd 2 c = 0 ∨ pickV cd 2 c = 1 by omega) with h | h <;> rw [h] <;> decide
 unfold exR;split
 ·simp only [List.length_nil]; omega
 ·omega
theorem nR_at {k : Int} {c : Cu} : c.1 ≤ (nR cd vars params k c).2.1 ∧ (nR cd vars params k c).2.1 ≤ c.1 + 2 := by
 have p1 := AM (cd := cd) (n := vars) (c := c)
 have p2 := AM (cd := cd) (n := (Dx params).length) (c := c)
 unfold nR
 repeat' split
 all_goals (simp only; omega)
def Nr (s : Stmt) : Prop := s.ex.length ≤ 13 ∧ s.thn.length ≤ 3 ∧ s.els.length ≤ 3
theorem Oe {loop flat : Bool} {d : Nat} {c : Cu} (hcd : Cc cd) (hp : Hb params) (h0 : 0 ≤ c.1) : c.1 ≤ (headR cd vars params loop flat d c).2.1 ∧ (headR cd vars params loop flat d c).2.1 ≤ c.1 + 110 ∧ Nr (headR cd vars params loop flat d c).1 := by
 have h1 := KO (cd := cd) (vars := vars) (loop := loop) (flat := flat) (d := d) (c := c)
 have h2 := PW (vars := vars) (k := (CR cd loop flat vars d c).1) (c := (CR cd loop flat vars d c).2) hcd hp (by omega)
 have h3 := nR_at (cd := cd) (vars := vars) (params := params) (k := (CR cd loop flat vars d c).1) (c := (exR cd vars params (CR cd loop flat vars d c).1 (CR cd loop flat vars d c).2).2)
 unfold headR;exact ⟨by dsimp only; omega, by dsimp only; omega, h2.2.2, by simp, by simp⟩
def DrOk (k : Nat) (c : Cu) (r : Dr) : Prop := c.1 ≤ r.cu.1 ∧ r.cu.1 ≤ c.1 + 2 + 200 * r.news.length ∧ k + r.news.length ≤ 12 ∧ r.blk.length ≤ 3 ∧ ∀ s, s ∈ r.news → Nr s
def Lk (r : Bool → Nat → Nat → Cu → Dr) : Prop := ∀ loop k d c, 0 ≤ c.1 → k ≤ 12 → DrOk k c (r loop k d c)
theorem KT {r : Bool → Nat → Nat → Cu → Dr} (hr : Lk r) {loop : Bool} {k d : Nat} {s : Stmt} {c : Cu} (hs : Nr s) (h0 : 0 ≤ c.1) (hk : k ≤ 12) :
  c.1 ≤ (kidsR cd r loop k d s c).2.2.1 ∧ (kidsR cd r loop k d s c).2.2.1 ≤ c.1 + 6 + 200 * (kidsR cd r loop k d s c).2.1.length ∧ k + (kidsR cd r loop k d s c).2.1.length ≤ 12 ∧ Nr (kidsR cd r loop k d s c).1 ∧ ∀ x, x ∈ (kidsR cd r loop k d s c).2.1 → Nr x := by
 have a := hr loop k d c h0 hk
 have p := AM (cd := cd) (n := 2) (c := (r loop k d c).cu)
 have b := hr loop (k + (r loop k d c).news.length) (d + dfs (r loop k d c).news) (curC cd 2 (r loop k d c).cu) (by have := a.1; omega) a.2.2.1
 have e := hr true k d c h0 hk
 obtain ⟨a1, a2, a3, a4, a5⟩ := a
 obtain ⟨b1, b2, b3, b4, b5⟩ := b
 obtain ⟨e1, e2, e3, e4, e5⟩ := e
 unfold kidsR;split
 ·split
  ·refine ⟨by dsimp only; omega, by dsimp only; rw [Qg]; omega, by dsimp only; rw [Qg]; omega, ⟨hs.1, a4, b4⟩, fun x hx => ?_⟩
   rcases Qj.1 hx with hx | hx
   ·exact a5 x hx
   ·exact b5 x hx
  ·exact ⟨by dsimp only; omega, by dsimp only; omega, by dsimp only; omega, ⟨hs.1, a4, by simp⟩, a5⟩
 ·split
  ·exact ⟨by dsimp only; omega, by dsimp only; omega, by dsimp only; omega, ⟨hs.1, e4, by simp⟩, e5⟩
  ·exact ⟨by dsimp only; omega, by dsimp only; omega, by simpa using hk, hs, by simp⟩
theorem L8 {r : Bool → Nat → Nat → Cu → Dr} (hcd : Cc cd) (hp : Hb params) (hr : Lk r) {loop flat : Bool} {n0 d0 : Nat} : ∀ (n : Nat) (b : List Int) (l : List Stmt) (c : Cu), 0 ≤ c.1 → n0 + l.length ≤ 12 → (∀ s, s ∈ l → Nr s) →
  c.1 ≤ (stmL cd vars params r loop flat n0 d0 n b l c).cu.1 ∧ (stmL cd vars params r loop flat n0 d0 n b l c).cu.1 + 200 * l.length ≤ c.1 + 200 * (stmL cd vars params r loop flat n0 d0 n b l c).news.length ∧ n0 + (stmL cd vars params r loop flat n0 d0 n b l c).news.length ≤ 12 ∧
   (stmL cd vars params r loop flat n0 d0 n b l c).blk.length ≤ b.length + n ∧ ∀ s, s ∈ (stmL cd vars params r loop flat n0 d0 n b l c).news → Nr s
 | 0, b, l, c, h0, hl, hs => by rw [stmL]; exact ⟨by dsimp only; omega, by dsimp only; omega, hl, by simp, hs⟩
 | n + 1, b, l, c, h0, hl, hs => by
  rw [stmL];split
  ·exact ⟨by dsimp only; omega, by dsimp only; omega, hl, by simp, hs⟩
  ·rename_i hlt
   have h1 := Oe (vars := vars) (loop := loop) (flat := flat) (d := d0 + dfs l) (c := c) hcd hp h0
   have h2 := KT (cd := cd) hr (loop := loop) (k := n0 + l.length + 1) (d := d0 + dfs l + dfs [(headR cd vars params loop flat (d0 + dfs l) c).1]) (s := (headR cd vars params loop flat (d0 + dfs l) c).1) (c := (headR cd vars params loop flat (d0 + dfs l) c).2) h1.2.2 (by omega) (by omega)
   obtain ⟨k1, k2, k3, k4, k5⟩ := h2
   unfold Lp;generalize kidsR cd r loop (n0 + l.length + 1) (d0 + dfs l + dfs [(headR cd vars params loop flat (d0 + dfs l) c).1]) (headR cd vars params loop flat (d0 + dfs l) c).1 (headR cd vars params loop flat (d0 + dfs l) c).2 = z at k1 k2 k3 k4 k5
   have ih := L8 hcd hp hr (loop := loop) (flat := flat) (n0 := n0) (d0 := d0) n (b ++ [((n0 + l.length : Nat) : Int)]) (l ++ z.1 :: z.2.1) z.2.2 (by omega) (by rw [Qg, Qk]; omega) (fun s h => by
    rcases Qj.1 h with h | h
    ·exact hs s h
    ·rcases Qp.1 h with rfl | h
     ·exact k4
     ·exact k5 s h)
   rw [Qg, Qk, Qg, Qk, List.length_nil] at ih
   obtain ⟨i1, i2, i3, i4, i5⟩ := ih
   exact ⟨by omega, by omega, i3, by omega, i5⟩
theorem PY : Lk dr0 := fun loop k d c h0 hk => ⟨Int.le_refl _, by unfold dr0; simp; omega, by unfold dr0; simpa using hk, by unfold dr0; simp, fun s h => by unfold dr0 at h; simp at h⟩
theorem L9 {r : Bool → Nat → Nat → Cu → Dr} {flat : Bool} (hcd : Cc cd) (hp : Hb params) (hr : Lk r) (loop : Bool) (k d : Nat) (c : Cu) (h0 : 0 ≤ c.1) (hk : k ≤ 12) : DrOk k c (stmL cd vars params r loop flat k d (1 + pickV cd 3 c).toNat [] [] (curC cd 3 c)) := by
 have p1 := AM (cd := cd) (n := 3) (c := c)
 have v1 := Ac (n := 3) (c := c) hcd h0
 have v2 := v1.2.1 (by omega)
 have h := L8 (vars := vars) hcd hp hr (loop := loop) (flat := flat) (n0 := k) (d0 := d) (1 + pickV cd 3 c).toNat [] [] (curC cd 3 c) (by omega) (by simpa using hk) (by simp)
 generalize stmL cd vars params r loop flat k d (1 + pickV cd 3 c).toNat [] [] (curC cd 3 c) = z at h
 obtain ⟨i1, i2, i3, i4, i5⟩ := h
 have e0 : ([] : List Stmt).length = 0 := rfl
 have e1 : ([] : List Int).length = 0 := rfl
 rw [e0] at i2;rw [e1] at i4;exact ⟨by omega, by omega, i3, by omega, i5⟩
theorem JJ (hcd : Cc cd) (hp : Hb params) : ∀ e : Nat, Lk (GO cd vars params e)
 | 0 => fun loop k d c h0 hk => by rw [GO]; exact L9 hcd hp PY loop k d c h0 hk
 | e + 1 => fun loop k d c h0 hk => by rw [GO]; exact L9 hcd hp (JJ hcd hp e) loop k d c h0 hk
end
open Go.Eng
theorem Me (a b : Int) : Fun Try.prog 110 [.t (.int a), .t (.int b)] (A5 [.t (.int (ES a b))]) := by
 refine Fun.begin tys Try.func110 Z Z (N := 10) [(0, .t (.int a)), (1, .t (.int b))] Z Z (fun w0 G F0 => ?_);refine sG (eZ Z (nB (sQ (sG (eK 3 Z (nB ?_))))));refine AD Z (fun h1 => ?_) (fun h1 => ?_)
 ·
  simp only [HS] at h1;refine sG (eK 2 Z (nB (rT (tR (eR ?_)))))
  ·(rw [ES, if_pos (by assumption)]; done)
 simp only [HS] at h1;refine AE (tN (sG (eK 2 Z (nB (rT (eR ?_))))))
 ·(rw [ES, if_neg (by omega)]; done)
open Go.Eng
section
variable {cd : List Int} {params : List Int}
theorem P9 {k : Int} (h0 : 0 ≤ k) (h1 : k < 5) : (0 : Int) ≤ at0 0 [0, 0, 0, 1, 2] k ∧ at0 0 [0, 0, 0, 1, 2] k ≤ (2 : Int) := by
 rcases (show k = 0 ∨ k = 1 ∨ k = 2 ∨ k = 3 ∨ k = 4 by omega) with h | h | h | h | h <;> subst h <;> decide
theorem Gj (hcd : Cc cd) : ∀ (k : Nat) (l : List Int) (c : Cu), 0 ≤ c.1 → (∀ m, m ∈ l → 0 ≤ m ∧ m ≤ 2) →
  c.1 ≤ (CE cd k l c).2.1 ∧ (CE cd k l c).2.1 ≤ c.1 + 2 * k ∧ (CE cd k l c).1.length = l.length + k ∧ (∀ m, m ∈ (CE cd k l c).1 → 0 ≤ m ∧ m ≤ 2) ∧ l <+: (CE cd k l c).1
 | 0, l, c, h0, hl => by simp [CE]; exact hl
 | k + 1, l, c, h0, hl => by
  have p := AM (cd := cd) (n := 5) (c := c)
  have v := Ac (n := 5) (c := c) hcd h0
  have f := P9 v.1 (v.2.1 (by omega))
  have ih := Gj hcd k (l ++ [at0 0 [0, 0, 0, 1, 2] (pickV cd 5 c)]) (curC cd 5 c) (by omega) (fun m hm => by
   rcases Qj.1 hm with hm | hm
   ·exact hl m hm
   ·rw [Q5] at hm; subst hm; exact f)
  rw [Qg, Qk, List.length_nil] at ih
  obtain ⟨a, b, d, e, g⟩ := ih
  rw [CE];exact ⟨by omega, by omega, by omega, e, List.IsPrefix.trans (List.prefix_append _ _) g⟩
theorem Er {c : Cu} (hcd : Cc cd) (h0 : 0 ≤ c.1) : c.1 ≤ (BS cd c).2.1 ∧ (BS cd c).2.1 ≤ c.1 + 10 ∧ Hb (BS cd c).1 ∧ [(0 : Int)] <+: (BS cd c).1 := by
 have p := AM (cd := cd) (n := 4) (c := c)
 have v := Ac (n := 4) (c := c) hcd h0
 have v2 := v.2.1 (by omega)
 have h := Gj hcd (pickV cd 4 c).toNat [0] (curC cd 4 c) (by omega) (by simp)
 rw [Qk, List.length_nil] at h
 obtain ⟨a, b, d, e, g⟩ := h
 unfold BS;exact ⟨by omega, by omega, ⟨by omega, e⟩, g⟩
def okFn (f : Func) : Prop := f.body.length ≤ 3 ∧ f.stmts.length ≤ 12 ∧ ∀ s, s ∈ f.stmts → Nr s
theorem FT {m : Int} {c : Cu} (hcd : Cc cd) (hp : Hb params) (h0 : 0 ≤ c.1) : c.1 ≤ (E0 cd params m c).2.1 ∧ (E0 cd params m c).2.1 ≤ c.1 + 2500 ∧ okFn (E0 cd params m c).1 := by
 have p1 := AM (cd := cd) (n := 3) (c := c)
 have p2 := AM (cd := cd) (n := 2) (c := curC cd 3 c)
 have h := JJ (vars := ES 6 (m + pickV cd 3 c)) hcd hp (1 + pickV cd 2 (curC cd 3 c)).toNat false 0 0 (curC cd 2 (curC cd 3 c)) (by omega) (by omega)
 obtain ⟨a, b, d, e, g⟩ := h
 unfold E0;exact ⟨by dsimp only; omega, by dsimp only; omega, e, by dsimp only; omega, g⟩
theorem Ib (hcd : Cc cd) (hp : Hb params) : ∀ (ms : List Int) (l : List Func) (c : Cu), 0 ≤ c.1 → (∀ f, f ∈ l → okFn f) →
  c.1 ≤ (Br cd params ms l c).2.1 ∧ (Br cd params ms l c).2.1 ≤ c.1 + 2500 * ms.length ∧ (Br cd params ms l c).1.length = l.length + ms.length ∧ ∀ f, f ∈ (Br cd params ms l c).1 → okFn f
 | [], l, c, h0, hl => by simp [Br]; exact hl
 | m :: ms, l, c, h0, hl => by
  have h := FT (m := m) hcd hp h0
  have ih := Ib hcd hp ms (l ++ [(E0 cd params m c).1]) (E0 cd params m c).2 (by omega) (fun f hf => by
   rcases Qj.1 hf with hf | hf
   ·exact hl f hf
   ·rw [Q5] at hf; subst hf; exact h.2.2)
  rw [Qg, Qk, List.length_nil] at ih;rw [Br, Qk];exact ⟨by omega, by omega, by omega, ih.2.2.2⟩
theorem J9 {c : Cu} (hcd : Cc cd) (h0 : 0 ≤ c.1) : c.1 ≤ (FH cd c).2.1 ∧ (FH cd c).2.1 ≤ c.1 + 10010 ∧ 1 ≤ (FH cd c).1.funcs.length ∧ (FH cd c).1.funcs.length ≤ 4 ∧ ∀ f, f ∈ (FH cd c).1.funcs → okFn f := by
 obtain ⟨a, b, d, e⟩ := Er (c := c) hcd h0
 have h := Ib hcd d (BS cd c).1 [] (BS cd c).2 (by omega) (by simp)
 have hl := e.length_le
 rw [Qk, List.length_nil] at hl;rw [List.length_nil] at h
 have hd := d.1
 unfold FH;exact ⟨by dsimp only; omega, by dsimp only; omega, by dsimp only; omega, by dsimp only; omega, h.2.2.2⟩
end
open Go.Eng
structure TS where
 k : Int
 n : Int
 a : T
 b : T
 c : T
def TS.tt (z : TS) : T := .agg [T.int z.k, T.int z.n, z.a, z.b, z.c]
def Ag (zs : List TS) : List Int := Dx (zs.map fun z => z.k - 3)
theorem Ho {zs : List TS} {k : Int} (h0 : 0 ≤ k) (h1 : k < zs.length) : Ag (zs.take (k + 1).toNat) = Ag (zs.take k.toNat) ++ (if (zs[k.toNat]'(by omega)).k = 3 then [k] else []) := by
 have h := HB (params := zs.map fun z => z.k - 3) h0 (by rw [Qh]; exact h1)
 rw [← List.map_take, ← List.map_take, List.getElem_map] at h;unfold Ag;rw [h]
 congr 1
 split
 ·rw [if_pos (by omega)]
 ·rw [if_neg (by omega)]
theorem JC (p : Int → Bool) : ∀ (l : List Int) (i : Nat), ((l.zipIdx i).filter fun z => p z.1).length = (l.filter p).length
 | [], i => rfl
 | a :: l, i => by
  rw [List.zipIdx_cons, List.filter_cons, List.filter_cons];simp only;split
  ·rw [Qk, Qk, JC p l]
  ·exact JC p l _
theorem Cm (zs : List TS) : (Ag zs).length = (zs.filter fun z => decide (z.k = 3)).length := by
 unfold Ag Dx;rw [Qh, JC (fun z => decide (z = 0)), List.filter_map, Qh]
 congr 1
 apply List.filter_congr
 intro z _;simp only [Function.comp]
 by_cases h : z.k = 3
 ·simp [h]
 ·simp [h]; omega
theorem IJ (p v : Int) (zs : List TS) (hz : zs.length ≤ 1048576) : Fun Try.prog 81 [.t (.agg [T.int p, T.int v, T.ints [], .list 5 (zs.map TS.tt)])] (A5 [.own (T.ints (Ag zs))]) := by
 refine Fun.begin tys Try.func81 Z Z (N := 23) [(0, .t (.agg [T.int p, T.int v, T.ints [], .list 5 (zs.map TS.tt)]))] Z Z (fun w0 G F0 => ?_);refine sG (Af Z Z (AA Z) Z Z (nZ Z (eZ Z (nA (eZ Z (AC (Le.nilOwn (u := 3) 1 Z) (nZ Z (AC (Le.adoptE (u := 3) 104 Z Z) (nZ Z (nB (sQ (sG (eK 2 Z (evE ?_))))))))))))));refine eZ Z (nB (AF ?_));refine lK (α := Int × List Int × List T × Nat) [7, 8] [] (fun x => [(9, .t (.int (x.1))), (3, .sl 104 0 (x.2.2.2))]) (fun x => [(104, .L 1 (x.2.2.1))]) (fun x => 0 ≤ (x.1) ∧ (x.1) ≤ zs.length ∧ (x.2.2.2) = (x.2.2.1).length ∧ (x.2.2.1) = (x.2.1).map T.int ∧ (x.2.1) = Ag (zs.take (x.1).toNat) ∧ ((x.2.1).length : Int) ≤ (x.1)) (fun x => Int.toNat (zs.length - (x.1))) (0, [], [], 0) ?_ (fun x hx => ?_)
 ·dsimp only
  exact ⟨by omega, by omega, rfl, rfl, rfl, by simp⟩
 obtain ⟨k, l, ys, n⟩ := x
 obtain ⟨hk0, hk1, hn, hys, hl, hll⟩ := hx
 dsimp only at hk0 hk1 hn hys hl hll ⊢;refine nY Z (sG (eZ Z (nB (sQ ?_))));refine AD Z (fun h1 => ?_) (fun h1 => ?_)
 ·
  simp only [HS] at h1;refine AE (tN (sQ (AF (sG (eZ Z ?_)))));refine iY (k := ?_);refine eZ Z ?_
  try refine AC (Le.freeze (u := 13) rfl) ?_
  refine nZ Z (AC (Le.blur5 (t := 13) Z) (nZ Z (AH tys Z Z (AA Z) Z Z Z (nZ Z (eZ Z (sT Z (nZ Z (nB (sQ (kY [3,4,5,7,8,9,10,11,12,13] Z (rG (eK 3 Z (nB ?_)))))))))))));refine AD Z (fun h2 => ?_) (fun h2 => ?_)
  ·
   simp only [HS] at h2
   have hyl : ys.length = l.length := by rw [hys, Qh]
   refine rG (eK 2 Z (bZ [T.int k] ?_));refine nZ Z (AJ tys Z Z (AA Z) Z Z Z Z Z (.own Z (by first | omega | (simp only [Qg]; omega))) Z (.own Z (by first | decide | omega)) (by decide) (by simp only [Qo, Qk, List.length_nil]; omega) (by decide) Z ?_);refine nZ Z (eZ Z (oN (bN (tN (kY [3,4,5,7,8,9,10,11,12,13,14,15,16,17,18,19,20] Z (rG (evI ?_)))))));refine eZ Z (oN ?_);refine lQ (_, l ++ (if (zs[k.toNat]'(by omega)).k = 3 then [k] else []), _, _) ?_ ?_
   ·dsimp only
    subst hn;refine ⟨by omega, by omega, ?_, ?_, by rw [Ho hk0 (by omega), hl], ?_⟩
    all_goals first | rfl | (rw [if_pos (by assumption), Qt, hys, Q8]; rfl) | (rw [if_neg (by assumption), Q3]; exact hys) | (rw [if_pos (by assumption)]; simp [hys]; done) | (rw [if_pos (by assumption)]; simp [hys]; omega) | (rw [if_neg (by assumption)]; simp [hys]; done) | (rw [if_neg (by assumption)]; simp [hys]; omega) | (simp; done)
   ·(show Int.toNat _ < Int.toNat _); omega
  simp only [HS] at h2;refine AE (bN (tN (rG (evI ?_))));refine eZ Z (oN ?_);refine lQ (_, l ++ (if (zs[k.toNat]'(by omega)).k = 3 then [k] else []), _, _) ?_ ?_
  ·dsimp only
   subst hn;refine ⟨by omega, by omega, ?_, ?_, by rw [Ho hk0 (by omega), hl], ?_⟩
   all_goals first | rfl | (rw [if_pos (by assumption), Qt, hys, Q8]; rfl) | (rw [if_neg (by assumption), Q3]; exact hys) | (rw [if_pos (by assumption)]; simp [hys]; done) | (rw [if_pos (by assumption)]; simp [hys]; omega) | (rw [if_neg (by assumption)]; simp [hys]; done) | (rw [if_neg (by assumption)]; simp [hys]; omega) | (simp; done)
  ·(show Int.toNat _ < Int.toNat _); omega
 simp only [HS] at h1;refine AV (tE (AP (AO (tN (sQ ?_)))));subst hn;refine rG (eK 2 Z (nB (AU (Le.gather (u := 2) (id := 104) Z Z (by omega)) (nY Z (rT (eR ?_))))))
 ·rw [hys, hl, BW (by omega), Qi (by simp)]
  rfl
end Go.Proofs.Ytddfnpiikkilhaa
