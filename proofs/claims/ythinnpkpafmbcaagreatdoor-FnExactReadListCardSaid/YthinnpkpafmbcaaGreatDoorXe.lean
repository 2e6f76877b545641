/- Walks and laws of the claim. -/
import Derived.Test.YthinnpkpafmbcaaGreatDoorXd
import Derived.Test.YthinnpkpafmbcaaGreatDoorXlD
import Derived.Lib.AppendIntMem
import Derived.Lib.ItoaLen
import Derived.Lib.AtoiTie
import Derived.Lib.Split
import Derived.Test.YthinnpkpafmbcaaGreatDoorMe
import Derived.Test.YthinnpkpafmbcaaGreatDoorTy
import Derived.Shelf.Strings.Builder1
set_option linter.unusedVariables false
set_option linter.unusedSimpArgs false
set_option maxRecDepth 100000
set_option maxHeartbeats 4000000
namespace Go.Proofs.YthinnpkpafmbcaaGreatDoor
open Go.Eng
open Go.Eng Go.RowKit
theorem DN {P : Program} {w w' : World} {name : String} {arr : Array Value} (h : w.var? P name = some arr) (hb : Below w.heap.size w w') : w'.var? P name = some arr := by
 unfold World.var? at *
 cases hg : P.globalNamed name with
 | none => simp [hg] at h
 | some g =>
  simp only [hg, Option.bind_some] at h ⊢
  have hlt : g < w.heap.size := by
   by_cases hlt : g < w.heap.size
   ·exact hlt
   ·rw [Array.getElem?_eq_none (by omega)] at h; cases h
  rw [hb.block g hlt];exact h
theorem KI {w w' : World} {a : Addr} {v : Value} (h : w.cell? a = some v) (hb : Below w.heap.size w w') : w'.cell? a = some v := by
 unfold World.cell? at *
 have hlt : a.block < w.heap.size := by
  by_cases hlt : a.block < w.heap.size
  ·exact hlt
  ·rw [Array.getElem?_eq_none (by omega)] at h; cases h
 rw [hb.block _ hlt];exact h
def wordsV : List Value := wordsL.map fun l => .string ⟨⟨l⟩⟩
def Lad (w : World) (F : Nat → Prop) : Prop :=
 F 0 ∧ w.var? Tryz.prog "loop.example/g00745/impl.insWords" = some wordsV.toArray ∧ (∃ m, w.cell? ⟨1, 0, none⟩ = some (.int .i64 m)) ∧ Lib.TabIs Tryz.prog w "internal/strconv.uint64pow10" .u64 Lib.pow10Tab ∧
  (∃ tp p, w.var? Tryz.prog "strconv.ErrSyntax" = some #[.iface tp p]) ∧ ∃ tp p, w.var? Tryz.prog "strconv.ErrRange" = some #[.iface tp p]
theorem LadS : Jb Lad := by
 rintro w w' F F' ⟨h1, h2, ⟨m, h3⟩, h4, ⟨tp, p, h5⟩, tp', p', h6⟩ hb hF
 exact ⟨hF _ h1, DN h2 hb, ⟨m, KI h3 hb⟩, Lib.tabBelow_of_tabIs h4 w' hb, ⟨tp, p, DN h5 hb⟩, tp', p', DN h6 hb⟩
theorem gWords : Tryz.prog.globalNamed "loop.example/g00745/impl.insWords" = some 0 := by kernel_rfl
theorem below_drew {w : World} {n : Nat} : Below w.heap.size w (w.drewN n) := ⟨rfl, rfl, rfl, OJ _, fun _ _ => rfl⟩
theorem KJ {w : World} {os : Array Obj} : Below w.heap.size w (Sort.grow w os) := by
 refine ⟨rfl, rfl, rfl, ?_, fun k hk => ?_⟩
 ·show w.heap.size ≤ (w.heap ++ os).size
  rw [Array.size_append]; omega
 ·show (w.heap ++ os)[k]? = w.heap[k]?
  rw [Array.getElem?_append_left hk]
def LadC (w : World) (F : Nat → Prop) : Prop :=
 F 0 ∧ w.var? Tryz.prog "loop.example/g00745/impl.insWords" = some wordsV.toArray ∧ Lib.TabIs Tryz.prog w "internal/strconv.uint64pow10" .u64 Lib.pow10Tab
theorem LadCS : Jb LadC := by
 rintro w w' F F' ⟨h1, h2, h4⟩ hb hF
 exact ⟨hF _ h1, DN h2 hb, Lib.tabBelow_of_tabIs h4 w' hb⟩
theorem NM (w : World) (F : Nat → Prop) (h : Lad w F) : LadC w F := ⟨h.1, h.2.1, h.2.2.2.1⟩
theorem FunL.weak {P : Program} {Λ Λ' : World → (Nat → Prop) → Prop} {f : FuncId} {ds : List D} {r : D} (h : FunL P Λ f ds r) (hw : ∀ w F, Λ' w F → Λ w F) : FunL P Λ' f ds r := ⟨h.1, fun w F args hL => h.2 w F args (hw w F hL)⟩
theorem Fh {w : World} {F : Nat → Prop} (h1 : F 0) (h2 : w.var? Tryz.prog "loop.example/g00745/impl.insWords" = some wordsV.toArray) : F 0 ∧ ∃ arr e fz, w.heap[0]? = some (.cells arr e fz) ∧ arr.toList = wordsV := by
 unfold World.var? at h2;simp only [gWords, Option.bind_some] at h2;refine ⟨h1, ?_⟩;split at h2
 ·rename_i cs e fz hh
  cases h2;exact ⟨_, _, _, hh, rfl⟩
 ·cases h2
theorem Mx : Hr Lad 0 wordsV := fun w F h => Fh h.1 h.2.1
theorem Ie : Hr LadC 0 wordsV := fun w F h => Fh h.1 h.2.1
theorem Be (n : Int) (h0 : -9223372036854775808 ≤ n) (h1 : n ≤ 9223372036854775807) : FunL Tryz.prog LadC 61 [.t (.int n)] (.t (T.str (Lib.itoa n))) := by
 refine FunL.plain (vs := [.int .i64 n]) (u := .string ⟨(Lib.itoa n).toArray⟩) ⟨_, Tryz.func61, rfl, rfl⟩ (fun w F h => ?_) (fun w F => .t (.v Z .nil) .done);refine (Tryz.strconv_Itoa n h0 h1 w h.2.2).mono ?_
 rintro e w' ⟨rfl, k, os, rfl⟩
 exact ⟨rfl, below_drew.trans (KJ (w := w.drewN k))⟩
theorem L7 (n : Int) (h0 : -9223372036854775808 ≤ n) (h1 : n ≤ 9223372036854775807) : FunL Tryz.prog Lad 61 [.t (.int n)] (.t (T.str (Lib.itoa n))) := FunL.weak (Be n h0 h1) NM
theorem Nb (s sep : Tx) (hs : s.length ≤ 1048576) : FunL Tryz.prog Lad 93 [.t (T.str s), .t (T.str sep)] (.tup [.t (T.str (Lib.cut s sep).1), .t (T.str (Lib.cut s sep).2.1), .t (.bool (Lib.cut s sep).2.2)]) := by
 refine FunL.plain (vs := [.string ⟨⟨s⟩⟩, .string ⟨⟨sep⟩⟩]) (u := .tuple #[.string ⟨(Lib.cut s sep).1.toArray⟩, .string ⟨(Lib.cut s sep).2.1.toArray⟩, .bool (Lib.cut s sep).2.2]) ⟨_, Tryz.func93, rfl, rfl⟩ (fun w F h => ?_)
  (fun w F => RelD.tup (bs := []) (bs' := []) (.t (.v rfl .nil) (.t (.v rfl .nil) (.t (.v rfl .nil) .done))) .done)
 obtain ⟨m, hm⟩ := h.2.2.1
 refine (Tryz.strings_Cut ⟨⟨s⟩⟩ ⟨⟨sep⟩⟩ m w (show s.length < 4294967281 by omega) hm).mono ?_
 rintro e w' ⟨rfl, n, rfl⟩
 exact ⟨rfl, below_drew⟩
def Lh (s : Tx) (x : Int × Value) : Prop := (x.2 = .nilIface ∧ Lib.atoiAll s = .ok x.1) ∨ (∃ u q, x.2 = .iface u q) ∧ ∀ v, Lib.atoiAll s ≠ .ok v
theorem JV (s : Tx) (hs : s.length ≤ 1048576) : FunLX Tryz.prog Lad 95 [.t (T.str s)] (fun x : Int × Value => .tup [.t (.int x.1), .t (.v x.2)]) (Lh s) := by
 refine FunLX.plain (vs := [.string ⟨⟨s⟩⟩]) (u := fun x => .tuple #[.int .i64 x.1, x.2]) ⟨_, Tryz.func95, rfl, rfl⟩ (fun w F h => ?_)
  (fun x w F hx => ?_)
 ·obtain ⟨_, _, _, _, ⟨tp, p, h5⟩, tp', p', h6⟩ := h
  cases ha : Lib.atoiAll s
  ·rename_i v
   refine (Tryz.strconv_Atoi_ok ⟨⟨s⟩⟩ (show s.length ≤ 9223372036854775806 by omega) v ha w).mono ?_
   rintro e w' ⟨rfl, hw⟩
   refine ⟨(v, .nilIface), .inl ⟨rfl, ha⟩, rfl, ?_⟩
   rcases hw with rfl | ⟨t, rfl⟩
   ·exact Below.refl _ _
   ·exact Lib.bytesWorld_below ..
  ·refine (Any.strconv_Atoi_syntax_var Tryz.laysC172 ⟨⟨s⟩⟩ (show s.length ≤ 281474976710656 by omega) ha tp p w h5).mono ?_
   rintro e w' ⟨N, rfl, _, _, hb⟩
   exact ⟨(0, _), .inr ⟨⟨_, _, rfl⟩, fun v hv => by rw [ha] at hv; cases hv⟩, rfl, hb⟩
  ·refine (Any.strconv_Atoi_range_var Tryz.laysC172 ⟨⟨s⟩⟩ (show s.length ≤ 281474976710656 by omega) ha tp' p' w h6).mono ?_
   rintro e w' ⟨N, rfl, _, _, hb⟩
   exact ⟨(_, _), .inr ⟨⟨_, _, rfl⟩, fun v hv => by rw [ha] at hv; cases hv⟩, rfl, hb⟩
 ·have ho : x.2.oneCell' = true := by
   rcases hx with ⟨h, _⟩ | ⟨⟨u, q, h⟩, _⟩ <;> rw [h] <;> rfl
  exact RelD.tup (bs := []) (bs' := []) (.t (.v rfl .nil) (.t (.v ho .nil) .done)) .done
open Go.Eng
def A6 (op : Int) : Tx := wordsL.getD op.toNat []
noncomputable def insTx (i : Ins) : Tx := if Aw i.op then A6 i.op ++ [32] ++ Lib.itoa i.n else A6 i.op
theorem Ee {op : Int} : (A6 op).length ≤ 7 := by
 unfold A6
 have h : ∀ w, w ∈ wordsL → w.length ≤ 7 := by decide
 rw [OB]
 cases hh : wordsL[op.toNat]? with
 | none => simp
 | some w => exact h w (List.mem_of_getElem? hh)
theorem Gt {k : Int} (h0 : 0 ≤ k) (h1 : k < 19) : wordsV[k.toNat * 1]? = some (.string ⟨⟨A6 k⟩⟩) := by
 have h2 : k.toNat < wordsL.length := by show k.toNat < 19; omega
 rw [Nat.mul_one];unfold wordsV A6;rw [List.getElem?_map, List.getElem?_eq_getElem h2, OB, List.getElem?_eq_getElem h2];rfl
theorem ED (i : Ins) (h0 : 0 ≤ i.op) (h1' : i.op < 19) (h2' : -9223372036854775808 ≤ i.n) (h3' : i.n ≤ 9223372036854775807) : FunL Tryz.prog LadC 63 [.t i.tt] (Aq [.t (T.str (insTx i))]) := by
 have hwl := Ee (op := i.op)
 have hil := Lib.itoa_length_le i.n h2' h3'
 refine FunL.begin LadCS tys Tryz.func63 Z Z (N := 20) [(0, .t i.tt)] Z Z (fun w0 G F0 hL => ?_);refine sG (BD Z Z (AA Z) Z Z (nZ Z (eZ Z (nB (sQ (sG (eK 2 Z (AJ ?_))))))));refine ⟨_, FD _, rfl, ?_⟩;refine eZ Z (nB ?_);refine AC Z (fun h1 => ?_) (fun h1 => ?_)
 ·
  simp only [HS] at h1;refine sG (eK 2 Z (LV (e := 9) (len := 19) tys Z Z (AA Z) Z (by kernel_rfl) Z Z (by omega) (by omega) (kZ [1,2,9] Z (Ja hL tys (Ie) Z Z (AA Z) Z Z Z Z (Gt (by omega) (by omega)) Z (eZ Z (nB (rT (tR (eR ?_)))))))))
  ·simp_all [insTx]
 simp only [HS] at h1;refine AB (tN (sQ (A4 mixed (by kernel_rfl) (evQ ?_))));refine AS Z (evQ ?_);refine Np (e := 9) (len := 19) tys Z Z (AA Z) Z (by kernel_rfl) Z Z (by omega) (by omega) (Mb hL tys (Ie) Z Z (AA Z) Z Z Z Z (Gt (by omega) (by omega)) Z (Aa Z Z (AA Z) Z Z Z (AF (by first | (simp; omega) | (simp only [Nu]; simp; omega))) Z ?_));refine evQ ?_;refine evQ ?_;refine AS Z (D5 hL ?_);refine ⟨_, Be _ (by omega) (by omega), rfl, ?_⟩;refine Aa Z Z (AA Z) Z Z Z (AF (by first | (simp; omega) | (simp only [Nu]; simp; omega))) Z ?_;refine evQ ?_;refine Bo (tN (rT (eR ?_)))
 ·simp_all [insTx]
theorem IH (i : Ins) (h0 : 0 ≤ i.op) (h1 : i.op < 19) (h2 : -9223372036854775808 ≤ i.n) (h3 : i.n ≤ 9223372036854775807) : FunL Tryz.prog Lad 63 [.t i.tt] (.t (T.str (insTx i))) := FunL.weak (ED i h0 h1 h2 h3) NM
theorem idxT_bd {w : Tx} : ∀ {l : List Tx} {k : Int}, BM w l k = -1 ∨ (k ≤ BM w l k ∧ BM w l k < k + l.length)
 | [], k => .inl rfl
 | x :: l, k => by
  rw [BM];split
  ·right; simp; omega
  ·rcases idxT_bd (w := w) (l := l) (k := k + 1) with h | h
   ·exact .inl h
   ·right; simp; omega
theorem Na {s sep : Tx} : (Lib.cut s sep).2.1.length ≤ s.length := by
 unfold Lib.cut;split
 ·simp
 ·simp
noncomputable def isErr (s : Tx) : Bool := match Lib.atoiAll s with
 | .ok _ => false
 | _ => true
theorem D6 {s : Tx} {x : Int × Value} (h : Lh s x) : (x.2 = .nilIface ∧ isErr s = false) ∨ (∃ u q, x.2 = .iface u q) ∧ isErr s = true := by
 rcases h with ⟨h1, h2⟩ | ⟨h1, h2⟩
 ·exact .inl ⟨h1, by unfold isErr; rw [h2]⟩
 ·refine .inr ⟨h1, ?_⟩
  unfold isErr
  cases ha : Lib.atoiAll s with
  | ok v => exact absurd ha (h2 v)
  | _ => rfl
theorem GQ {i : Ins} (h : Ca i = true) : 0 ≤ i.op ∧ i.op < 19 ∧ -9223372036854775808 ≤ i.n ∧ i.n ≤ 9223372036854775807 := by
 unfold Ca Aw at h
 grind
def Li (c : Tx × Tx × Bool) : Option Int := if c.2.2 then (match Lib.atoiAll c.2.1 with
 | .ok n => some n
 | _ => none) else some 0
noncomputable def insA (s : Tx) : Ins × Bool := match Li (Lib.cut s [32]) with
 | none => (⟨0, 0⟩, false)
 | some n => if Ca ⟨BM (Lib.cut s [32]).1 (wordsL.drop 1) 0 + 1, n⟩ && decide (insTx ⟨BM (Lib.cut s [32]).1 (wordsL.drop 1) 0 + 1, n⟩ = s) then (⟨BM (Lib.cut s [32]).1 (wordsL.drop 1) 0 + 1, n⟩, true) else (⟨0, 0⟩, false)
theorem numA_ok {c : Tx × Tx × Bool} {n : Int} (h : c.2.2 = true) (h2 : Lib.atoiAll c.2.1 = .ok n) : Li c = some n := by
 unfold Li; rw [if_pos h, h2]
theorem Kk {c : Tx × Tx × Bool} (h : c.2.2 = false) : Li c = some 0 := by
 unfold Li; rw [if_neg (by rw [h]; decide)]
theorem L1 {c : Tx × Tx × Bool} (h : c.2.2 = true) (h2 : isErr c.2.1 = true) : Li c = none := by
 unfold Li isErr at *;rw [if_pos h];split at h2
 ·cases h2
 ·rfl
theorem Lk (w : World) (F : Nat → Prop) : RelL w F (wordsV.drop (1 : Int).toNat) ((wordsL.drop 1).map T.str) := by
 unfold wordsV;show RelL w F ((wordsL.map _).drop 1) _;rw [← List.map_drop];generalize wordsL.drop 1 = l
 induction l with
 | nil => exact .nil
 | cons x l ih => exact .v rfl ih
theorem Jh {l : List Tx} : ∀ x, x ∈ l.map T.str → T.cells x = [x] := by
 intro x h
 obtain ⟨y, _, rfl⟩ := List.mem_map.1 h
 rfl
theorem E7 (s : Tx) (hs : s.length ≤ 1048576) : FunL Tryz.prog Lad 48 [.t (T.str s)] (Aq [.agg [.t (T.int (insA s).1.op), .t (T.int (insA s).1.n)], .t (.bool (insA s).2)]) := by
 have hib := idxT_bd (w := (Lib.cut s [32]).1) (l := wordsL.drop 1) (k := 0)
 have hw18 : (wordsL.drop 1).length = 18 := rfl
 have hcl := Na (s := s) (sep := [32])
 refine FunL.begin LadS tys Tryz.func48 Z Z (N := 43) [(0, .t (T.str s))] Z Z (fun w0 G F0 hL => ?_);refine sG (AR tys Z Z (AA Z) Z Z Z (nZ Z (eZ Z (nA (eZ Z (B7 hL ?_))))));refine ⟨_, Nb s [32] hs, rfl, ?_⟩;refine nZ Z (eZ Z (WO_evF tys Z Z (AA Z) (d := .t _) Z (nZ Z (WO_evF tys Z Z (AA Z) (d := .t _) Z (nZ Z (WO_evF tys Z Z (AA Z) (d := .t _) Z (nZ Z (eZ Z (kZ [0,2,3,4,14,15] Z (eK 2 Z (nA (LU (e := 9) (len := 19) hL tys (Mx) Z Z (AA Z) Z (by kernel_rfl) Z Z Z (by omega) (by omega) Z Z (Lk) (Jh) (eZ Z (AJ ?_))))))))))))));refine ⟨_, MC (wordsL.drop 1) (Lib.cut s [32]).1 (by decide), rfl, ?_⟩;refine evI ?_;refine AN tys Z Z (AA Z) Z Z Z (by kernel_rfl) Z Z Z Z Z Z (AR tys Z Z (AA Z) Z Z Z (nZ Z (sT Z (nZ Z (kZ [0,2,3,5,6,7] Z (nB (sQ (sG (eZ Z (nB ?_))))))))));refine FQ (α := Int) [0, 2, 3, 7] [2] (fun x => []) (fun x => [(7, .box [.t (.int (BM (Lib.cut s [32]).1 (wordsL.drop 1) 0 + 1)), .t (.int x)])]) (fun x => Li (Lib.cut s [32]) = some x) ?_ (fun n hx => ?_)
 ·
  refine AC Z (fun h1 => ?_) (fun h1 => ?_)
  ·
   refine sG (eZ Z ?_);refine Hn Z Z (AA Z) Z Z (by repeat (first | exact ResL.done | exact ResL.imms (by first | rfl | assumption) | refine ResL.t ?_ | refine ResL.own ?_ | refine ResL.slA Z (by first | rfl | (simp; done) | (simp; omega)) ?_ | refine ResL.sl Z (by first | omega | (simp; done) | (simp; omega)) ?_ | refine ResL.rp ?_ | refine ResL.clo ?_ ?_ | refine ResL.aggT ?_ ?_ | refine ResL.ref Z ?_ ?_ | refine ResL.nil' ?_ | refine ResL.nil 1 ?_)) hL (JV (Lib.cut s [32]).2.1 (by omega)) (fun _ => rfl) (fun ⟨n, er⟩ hat => ?_);refine nZ Z (eZ Z (WO_evF tys Z Z (AA Z) (d := .t _) Z (nZ Z (WO_evF tys Z Z (AA Z) (d := .t _) Z (nZ Z (eK 2 Z (nB (sQ (sQ (kY [0,2,3,7,8,9] Z (rG (eZ Z (Hm Z Z (AA Z) Z (by kernel_rfl) Z (D6 hat) (nB ?_))))))))))))));refine AC Z (fun h2 => ?_) (fun h2 => ?_)
   ·
    refine sG (AN tys Z Z (AA Z) Z Z Z (by kernel_rfl) Z Z Z Z Z Z (sT Z (nZ Z (eZ Z (nB (rT (tR (D1 (tR (eR ?_))))))))))
    ·first
     | (simp only [insA, L1 (c := Lib.cut s [32]) (by assumption) (by assumption)]; done)
   refine AB (tN (rG (eK 2 Z (sT Z (nZ Z (oN (jQ _ ?_)))))))
   first
   | (rcases hat with ⟨h8, h9⟩ | ⟨⟨u, q, h8⟩, h9⟩; exact numA_ok (by assumption) h9; exfalso; have hz := D6 (s := (Lib.cut s [32]).2.1) (x := (n, er)) (.inr ⟨⟨u, q, h8⟩, h9⟩); simp_all)
  refine AB (jQ _ ?_)
  first
  | exact Kk (by assumption)
 have hnum := hx
 refine tN (sQ (sQ (kY [0,2,3,7] Z (rG (eZ Z ?_)))))
 try refine AI (Le.freeze (u := 32) rfl) ?_
 refine nZ Z (AJ ?_);refine ⟨_, HT ⟨_, _⟩, rfl, ?_⟩;refine eK 2 Z ?_;refine gB (fun h1 => ?_) (fun h1 => ?_)
 ·
  simp only [HS] at h1;refine xK 4 Z (nB (AW Z (sQ (kY [2,3,7] Z (rG (AN tys Z Z (AA Z) Z Z Z (by kernel_rfl) Z Z Z Z Z Z (sT Z (nZ Z (eZ Z (nB (rT (tR (eR ?_)))))))))))))
  ·first
   | (simp only [insA, hnum]; simp_all; done)
 simp only [HS] at h1;refine eZ Z ?_
 try refine AI (Le.freeze (u := 36) rfl) ?_
 refine nZ Z (gY Z (B7 hL ?_));refine ⟨_, IH ⟨_, _⟩ (GQ (by assumption)).1 (GQ (by assumption)).2.1 (GQ (by assumption)).2.2.1 (GQ (by assumption)).2.2.2, rfl, ?_⟩;refine nZ Z (xZ Z (gY Z (AG Z Z (AA Z) Z Z Z CW Z (eZ Z (kZ [2,3,7,40] Z (nB ?_))))));refine AC Z (fun h2 => ?_) (fun h2 => ?_)
 ·
  simp only [HS] at h2;refine sG (AN tys Z Z (AA Z) Z Z Z (by kernel_rfl) Z Z Z Z Z Z (sT Z (nZ Z (eZ Z (nB (rT (tR (eR ?_))))))))
  ·first
   | (simp only [insA, hnum]; simp_all; done)
 simp only [HS] at h2;refine AB (tN (sG (eZ Z ?_)))
 try refine AI (Le.freeze (u := 42) rfl) ?_
 refine nZ Z (sT Z (nZ Z (eZ Z (nB (rT (eR ?_))))))
 ·first
  | (simp only [insA, hnum]; simp_all; done)
open Go.Eng
def isD (b : UInt8) : Prop := 48 ≤ b.toNat ∧ b.toNat ≤ 57
def valN : Tx → Nat → Nat
 | [], n => n
 | b :: l, n => valN l (10 * n + (b.toNat - 48))
theorem F6 {d : UInt8} : ∀ {l : Tx} {n : Nat}, valN (l ++ [d]) n = 10 * valN l n + (d.toNat - 48)
 | [], n => rfl
 | b :: l, n => by rw [Oh, valN, F6, valN]
theorem Ge : ∀ {l : Tx} {n : Nat}, (∀ b, b ∈ l → isD b) → FX l (n : Int) = (valN l n : Int)
 | [], n, h => rfl
 | b :: l, n, h => by
  obtain ⟨h1, h2⟩ := h b (OG ..)
  rw [FX, if_neg (by omega), valN, ← Ge (fun x hx => h x (OE _ hx))]
  congr 1
  omega
theorem JM : ∀ {l : Tx} {n : Int}, 0 ≤ FX l n → ∀ b, b ∈ l → isD b
 | [], n, h, b, hb => by cases hb
 | x :: l, n, h, b, hb => by
  rw [FX] at h;split at h
  ·omega
  ·rcases N6.1 hb with rfl | hb
   ·unfold isD; omega
   ·exact JM h b hb
theorem FJ : ∀ {l : Tx} {n : Nat}, (∀ b, b ∈ l → isD b) → Lib.decFrom n l = some (valN l n)
 | [], n, h => rfl
 | b :: l, n, h => by
  have h1 := h b (OG ..)
  unfold isD at h1;rw [Lib.decFrom, Lib.digitVal, if_pos h1];show Lib.decFrom _ l = _;rw [FJ (fun x hx => h x (OE _ hx)), valN, Nat.mul_comm]
theorem KR {k : Nat} (h : k < 10) : (UInt8.ofNat (48 + k)).toNat = 48 + k := by
 rw [UInt8.toNat_ofNat']; omega
theorem Bx (u : Nat) : (∀ b, b ∈ Lib.decDigits u → isD b) ∧ valN (Lib.decDigits u) 0 = u ∧ Lib.decDigits u ≠ [] ∧ (10 ≤ u → (Lib.decDigits u).head? ≠ some 48) ∧ (0 < u → (Lib.decDigits u).head? ≠ some 48) := by
 induction u using Nat.strongRecOn with
 | _ u ih =>
  by_cases h : u < 10
  ·rw [Lib.decDigits_one h]
   have ht := KR h
   refine ⟨fun b hb => ?_, ?_, by simp, fun h2 => by omega, fun h2 => ?_⟩
   ·rw [Oe.1 hb]; unfold isD; omega
   ·show 10 * 0 + ((UInt8.ofNat (48 + u)).toNat - 48) = u
    omega
   ·intro e
    have e2 : UInt8.ofNat (48 + u) = 48 := by simpa using e
    have e3 : (UInt8.ofNat (48 + u)).toNat = 48 := by rw [e2]; rfl
    omega
  ·obtain ⟨i1, i2, i3, i4, i5⟩ := ih (u / 10) (by omega)
   rw [Lib.decDigits, dif_neg h]
   have ht := KR (k := u % 10) (by omega)
   have hh : (Lib.decDigits (u / 10) ++ [UInt8.ofNat (48 + u % 10)]).head? = (Lib.decDigits (u / 10)).head? := by
    cases hd : Lib.decDigits (u / 10) with
    | nil => exact absurd hd i3
    | cons x l => rfl
   refine ⟨fun b hb => ?_, ?_, by simp, fun h2 => ?_, fun h2 => ?_⟩
   ·rcases N3.1 hb with hb | hb
    ·exact i1 b hb
    ·rw [Oe.1 hb]; unfold isD; omega
   ·rw [F6, i2, ht]; omega
   ·rw [hh]; exact i5 (by omega)
   ·rw [hh]; exact i5 (by omega)
theorem Gf : ∀ {k u : Nat}, u < 10 ^ (k + 1) → (Lib.decDigits u).length ≤ k + 1
 | 0, u, h => by rw [Lib.decDigits_one (by simpa using h)]; simp
 | k + 1, u, h => by
  by_cases h2 : u < 10
  ·rw [Lib.decDigits_one h2]; simp
  ·rw [Lib.decDigits, dif_neg h2]
   have := Gf (k := k) (u := u / 10) (by rw [Nat.pow_succ] at h; omega)
   simp; omega
theorem canon : ∀ (n : Nat) (l : Tx), l.length = n → l ≠ [] → (∀ b, b ∈ l → isD b) → (l.head? = some 48 → l.length ≤ 1) → l = Lib.decDigits (valN l 0) := by
 intro n
 induction n with
 | zero => intro l h1 h2; exact absurd (List.length_eq_zero_iff.1 h1) h2
 | succ n ih =>
  intro l h1 h2 h3 h4
  rcases List.eq_nil_or_concat l with rfl | ⟨l', d, hl⟩
  ·exact absurd rfl h2
  ·rw [List.concat_eq_append] at hl
   subst hl
   have hd := h3 d (by simp)
   unfold isD at hd
   have hdd : UInt8.ofNat (48 + (d.toNat - 48)) = d := by
    apply UInt8.toNat_inj.1
    rw [KR (by omega)]; omega
   by_cases hl' : l' = []
   ·subst hl'
    show [d] = Lib.decDigits (10 * 0 + (d.toNat - 48));rw [Lib.decDigits_one (by omega)]
    have e : 10 * 0 + (d.toNat - 48) = d.toNat - 48 := by omega
    rw [e, hdd]
   ·have hh : (l' ++ [d]).head? = l'.head? := by
     cases l' with
     | nil => exact absurd rfl hl'
     | cons x l => rfl
    have hne : l'.head? ≠ some 48 := by
     intro e
     have := h4 (by rw [hh, e])
     have h5 : 0 < l'.length := OW.2 hl'
     simp at this
     exact hl' this
    have hi := ih l' (by simp at h1; omega) hl' (fun b hb => h3 b (Oc _ hb)) (fun e => absurd e hne)
    have hpos : 0 < valN l' 0 := by
     rcases Nat.eq_zero_or_pos (valN l' 0) with h0 | h0
     ·rw [h0] at hi
      exact absurd (show l'.head? = some 48 by rw [hi, Lib.decDigits_one (by decide)]; rfl) hne
     ·exact h0
    rw [F6, Lib.decDigits, dif_neg (by omega)]
    have e1 : (10 * valN l' 0 + (d.toNat - 48)) / 10 = valN l' 0 := by omega
    have e2 : (10 * valN l' 0 + (d.toNat - 48)) % 10 = d.toNat - 48 := by omega
    rw [e1, e2, ← hi, hdd]
theorem Gc {u : Nat} (h : u < 10 ^ 10) : digS (Lib.decDigits u) = u := by
 obtain ⟨h1, h2, h3, h4, h5⟩ := Bx u
 have h6 := Gf (k := 9) (u := u) h
 have h7 : 0 < (Lib.decDigits u).length := OW.2 h3
 rw [DH]; unfold Fe;rw [if_neg, ← Int.natCast_zero, Ge h1, h2]
 rintro (h8 | h8 | ⟨h8, h9⟩)
 ·omega
 ·omega
 ·by_cases h10 : u < 10
  ·rw [Lib.decDigits_one h10] at h9; simp at h9
  ·exact h4 (by omega) h8
theorem Gb {l : Tx} (h : 0 ≤ digS l) : l = Lib.decDigits (digS l).toNat := by
 rw [DH] at h ⊢;unfold Fe at h ⊢;split at h
 ·omega
 ·rename_i h1
  rw [if_neg h1]
  have hd := JM h
  rw [← Int.natCast_zero, Ge hd, Int.toNat_natCast];refine canon l.length l Z (fun e => h1 (.inl (by rw [e]; rfl))) hd (fun e => ?_)
  by_cases h2 : 1 < l.length
  ·exact absurd (.inr (.inr ⟨e, h2⟩)) h1
  ·omega
open Go.Eng
theorem I9 {w : Tx} : ∀ {l : List Tx} {k : Int}, w ∉ l → BM w l k = -1
 | [], k, h => rfl
 | x :: l, k, h => by
  have hx : ¬ w = x := fun e => h (by rw [e]; exact OG ..)
  rw [BM, if_neg hx, I9 (fun e => h (OE _ e))]
theorem idxT_found {w : Tx} : ∀ {l : List Tx} {k : Int}, BM w l k = -1 ∨ ∃ i : Nat, l[i]? = some w ∧ BM w l k = k + (i : Int)
 | [], k => .inl rfl
 | x :: l, k => by
  rw [BM];split
  ·rename_i h; exact .inr ⟨0, by rw [h]; rfl, by omega⟩
  ·rcases idxT_found (w := w) (l := l) (k := k + 1) with h | ⟨i, h1, h2⟩
   ·exact .inl h
   ·exact .inr ⟨i + 1, by simpa using h1, by omega⟩
theorem Fr {w : Tx} : ∀ {l : List Tx} {k : Int}, 0 ≤ k → BM w l k + 1 = if BM w l k = -1 then 0 else BM w l (k + 1)
 | [], k, h => rfl
 | x :: l, k, h => by
  rw [BM, BM];split
  ·rw [if_neg (by omega)]
  ·exact Fr (by omega)
theorem EX {s : Tx} (hs : s ≠ []) (h : ∀ b, b ∈ s → isD b) {c : UInt8} (hc : ¬ isD c) : s.head? ≠ some c := by
 cases s with
 | nil => exact absurd rfl hs
 | cons x l =>
  intro e
  have : x = c := by simpa using e
  exact hc (this ▸ h x (OG ..))
theorem Iu {s : Tx} (h : ∀ w, w ∈ wordsT.drop 3 → s.head? ≠ w.head? ∨ s.length ≠ w.length) : BM s (wordsT.drop 3) 3 = -1 := by
 refine I9 fun hm => ?_
 rcases h s hm with h | h <;> exact h rfl
theorem Mh (c : UInt8) (h : c.toNat < 48 ∨ 57 < c.toNat) : ¬ isD c := fun e => by unfold isD at e; omega
theorem J0 {n : Int} (h0 : -2147483648 ≤ n) (h1 : n ≤ 2147483647) : int19 (Lib.itoa n) = (n, true) := by
 unfold Lib.itoa;split
 ·rename_i hn
  obtain ⟨d1, d2, d3, d4, d5⟩ := Bx n.natAbs
  have hw : BM (45 :: Lib.decDigits n.natAbs) (wordsT.drop 3) 3 = -1 := by
   refine Iu fun w hw => ?_
   have hl : 0 < (Lib.decDigits n.natAbs).length := OW.2 d3
   by_cases e : w.head? = some 45
   ·right
    have : w = [45] := by
     have hall : ∀ w, w ∈ wordsT.drop 3 → w.head? = some 45 → w = [45] := by decide
     exact hall w hw e
    subst this
    simp; omega
   ·left; exact fun e2 => e e2.symm
  have hd := Gc (u := n.natAbs) (by have h10 : (10 : Nat) ^ 10 = 10000000000 := (by decide); omega)
  have e1 : readTok (45 :: Lib.decDigits n.natAbs) = (⟨1, n⟩, true) := by
   unfold readTok;rw [hw, if_neg (by decide), if_neg (by simp), if_neg (by simp), if_neg (by simp), if_pos (by rfl)];show ((⟨1, 0 - digS (Lib.decDigits n.natAbs)⟩ : Tok), decide (0 - digS (Lib.decDigits n.natAbs) < 0) && Gs ⟨1, 0 - digS (Lib.decDigits n.natAbs)⟩) = _;rw [hd]
   have e2 : (0 : Int) - (n.natAbs : Int) = n := by omega
   rw [e2]
   have e3 : Gs ⟨1, n⟩ = true := by unfold Gs; simp; omega
   rw [e3]; simp [hn]
  unfold int19; rw [e1]; rfl
 ·rename_i hn
  obtain ⟨d1, d2, d3, d4, d5⟩ := Bx n.toNat
  have hw : BM (Lib.decDigits n.toNat) (wordsT.drop 3) 3 = -1 := by
   refine Iu fun w hw => .inl ?_
   have hall : ∀ w, w ∈ wordsT.drop 3 → ∃ c, w.head? = some c ∧ (c.toNat < 48 ∨ 57 < c.toNat) := by
    intro w hw
    have : w = [43] ∨ w = [45] ∨ w = [42] ∨ w = [47] ∨ w = [60] ∨ w = [61] ∨ w = [105, 110] ∨ w = [114, 101, 99] := by simpa [wordsT] using hw
    rcases this with rfl | rfl | rfl | rfl | rfl | rfl | rfl | rfl <;> exact ⟨_, rfl, by decide⟩
   obtain ⟨c, hc, hc2⟩ := hall w hw
   rw [hc];exact EX d3 d1 (Mh c hc2)
  have hd := Gc (u := n.toNat) (by have h10 : (10 : Nat) ^ 10 = 10000000000 := (by decide); omega)
  have e1 : readTok (Lib.decDigits n.toNat) = (⟨1, n⟩, true) := by
   unfold readTok;rw [hw, if_neg (by decide), if_neg d3, if_neg (EX d3 d1 (Mh _ (by decide))), if_neg (EX d3 d1 (Mh _ (by decide))), if_neg (EX d3 d1 (Mh _ (by decide))), hd]
   have e2 : (n.toNat : Int) = n := by omega
   rw [e2]
   have e3 : Gs ⟨1, n⟩ = true := by unfold Gs; simp; omega
   rw [e3]; simp; omega
  unfold int19; rw [e1]; rfl
theorem Kv {s : Tx} (h : (int19 s).2 = true) : s = Lib.itoa (int19 s).1 := by
 unfold int19 at h ⊢;unfold readTok at h ⊢;split at h
 ·rename_i h1
  rcases idxT_found (w := s) (l := wordsT.drop 3) (k := 3) with h2 | ⟨i, _, h2⟩
  ·omega
  ·simp at h; omega
 ·split at h
  ·simp at h
  ·rename_i h1 h2
   split at h
   ·simp at h
   ·split at h
    ·simp at h
    ·rename_i h3 h4
     rw [if_neg h1, if_neg h2, if_neg h3, if_neg h4];split at h
     ·rename_i h5
      rw [if_pos h5];simp only [Nv, decide_eq_true_eq] at h
      have hp : 0 ≤ digS (s.drop 1) := by omega
      have hi := Gb hp
      cases s with
      | nil => exact absurd rfl h2
      | cons x l =>
       have hx : x = 45 := by simpa using h5
       subst hx;simp only [List.drop_one, List.tail_cons] at hi h ⊢;unfold Lib.itoa;rw [if_pos (by omega)]
       have e : (0 - digS l).natAbs = (digS l).toNat := by omega
       rw [e, ← hi]
     ·rename_i h5
      rw [if_neg h5];simp only [Nv, decide_eq_true_eq] at h
      have hp : 0 ≤ digS s := by omega
      unfold Lib.itoa;rw [if_neg (by show ¬ digS s < 0; omega)];exact Gb hp
theorem Hk {n : Int} (h0 : -2147483648 ≤ n) (h1 : n ≤ 2147483647) : Lib.atoiAll (Lib.itoa n) = .ok n := by
 have hlen : (Lib.itoa n).length ≤ 18 := by
  unfold Lib.itoa;split
  ·have := Gf (k := 9) (u := n.natAbs) (by have h10 : (10 : Nat) ^ 10 = 10000000000 := (by decide); omega)
   simp; omega
  ·have := Gf (k := 9) (u := n.toNat) (by have h10 : (10 : Nat) ^ 10 = 10000000000 := (by decide); omega)
   omega
 rw [Lib.atoiAll_short _ hlen]
 have hdn : ∀ u, Lib.decNat (Lib.decDigits u) = some u := by
  intro u
  obtain ⟨d1, d2, d3, _, _⟩ := Bx u
  unfold Lib.decNat;rw [if_neg (by simpa using d3), FJ d1, d2]
 have key : Lib.atoi (Lib.itoa n) = some n := by
  unfold Lib.itoa;split
  ·rename_i hn
   show (Lib.decNat (Lib.decDigits n.natAbs)).map (fun (m : Nat) => -(m : Int)) = some n;rw [hdn];show some (-(n.natAbs : Int)) = some n
   congr 1; omega
  ·rename_i hn
   obtain ⟨d1, d2, d3, _, _⟩ := Bx n.toNat
   have hh := hdn n.toNat
   cases hd : Lib.decDigits n.toNat with
   | nil => exact absurd hd d3
   | cons b r =>
    rw [hd] at hh d1
    have hb := d1 b (OG ..)
    have b1 : (b == 45) = false := by rw [beq_eq_false_iff_ne]; intro e; subst e; exact Mh 45 (by decide) hb
    have b2 : (b == 43) = false := by rw [beq_eq_false_iff_ne]; intro e; subst e; exact Mh 43 (by decide) hb
    rw [Lib.atoi, b1, b2, hh];show some ((n.toNat : Int)) = some n
    congr 1; omega
 rw [key]; rfl
theorem DQ {c : UInt8} : ∀ {l pre : Tx}, c ∉ l → AH c pre l = [pre ++ l]
 | [], pre, h => by rw [AH, OI]
 | x :: l, pre, h => by
  have hx : ¬ x = c := fun e => h (by rw [← e]; exact OG ..)
  rw [AH, if_neg hx, DQ (fun e => h (OE _ e)), OA]; rfl
theorem Ds {c : UInt8} {b : Tx} : ∀ {a pre : Tx}, c ∉ a → AH c pre (a ++ c :: b) = (pre ++ a) :: AH c [] b
 | [], pre, h => by rw [OY, AH, if_pos rfl, OI]
 | x :: l, pre, h => by
  have hx : ¬ x = c := fun e => h (by rw [← e]; exact OG ..)
  rw [Oh, AH, if_neg hx, Ds (fun e => h (OE _ e)), OA]; rfl
theorem DA {c : UInt8} {w : Tx} : ∀ {l pre : Tx}, AH c pre l = [w] → pre ++ l = w
 | [], pre, h => by rw [AH] at h; rw [OI]; exact (List.cons.inj h).1
 | x :: l, pre, h => by
  rw [AH] at h;split at h
  ·obtain ⟨_, h2⟩ := List.cons.inj h
   obtain ⟨w', ws, h3⟩ := A8 (c := c) (l := l) (pre := [])
   rw [h3] at h2; cases h2
  ·have := DA h
   rw [← this]; simp
theorem Ek {c : UInt8} {w v : Tx} : ∀ {l pre : Tx}, AH c pre l = [w, v] → pre ++ l = w ++ c :: v
 | [], pre, h => by rw [AH] at h; cases h
 | x :: l, pre, h => by
  rw [AH] at h;split at h
  ·rename_i hx
   obtain ⟨h1, h2⟩ := List.cons.inj h
   have := DA h2
   rw [h1, hx, ← this]; rfl
  ·have := Ek h
   rw [← this]; simp
open Go.Eng
theorem I6 : ∀ {a : Tx}, (32 : UInt8) ∉ a → Lib.index a [32] = -1
 | [], h => rfl
 | x :: l, h => by
  have hx : ((32 : UInt8) == x) = false := by rw [beq_eq_false_iff_ne]; exact fun e => h (by rw [← e]; exact OG ..)
  rw [Lib.index, I6 (fun e => h (OE _ e))]
  simp [List.isPrefixOf, hx]
theorem I7 {b : Tx} : ∀ {a : Tx}, (32 : UInt8) ∉ a → Lib.index (a ++ 32 :: b) [32] = (a.length : Int)
 | [], h => by
  rw [OY, Lib.index]
  simp [List.isPrefixOf]
 | x :: l, h => by
  have hx : ((32 : UInt8) == x) = false := by rw [beq_eq_false_iff_ne]; exact fun e => h (by rw [← e]; exact OG ..)
  rw [Oh, Lib.index, I7 (fun e => h (OE _ e))]
  have h2 : (((l.length : Nat) : Int) == -1) = false := by rw [beq_eq_false_iff_ne]; omega
  simp [List.isPrefixOf, hx, h2]
theorem cut_no {a : Tx} (h : (32 : UInt8) ∉ a) : Lib.cut a [32] = (a, [], false) := by
 unfold Lib.cut; rw [I6 h, if_neg (by decide)]
theorem cut_at {a b : Tx} (h : (32 : UInt8) ∉ a) : Lib.cut (a ++ 32 :: b) [32] = (a, b, true) := by
 unfold Lib.cut;rw [I7 h, if_pos (by omega), Int.toNat_natCast, List.take_left]
 have : (a ++ 32 :: b).drop (a.length + [(32 : UInt8)].length) = b := by
  rw [List.drop_append]
  simp
 rw [this]
theorem Lj : ∀ w, w ∈ wordsL → (32 : UInt8) ∉ w := by decide
theorem EQ {op : Int} : (32 : UInt8) ∉ A6 op := by
 unfold A6;rw [OB]
 cases hh : wordsL[op.toNat]? with
 | none => simp
 | some w => exact Lj w (List.mem_of_getElem? hh)
theorem NO {n : Int} : (32 : UInt8) ∉ Lib.itoa n := by
 unfold Lib.itoa;split
 ·intro h
  rcases N6.1 h with h | h
  ·cases h
  ·exact Mh 32 (by decide) ((Bx _).1 _ h)
 ·exact fun h => Mh 32 (by decide) ((Bx _).1 _ h)
theorem Gu {op : Int} (h0 : 1 ≤ op) (h1 : op ≤ 18) : BM (A6 op) (wordsL.drop 1) 1 = op := by
 have h : ∀ k : Fin 18, BM (A6 ((k.val : Int) + 1)) (wordsL.drop 1) 1 = (k.val : Int) + 1 := by decide
 have e : op = (((⟨(op - 1).toNat, by omega⟩ : Fin 18).val : Nat) : Int) + 1 := by
  show op = (((op - 1).toNat : Nat) : Int) + 1;omega
 rw [e]; exact h _
theorem Jf {op : Int} (h0 : 1 ≤ op) (h1 : op ≤ 18) : BM (A6 op) (wordsL.drop 1) 0 + 1 = op := by
 have h := Fr (w := A6 op) (l := wordsL.drop 1) (k := 0) (OC 0)
 have h2 : BM (A6 op) (wordsL.drop 1) (0 + 1) = op := Gu h0 h1
 rw [h2] at h;split at h
 ·rename_i h3
  exfalso
  have h4 : ∀ k : Fin 18, BM (A6 ((k.val : Int) + 1)) (wordsL.drop 1) 0 = (k.val : Int) := by decide
  have e : op = (((⟨(op - 1).toNat, by omega⟩ : Fin 18).val : Nat) : Int) + 1 := by
   show op = (((op - 1).toNat : Nat) : Int) + 1;omega
  have h5 := h4 ⟨(op - 1).toNat, by omega⟩
  rw [← e] at h5
  have h6 : (((⟨(op - 1).toNat, by omega⟩ : Fin 18).val : Nat) : Int) = (((op - 1).toNat : Nat) : Int) := rfl
  omega
 ·exact h
theorem MB {w : Tx} {k : Int} (h : BM w (wordsL.drop 1) 1 = k) (hk : ¬ k < 0) : w = A6 k ∧ 1 ≤ k ∧ k ≤ 18 := by
 rcases idxT_found (w := w) (l := wordsL.drop 1) (k := 1) with h2 | ⟨i, h2, h3⟩
 ·omega
 ·have hi := (List.getElem?_eq_some_iff.1 h2).1
  have hl : (wordsL.drop 1).length = 18 := rfl
  refine ⟨?_, by omega, by omega⟩;rw [List.getElem?_drop] at h2;unfold A6
  have e : k.toNat = 1 + i := by omega
  rw [e, OB, h2];rfl
theorem CG {i : Ins} (h : Ca i = true) : 1 ≤ i.op ∧ i.op ≤ 18 ∧ -2147483648 ≤ i.n ∧ i.n ≤ 2147483647 ∧ (Aw i.op = false → i.n = 0) := by
 unfold Ca Aw at *
 grind
theorem NQ {i : Ins} (h : Ca i = true) : insA (insTx i) = (i, true) := by
 obtain ⟨h1, h2, h3, h4, h5⟩ := CG h
 have hi := Jf h1 h2
 unfold insA
 by_cases hn : Aw i.op = true
 ·have e : insTx i = A6 i.op ++ 32 :: Lib.itoa i.n := by
   unfold insTx; rw [if_pos hn]; simp
  have ec : Lib.cut (insTx i) [32] = (A6 i.op, Lib.itoa i.n, true) := by rw [e]; exact cut_at EQ
  rw [ec]
  have en : Li (A6 i.op, Lib.itoa i.n, true) = some i.n := numA_ok rfl (Hk h3 h4)
  rw [en]
  have ei : (⟨BM (A6 i.op) (wordsL.drop 1) 0 + 1, i.n⟩ : Ins) = i := by rw [hi]
  simp only [ei, h]
  simp
 ·have e : insTx i = A6 i.op := by unfold insTx; rw [if_neg hn]
  have ec : Lib.cut (insTx i) [32] = (A6 i.op, [], false) := by rw [e]; exact cut_no EQ
  rw [ec]
  have en : Li (A6 i.op, [], false) = some 0 := Kk rfl
  rw [en]
  have h0 := h5 (by simpa using hn)
  have ei : (⟨BM (A6 i.op) (wordsL.drop 1) 0 + 1, 0⟩ : Ins) = i := by rw [hi, ← h0]
  simp only [ei, h]
  simp
theorem MA {s : Tx} (h : (insA s).2 = true) : Ca (insA s).1 = true ∧ insTx (insA s).1 = s := by
 unfold insA at h ⊢;split at h
 ·cases h
 ·rename_i n hn
  split at h
  ·rename_i h1
   simp only [h1]
   simpa using h1
  ·cases h
theorem NR {s : Tx} (h : ¬ (insA s).2 = true) : insA s = (⟨0, 0⟩, false) := by
 unfold insA at h ⊢;split at h
 ·rfl
 ·rename_i n hn
  split at h
  ·exact absurd rfl h
  ·rename_i h1; simp only [h1]; simp
theorem I5 {i : Ins} (h : Ca i = true) : insRd (insTx i) = (i, true) := by
 obtain ⟨h1, h2, h3, h4, h5⟩ := CG h
 have hi := Gu h1 h2
 unfold insRd
 by_cases hn : Aw i.op = true
 ·have e : insTx i = A6 i.op ++ 32 :: Lib.itoa i.n := by
   unfold insTx; rw [if_pos hn]; simp
  have ec : AH 32 [] (insTx i) = [A6 i.op, Lib.itoa i.n] := by rw [e, Ds EQ, DQ NO]; simp
  rw [ec];show insRd' (BM (A6 i.op) (wordsL.drop 1) 1) _ = _;rw [hi]
  have en : numI i.op [A6 i.op, Lib.itoa i.n] = some i.n := by
   unfold numI;rw [if_pos hn, if_pos (show [A6 i.op, Lib.itoa i.n].length = 2 by rfl)];show (if (int19 (Lib.itoa i.n)).2 then some (int19 (Lib.itoa i.n)).1 else none) = _;rw [J0 h3 h4]; rfl
  unfold insRd';rw [if_neg (by omega), en];show (if Ca ⟨i.op, i.n⟩ then _ else _) = _;rw [if_pos h]
 ·have e : insTx i = A6 i.op := by unfold insTx; rw [if_neg hn]
  have ec : AH 32 [] (insTx i) = [A6 i.op] := by rw [e, DQ EQ]; rfl
  rw [ec];show insRd' (BM (A6 i.op) (wordsL.drop 1) 1) _ = _;rw [hi]
  have h0 := h5 (by simpa using hn)
  have en : numI i.op [A6 i.op] = some i.n := by
   unfold numI;rw [if_neg hn, if_pos (show [A6 i.op].length = 1 by rfl), h0]
  unfold insRd';rw [if_neg (by omega), en];show (if Ca ⟨i.op, i.n⟩ then _ else _) = _;rw [if_pos h]
theorem Kw {s : Tx} (h : (insRd s).2 = true) : Ca (insRd s).1 = true ∧ insTx (insRd s).1 = s := by
 obtain ⟨u0, ws, hW⟩ : ∃ u0 ws, AH 32 [] s = u0 :: ws := A8
 have hR : insRd s = insRd' (BM u0 (wordsL.drop 1) 1) (u0 :: ws) := by unfold insRd; rw [hW]; rfl
 rw [hR] at h ⊢;generalize hk : BM u0 (wordsL.drop 1) 1 = k at h ⊢;unfold insRd' at h ⊢;split at h
 ·cases h
 ·rename_i hk0
  obtain ⟨w1, w2, w3⟩ := MB hk hk0
  rw [if_neg hk0];split at h
  ·cases h
  ·rename_i n hn
   split at h
   ·rename_i hb
    simp only [hb, if_true];refine ⟨trivial, ?_⟩;unfold numI at hn;split at hn
    ·rename_i hh
     split at hn
     ·rename_i hl
      match ws, hl with
      | [v], _ =>
       have hv : (if (int19 v).2 then some (int19 v).1 else none) = some n := hn
       split at hv
       ·rename_i h6
        have h7 := Kv h6
        have h8 : (int19 v).1 = n := Option.some.inj hv
        rw [h8] at h7
        have h9 := Ek hW
        rw [OY] at h9;unfold insTx;rw [if_pos hh, h9, w1, ← h7]
        simp
       ·cases hv
     ·cases hn
    ·rename_i hh
     split at hn
     ·rename_i hl
      match ws, hl with
      | [], _ =>
       have h9 := DA hW
       rw [OY] at h9;unfold insTx;rw [if_neg hh, h9, w1]
     ·cases hn
   ·cases h
theorem L8 {s : Tx} (h : ¬ (insRd s).2 = true) : insRd s = (⟨0, 0⟩, false) := by
 unfold insRd insRd' at h ⊢;split at h
 ·rename_i h1; rw [if_pos h1]
 ·rename_i h1
  rw [if_neg h1];split at h
  ·rfl
  ·rename_i n hn
   split at h
   ·exact absurd rfl h
   ·rename_i h2; simp only [h2]; simp
theorem J1 (s : Tx) : insRd s = insA s := by
 by_cases h : (insRd s).2 = true
 ·obtain ⟨h1, h2⟩ := Kw h
  have e1 := I5 h1
  have e2 := NQ h1
  rw [h2] at e1 e2;rw [e1, e2, e1]
 ·by_cases h3 : (insA s).2 = true
  ·obtain ⟨h1, h2⟩ := MA h3
   have e1 := I5 h1
   rw [h2] at e1;exact absurd (by rw [e1]) h
  ·rw [L8 h, NR h3]
open Go.Eng
theorem Mm {c : UInt8} : ∀ {a : Tx}, c ∉ a → Lib.index a [c] = -1
 | [], h => rfl
 | x :: l, h => by
  have hx : (c == x) = false := by rw [beq_eq_false_iff_ne]; exact fun e => h (by rw [← e]; exact OG ..)
  rw [Lib.index, Mm (fun e => h (OE _ e))]
  simp [List.isPrefixOf, hx]
theorem Mn {c : UInt8} {b : Tx} : ∀ {a : Tx}, c ∉ a → Lib.index (a ++ c :: b) [c] = (a.length : Int)
 | [], h => by
  rw [OY, Lib.index]
  simp [List.isPrefixOf]
 | x :: l, h => by
  have hx : (c == x) = false := by rw [beq_eq_false_iff_ne]; exact fun e => h (by rw [← e]; exact OG ..)
  rw [Oh, Lib.index, Mn (fun e => h (OE _ e))]
  have h2 : (((l.length : Nat) : Int) == -1) = false := by rw [beq_eq_false_iff_ne]; omega
  simp [List.isPrefixOf, hx, h2]
theorem JI {c : UInt8} : ∀ {s : Tx}, c ∈ s → ∃ a b, s = a ++ c :: b ∧ c ∉ a
 | x :: l, h => by
  by_cases e : c = x
  ·exact ⟨[], l, by rw [e]; rfl, by simp⟩
  ·have h2 : c ∈ l := by rcases N6.1 h with h | h; exact absurd h e; exact h
   obtain ⟨a, b, h3, h4⟩ := JI h2
   exact ⟨x :: a, b, by rw [h3]; rfl, by simp [e, h4]⟩
theorem M4 {c : UInt8} : ∀ (n : Nat) (s : Tx), s.length ≤ n → Lib.split s [c] = AH c [] s := by
 intro n
 induction n with
 | zero =>
  intro s hs
  have : s = [] := OL (by omega)
  subst this;rfl
 | succ n ih =>
  intro s hs
  by_cases hc : c ∈ s
  ·obtain ⟨a, b, rfl, ha⟩ := JI hc
   have hi := Mn (b := b) ha
   have hd : (a ++ c :: b).drop (a.length + [c].length) = b := by rw [List.drop_append]; simp
   rw [Lib.split, Lib.count_hit (by simp) hi, hd, Ds ha, OY];rw [show 1 + Lib.count b [c] = Lib.count b [c] + 1 from by omega, Lib.splitK, hi]
   have h2 : (((a.length : Nat) : Int) == -1) = false := by rw [beq_eq_false_iff_ne]; omega
   rw [h2, if_neg (by simp), Int.toNat_natCast, hd, Nat.add_zero, List.take_left];rw [← ih b (by simp at hs; omega)];rfl
  ·rw [Lib.split, Lib.count_miss (Mm hc), DQ hc]
   rfl
theorem C9 {c : UInt8} : ∀ (s pre : Tx), AH c pre (s ++ [c]) = AH c pre s ++ [[]]
 | [], pre => by simp [AH]
 | x :: l, pre => by
  rw [Oh, AH, AH];split
  ·rw [C9 l []]; rfl
  ·exact C9 l _
open Go.Eng
def by8 (z : Int) : UInt8 := UInt8.ofNat (z % 256).toNat
theorem FM (z : Int) : ((by8 z).toNat : Int) = z % 256 := by
 unfold by8;rw [UInt8.toNat_ofNat'];omega
def Cv (n : Int) : Tx := if n ≤ 127 then [by8 n] else by8 (n % 128 + 128) :: Cv (n / 128)
termination_by n.toNat
decreasing_by omega
def Hv (n : Int) : Tx := if -64 ≤ n ∧ n ≤ 63 then [by8 (n % 128)] else by8 (n % 128 + 128) :: Hv (n / 128)
termination_by n.natAbs
decreasing_by omega
theorem EW {n : Int} (h : n ≤ 127) : Cv n = [by8 n] := by rw [Cv, if_pos h]
theorem H8 {n : Int} (h : 127 < n) : Cv n = by8 (n % 128 + 128) :: Cv (n / 128) := by rw [Cv, if_neg (by omega)]
theorem Cx {n : Int} (h : -64 ≤ n) (h2 : n ≤ 63) : Hv n = [by8 (n % 128)] := by rw [Hv, if_pos ⟨h, h2⟩]
theorem DF {n : Int} (h : ¬ (-64 ≤ n ∧ n ≤ 63)) : Hv n = by8 (n % 128 + 128) :: Hv (n / 128) := by rw [Hv, if_neg h]
theorem Kp : ∀ (k : Nat) {n : Int}, n < 2 ^ (7 * k) → (Cv n).length ≤ k + 1
 | 0, n, h => by rw [EW (by simp at h; omega)]; simp
 | k + 1, n, h => by
  by_cases h1 : n ≤ 127
  ·rw [EW h1]; simp
  ·rw [H8 (by omega)]
   have h2 : n / 128 < 2 ^ (7 * k) := by
    have h3 : (2 : Int) ^ (7 * (k + 1)) = 2 ^ (7 * k) * 128 := by rw [show 7 * (k + 1) = 7 * k + 7 by omega, Int.pow_add]; rfl
    rw [h3] at h;omega
   have := Kp k h2
   simp; omega
theorem Ak {n : Int} (h : n < 18446744073709551616) : (Cv n).length ≤ 11 := Kp 10 (n := n) (Int.lt_of_lt_of_le h (by decide))
theorem Kq : ∀ (k : Nat) {n : Int}, -(2 ^ (7 * k)) ≤ n → n < 2 ^ (7 * k) → (Hv n).length ≤ k + 1
 | 0, n, h, h' => by rw [Cx (by simp at h; omega) (by simp at h'; omega)]; simp
 | k + 1, n, h, h' => by
  by_cases h1 : -64 ≤ n ∧ n ≤ 63
  ·rw [Cx h1.1 h1.2]; simp
  ·rw [DF h1]
   have h3 : (2 : Int) ^ (7 * (k + 1)) = 2 ^ (7 * k) * 128 := by rw [show 7 * (k + 1) = 7 * k + 7 by omega, Int.pow_add]; rfl
   rw [h3] at h h'
   have := Kq k (n := n / 128) (by omega) (by omega)
   simp; omega
theorem Cw {n : Int} (h : -9223372036854775808 ≤ n) (h' : n ≤ 9223372036854775807) : (Hv n).length ≤ 11 := Kq 10 (n := n) (Int.le_trans (by decide) h) (Int.lt_of_le_of_lt h' (by decide))
/-! The machine's words. -/
theorem CB (n : Int) : IntKind.u8.wrap n = ((by8 n).toNat : Int) := by
 rw [FM]
 simp [IntKind.wrap, IntKind.bits, IntKind.signed]
theorem Au {n : Int} (h0 : 0 ≤ n) (h1 : n < 18446744073709551616) : IntKind.u64.wrap n = n := by
 have h : n % 18446744073709551616 = n := by omega
 simp [IntKind.wrap, IntKind.bits, IntKind.signed, h]
theorem Hw {n : Int} (h0 : -9223372036854775808 ≤ n) (h1 : n < 9223372036854775808) : IntKind.i64.wrap n = n := C8 (by omega) (by omega)
theorem or128N : ∀ n, n < 256 → n ||| 128 = n % 128 + 128 := by decide +kernel
theorem IV {a b : Int} (h : a % 256 = b % 256) : by8 a = by8 b := by unfold by8; rw [h]
section
variable {P : Program}
theorem binOr {k : IntKind} {a b : Int} : Bj P .or (.int k a) (.int k b) (.int k (k.wrap ((BitVec.ofInt k.bits a ||| BitVec.ofInt k.bits b).toNat : Nat))) := fun ty ox oy w => by
 simp [eqGuard, binOp, Op.intBits]
theorem NC (n : Int) : Bj P .or (.int .u8 ((by8 n).toNat : Int)) (.int .u8 128) (.int .u8 ((by8 (n % 128 + 128)).toNat : Int)) := by
 have h := @binOr P .u8 ((by8 n).toNat : Int) 128
 have e : IntKind.u8.wrap (((BitVec.ofInt IntKind.u8.bits ((by8 n).toNat : Int) ||| BitVec.ofInt IntKind.u8.bits 128).toNat : Nat) : Int) = ((by8 (n % 128 + 128)).toNat : Int) := by
  rw [CB, BitVec.toNat_or]
  have h1 := (by8 n).toNat_lt
  have e1 : (BitVec.ofInt IntKind.u8.bits ((by8 n).toNat : Int)).toNat = (by8 n).toNat := by
   rw [BitVec.toNat_ofInt]; simp only [IntKind.bits]; omega
  have e2 : (BitVec.ofInt IntKind.u8.bits 128).toNat = 128 := by decide
  rw [e1, e2, or128N _ h1, IV]
  have := FM n
  omega
 rw [e] at h;exact h
theorem and127 (n : Int) : Bj P .and (.int .u8 ((by8 n).toNat : Int)) (.int .u8 127) (.int .u8 ((by8 (n % 128)).toNat : Int)) := by
 have h := @Ms P .u8 ((by8 n).toNat : Int) 127
 have e : IntKind.u8.wrap (((BitVec.ofInt IntKind.u8.bits ((by8 n).toNat : Int) &&& BitVec.ofInt IntKind.u8.bits 127).toNat : Nat) : Int) = ((by8 (n % 128)).toNat : Int) := by
  rw [CB, BitVec.toNat_and]
  have h1 := (by8 n).toNat_lt
  have e1 : (BitVec.ofInt IntKind.u8.bits ((by8 n).toNat : Int)).toNat = (by8 n).toNat := by
   rw [BitVec.toNat_ofInt]; simp only [IntKind.bits]; omega
  have e2 : (BitVec.ofInt IntKind.u8.bits 127).toNat = 2 ^ 7 - 1 := by decide
  rw [e1, e2, Nat.and_two_pow_sub_one_eq_mod, IV]
  have := FM n
  omega
 rw [e] at h;exact h
theorem Ni (n : Int) : Bj P .and (.int .i64 n) (.int .i64 127) (.int .i64 (n % 128)) := by
 have h := @Ms P .i64 n 127
 have e : IntKind.i64.wrap (((BitVec.ofInt IntKind.i64.bits n &&& BitVec.ofInt IntKind.i64.bits 127).toNat : Nat) : Int) = n % 128 := by
  rw [BitVec.toNat_and]
  have e1 : (BitVec.ofInt IntKind.i64.bits n).toNat = (n % 18446744073709551616).toNat := by
   rw [BitVec.toNat_ofInt]; rfl
  have e2 : (BitVec.ofInt IntKind.i64.bits 127).toNat = 2 ^ 7 - 1 := by decide
  rw [e1, e2, Nat.and_two_pow_sub_one_eq_mod, Hw (by omega) (by omega)];omega
 rw [e] at h;exact h
theorem JW (n : Int) : Bj P .add (.int .u8 ((by8 (n % 128)).toNat : Int)) (.int .u8 128) (.int .u8 ((by8 (n % 128 + 128)).toNat : Int)) := by
 have h := @Mu P .u8 ((by8 (n % 128)).toNat : Int) 128
 rw [CB, IV (a := ((by8 (n % 128)).toNat : Int) + 128) (b := n % 128 + 128) (by have := FM (n % 128); omega)] at h;exact h
theorem shr7 {k : IntKind} (hk : k.bits = 64) (n : Int) : Bj P .shr (.int k n) (.int .u64 7) (.int k (n / 128)) := by
 have h := @binShr P k .u64 n 7 (by decide)
 have e : n.fdiv (2 ^ min (7 : Int).toNat k.bits) = n / 128 := by
  rw [hk, show min (7 : Int).toNat 64 = 7 from rfl, Int.fdiv_eq_ediv_of_nonneg _ (by decide)];rfl
 rw [e] at h;exact h
theorem remU {n : Int} (h0 : 0 ≤ n) (b : Int) (hb : 0 < b) : Bj P .rem (.int .u64 n) (.int .u64 b) (.int .u64 (n % b)) := fun ty ox oy w => by
 have h1 : ¬ b = 0 := by omega
 have h2 : n.tmod b = n % b := Int.tmod_eq_emod_of_nonneg h0
 simp [eqGuard, binOp, Op.intDiv, h1, h2]
theorem quoU {n : Int} (h0 : 0 ≤ n) (hn : n < 18446744073709551616) (b : Int) (hb : 0 < b) : Bj P .quo (.int .u64 n) (.int .u64 b) (.int .u64 (n / b)) := fun ty ox oy w => by
 have h1 : ¬ b = 0 := by omega
 have h2 : n.tdiv b = n / b := Int.tdiv_eq_ediv_of_nonneg h0
 have h3 : 0 ≤ n / b := Int.ediv_nonneg h0 (by omega)
 have h4 : n / b ≤ n := Int.ediv_le_self b h0
 have h5 := Au h3 (by omega)
 simp [eqGuard, binOp, Op.intDiv, h1, h2, h5]
theorem addU {a b : Int} (h0 : 0 ≤ a + b) (h1 : a + b < 18446744073709551616) : Bj P .add (.int .u64 a) (.int .u64 b) (.int .u64 (a + b)) := by
 have h := @Mu P .u64 a b
 rw [Au h0 h1] at h;exact h
theorem IZ {k : IntKind} {a b : Int} : Bj P .geq (.int k a) (.int k b) (.bool (decide (b ≤ a))) := fun ty ox oy w => by
 simp [eqGuard, binOp, Op.intCmp]
end
open Go.Eng
abbrev T.u64 (n : Int) : T := .v (.int .u64 n)
theorem retT {a b : Tx} (h : a = b) : [D.t (T.str a)] = [D.t (T.str b)] := by rw [h]
theorem Eg {s : St} {id len : Nat} {xs : List T} {l : Tx} (h : lookM s.M id = some (.L 1 xs)) (hl : xs.length = len) (hx : xs = l.map T.byte) : ResL s [.sl id 0 len] [.t (T.text l)] := by
 subst hx;exact ResL.slA h hl .done
theorem Bp (n : Int) (h0 : 0 ≤ n) (hn : n < 18446744073709551616) : Fun Tryz.prog 55 [.t (T.u64 n)] (Aq [.t (T.str (Cv n))]) := by
 have hlen := Ak hn
 refine Fun.begin tys Tryz.func55 Z Z (N := 20) [(0, .t (T.u64 n))] Z Z (fun w0 G F0 => ?_);refine sG (eZ Z (nA (eZ Z (AI (Le.nilOwn (u := 3) 1 Z) (AI (Le.adoptE (u := 3) 3 Z Z) (nZ Z (nB (sQ (AD ?_)))))))));refine lK (α := Int × Nat × List T) [] [] (fun x => [(0, .t (T.u64 (x.1))), (3, .sl 3 0 (x.2.1))]) (fun x => [(3, .L 1 (x.2.2))]) (fun x => 0 ≤ (x.1) ∧ (x.1) ≤ n ∧ (x.2.1) = (x.2.2).length ∧ ∃ done : Tx, (x.2.2) = done.map T.byte ∧ Cv n = done ++ Cv (x.1)) (fun x => Int.toNat ((x.1))) (n, 0, []) ?_ (fun x hx => ?_)
 ·exact ⟨h0, OC _, rfl, [], rfl, rfl⟩
 obtain ⟨m, j, xs⟩ := x
 obtain ⟨hm0, hm1, hj, done, hd, he⟩ := hx
 dsimp only at hm0 hm1 hj hd he ⊢;refine nY Z (sQ (sG (eZ Z (AG Z Z (AA Z) Z Z Z IY Z (nB ?_)))));refine AC Z (fun h1 => ?_) (fun h1 => ?_)
 ·
  simp only [HS] at h1;refine AB (tN (sQ (AD (rG (eK 2 Z (AZ (td := .int .u64) (k := .u8) Z Z (AA Z) Z (by kernel_rfl) (by kernel_rfl) Z (CB _) (AG Z Z (AA Z) Z Z Z (NC _) Z (bZ [T.byte (by8 (m % 128 + 128))] ?_))))))));refine nZ Z (Ac tys Z Z (AA Z) Z Z Z Z Z (.own Z (by first | omega | (simp only [Nu]; omega))) Z (.own Z (by first | decide | omega)) (by decide) (by have h9 := congrArg List.length he; simp [hd] at h9 ⊢; omega) (by decide) Z ?_);refine nZ Z (eZ Z (kZ [0,3,4,5,8,9,10,11,12,13] Z (oN (bN (tN (rG (eZ Z (AG Z Z (AA Z) Z Z Z (shr7 Z _) Z (eZ Z (oN ?_))))))))));refine lQ (_, _, _) ?_ ?_
  ·dsimp only
   rw [H8 (n := m) h1] at he;exact ⟨by omega, by omega, by simp [hd], done ++ [by8 (m % 128 + 128)], (by subst hj; rw [OH, hd]; simp), (by rw [he]; simp)⟩
  ·(show Int.toNat _ < Int.toNat _); omega
 simp only [HS] at h1;refine AU (tE (AP (AK (tN (sG (eK 2 Z (AZ (td := .int .u64) (k := .u8) Z Z (AA Z) Z (by kernel_rfl) (by kernel_rfl) Z (CB _) (bZ [T.byte (by8 m)] ?_))))))));refine nZ Z (Ac tys Z Z (AA Z) Z Z Z Z Z (.own Z (by first | omega | (simp only [Nu]; omega))) Z (.own Z (by first | decide | omega)) (by decide) (by have h9 := congrArg List.length he; simp [hd] at h9 ⊢; omega) (by decide) Z ?_);refine nZ Z (A0 (e := 5) Z Z (AA Z) Z (by kernel_rfl) (by kernel_rfl) (by kernel_rfl) (Eg (l := done ++ [by8 m]) Z (by simp) (by subst hj; rw [OH, hd]; simp)) ?_);refine eZ Z (kZ [2] Z (nB (rT (eR ?_))))
 ·rw [EW (n := m) (by omega)] at he; rw [he]
theorem Jx (n : Int) (h0 : 0 ≤ n) (hn : n < 18446744073709551616) : Fun Tryz.prog 155 [.t (T.u64 n)] (Aq [.t (T.str (Cv n))]) := by
 have hlen := Ak hn
 refine Fun.begin tys Tryz.func155 Z Z (N := 21) [(0, .t (T.u64 n))] Z Z (fun w0 G F0 => ?_);refine sG (eZ Z (nA (eZ Z (AI (Le.nilOwn (u := 3) 1 Z) (AI (Le.adoptE (u := 3) 3 Z Z) (nZ Z (nB (sQ (AD ?_)))))))));refine lK (α := Int × Nat × List T) [] [] (fun x => [(0, .t (T.u64 (x.1))), (3, .sl 3 0 (x.2.1))]) (fun x => [(3, .L 1 (x.2.2))]) (fun x => 0 ≤ (x.1) ∧ (x.1) ≤ n ∧ (x.2.1) = (x.2.2).length ∧ ∃ done : Tx, (x.2.2) = done.map T.byte ∧ Cv n = done ++ Cv (x.1)) (fun x => Int.toNat ((x.1))) (n, 0, []) ?_ (fun x hx => ?_)
 ·exact ⟨h0, OC _, rfl, [], rfl, rfl⟩
 obtain ⟨m, j, xs⟩ := x
 obtain ⟨hm0, hm1, hj, done, hd, he⟩ := hx
 dsimp only at hm0 hm1 hj hd he ⊢;refine nY Z (sQ (sG (eZ Z (AG Z Z (AA Z) Z Z Z IZ Z (nB ?_)))));refine AC Z (fun h1 => ?_) (fun h1 => ?_)
 ·
  simp only [HS] at h1;refine AB (tN (AD (sG (eK 2 Z (AG Z Z (AA Z) Z Z Z (remU hm0 128 (by decide)) Z (AG Z Z (AA Z) Z Z Z (addU (by omega) (by omega)) Z (AZ (td := .int .u64) (k := .u8) Z Z (AA Z) Z (by kernel_rfl) (by kernel_rfl) Z (CB _) (bZ [T.byte (by8 (m % 128 + 128))] ?_))))))));refine nZ Z (Ac tys Z Z (AA Z) Z Z Z Z Z (.own Z (by first | omega | (simp only [Nu]; omega))) Z (.own Z (by first | decide | omega)) (by decide) (by have h9 := congrArg List.length he; simp [hd] at h9 ⊢; omega) (by decide) Z ?_);refine nZ Z (kZ [0,3,4,5,6,7,8,9,10,11,12] Z (eZ Z (nB (rG (eZ Z (AG Z Z (AA Z) Z Z Z (quoU hm0 (by omega) 128 (by decide)) Z (eZ Z (oN (bN ?_)))))))));refine lQ (_, _, _) ?_ ?_
  ·dsimp only
   rw [H8 (n := m) (by omega)] at he;exact ⟨by omega, by omega, by simp [hd], done ++ [by8 (m % 128 + 128)], (by subst hj; rw [OH, hd]; simp), (by rw [he]; simp)⟩
  ·(show Int.toNat _ < Int.toNat _); omega
 simp only [HS] at h1;refine AU (tE (AP (AK (tN (sG (eK 2 Z (AZ (td := .int .u64) (k := .u8) Z Z (AA Z) Z (by kernel_rfl) (by kernel_rfl) Z (CB _) (bZ [T.byte (by8 m)] ?_))))))));refine nZ Z (Ac tys Z Z (AA Z) Z Z Z Z Z (.own Z (by first | omega | (simp only [Nu]; omega))) Z (.own Z (by first | decide | omega)) (by decide) (by have h9 := congrArg List.length he; simp [hd] at h9 ⊢; omega) (by decide) Z ?_);refine nZ Z (A0 (e := 5) Z Z (AA Z) Z (by kernel_rfl) (by kernel_rfl) (by kernel_rfl) (Eg (l := done ++ [by8 m]) Z (by simp) (by subst hj; rw [OH, hd]; simp)) ?_);refine eZ Z (kZ [2] Z (nB (rT (eR ?_))))
 ·rw [EW (n := m) (by omega)] at he; rw [he]
theorem Bt (n : Int) (h0 : 0 ≤ n) (hn : n < 18446744073709551616) : Fun Tryz.prog 124 [.t (T.u64 n)] (Aq [.t (T.str (Cv n))]) := by
 refine Fun.begin tys Tryz.func124 Z Z (N := 5) [(0, .t (T.u64 n))] Z Z (fun w0 G F0 => ?_);refine sG (eZ Z (nA (eZ Z (AJ ?_))));refine ⟨_, Jx n h0 hn, rfl, ?_⟩;refine eZ Z (nB (rT (eR ?_)))
 ·rfl
theorem Ir (n : Int) (h0 : -9223372036854775808 ≤ n) (hn : n ≤ 9223372036854775807) : Fun Tryz.prog 57 [.t (.int n)] (Aq [.t (T.str (Hv n))]) := by
 have hlen := Cw h0 hn
 refine Fun.begin tys Tryz.func57 Z Z (N := 25) [(0, .t (.int n))] Z Z (fun w0 G F0 => ?_);refine sG (eZ Z (nA (eZ Z (AI (Le.nilOwn (u := 3) 1 Z) (AI (Le.adoptE (u := 3) 3 Z Z) (nZ Z (nB (sQ (AD ?_)))))))));refine lK (α := Int × Nat × List T) [] [] (fun x => [(0, .t (.int (x.1))), (3, .sl 3 0 (x.2.1))]) (fun x => [(3, .L 1 (x.2.2))]) (fun x => (-9223372036854775808 ≤ (x.1) ∧ (x.1) ≤ 9223372036854775807) ∧ (x.2.1) = (x.2.2).length ∧ ∃ done : Tx, (x.2.2) = done.map T.byte ∧ Hv n = done ++ Hv (x.1)) (fun x => Int.toNat (((x.1).natAbs : Int))) (n, 0, []) ?_ (fun x hx => ?_)
 ·exact ⟨⟨h0, hn⟩, rfl, [], rfl, rfl⟩
 obtain ⟨m, j, xs⟩ := x
 obtain ⟨hm0, hj, done, hd, he⟩ := hx
 dsimp only at hm0 hj hd he ⊢;refine nY Z (sQ (sG (eK 3 Z ?_)));refine gB (fun h1 => ?_) (fun h1 => ?_)
 ·
  simp only [HS] at h1;refine xK 2 Z (nB (AW Z (AB (tN (sQ (AD (rG (eK 2 Z (AZ (td := .int .i64) (k := .u8) Z Z (AA Z) Z (by kernel_rfl) (by kernel_rfl) Z (CB _) (AG Z Z (AA Z) Z Z Z (NC _) Z (kZ [0,3,4,5,6,7,8,9,12,13,14,15] Z (bZ [T.byte (by8 (m % 128 + 128))] ?_))))))))))));refine nZ Z (Ac tys Z Z (AA Z) Z Z Z Z Z (.own Z (by first | omega | (simp only [Nu]; omega))) Z (.own Z (by first | decide | omega)) (by decide) (by have h9 := congrArg List.length he; simp [hd] at h9 ⊢; omega) (by decide) Z ?_);refine nZ Z (eZ Z (oN (bN (tN (rG (eZ Z (AG Z Z (AA Z) Z Z Z (shr7 Z _) Z (eZ Z (oN ?_)))))))));refine lQ (_, _, _) ?_ ?_
  ·dsimp only
   rw [DF (n := m) (by omega)] at he;exact ⟨by omega, by simp [hd], done ++ [by8 (m % 128 + 128)], (by subst hj; rw [OH, hd]; simp), (by rw [he]; simp)⟩
  ·(show Int.toNat _ < Int.toNat _); omega
 simp only [HS] at h1;refine xK 3 Z (nB ?_);refine AC Z (fun h2 => ?_) (fun h2 => ?_)
 ·
  simp only [HS] at h2;refine AB (tN (sQ (AD (rG (eK 2 Z (AZ (td := .int .i64) (k := .u8) Z Z (AA Z) Z (by kernel_rfl) (by kernel_rfl) Z (CB _) (kZ [0,3,4,5,6,7,8,9,12,13,14] Z (AG Z Z (AA Z) Z Z Z (NC _) Z (bZ [T.byte (by8 (m % 128 + 128))] ?_)))))))));refine nZ Z (Ac tys Z Z (AA Z) Z Z Z Z Z (.own Z (by first | omega | (simp only [Nu]; omega))) Z (.own Z (by first | decide | omega)) (by decide) (by have h9 := congrArg List.length he; simp [hd] at h9 ⊢; omega) (by decide) Z ?_);refine nZ Z (eZ Z (oN (bN (tN (rG (eZ Z (AG Z Z (AA Z) Z Z Z (shr7 Z _) Z (eZ Z (oN ?_)))))))));refine lQ (_, _, _) ?_ ?_
  ·dsimp only
   rw [DF (n := m) (by omega)] at he;exact ⟨by omega, by simp [hd], done ++ [by8 (m % 128 + 128)], (by subst hj; rw [OH, hd]; simp), (by rw [he]; simp)⟩
  ·(show Int.toNat _ < Int.toNat _); omega
 simp only [HS] at h2;refine AU (tE (AP (AK (tN (sG (eK 2 Z (AZ (td := .int .i64) (k := .u8) Z Z (AA Z) Z (by kernel_rfl) (by kernel_rfl) Z (CB _) (kZ [18,20] Z (AG Z Z (AA Z) Z Z Z (and127 _) Z (bZ [T.byte (by8 (m % 128))] ?_))))))))));refine nZ Z (Ac tys Z Z (AA Z) Z Z Z Z Z (.own Z (by first | omega | (simp only [Nu]; omega))) Z (.own Z (by first | decide | omega)) (by decide) (by have h9 := congrArg List.length he; simp [hd] at h9 ⊢; omega) (by decide) Z ?_);refine nZ Z (A0 (e := 5) Z Z (AA Z) Z (by kernel_rfl) (by kernel_rfl) (by kernel_rfl) (Eg (l := done ++ [by8 (m % 128)]) Z (by simp) (by subst hj; rw [OH, hd]; simp)) ?_);refine eZ Z (nB (rT (eR ?_)))
 ·rw [Cx (n := m) (by omega) (by omega)] at he; rw [he]
theorem Je (n : Int) (h0 : -9223372036854775808 ≤ n) (hn : n ≤ 9223372036854775807) : Fun Tryz.prog 125 [.t (.int n)] (Aq [.t (T.str (Hv n))]) := by
 have hlen := Cw h0 hn
 refine Fun.begin tys Tryz.func125 Z Z (N := 34) [(0, .t (.int n))] Z Z (fun w0 G F0 => ?_);refine sG (eZ Z (nA (eZ Z (AI (Le.nilOwn (u := 3) 1 Z) (AI (Le.adoptE (u := 3) 3 Z Z) (nZ Z (nB (AD ?_))))))));refine lK (α := Int × Nat × List T) [] [] (fun x => [(0, .t (.int (x.1))), (3, .sl 3 0 (x.2.1))]) (fun x => [(3, .L 1 (x.2.2))]) (fun x => (-9223372036854775808 ≤ (x.1) ∧ (x.1) ≤ 9223372036854775807) ∧ (x.2.1) = (x.2.2).length ∧ ∃ done : Tx, (x.2.2) = done.map T.byte ∧ Hv n = done ++ Hv (x.1)) (fun x => Int.toNat (((x.1).natAbs : Int))) (n, 0, []) ?_ (fun x hx => ?_)
 ·exact ⟨⟨h0, hn⟩, rfl, [], rfl, rfl⟩
 obtain ⟨m, j, xs⟩ := x
 obtain ⟨hm0, hj, done, hd, he⟩ := hx
 dsimp only at hm0 hj hd he ⊢;refine nY Z (AD (sG (eZ Z (AG Z Z (AA Z) Z Z Z (Ni _) Z (AZ (td := .int .i64) (k := .u8) Z Z (AA Z) Z (by kernel_rfl) (by kernel_rfl) Z (CB _) (eZ Z (nA (eZ Z ?_))))))))
 have hb := FM (m % 128)
 refine AG Z Z (AA Z) Z Z Z (shr7 Z _) Z (eZ Z (nB (sQ (sQ (kY [0,3,4,5,6,7,8,9] Z (rG (eK 3 Z ?_)))))));refine gB (fun h1 => ?_) (fun h1 => ?_)
 ·
  simp only [HS] at h1;refine xK 6 Z (kZ [0,3,4,5,6,7,8,9,10,11,12,13,14,15,16,17,18,19] Z ?_);refine gB (fun h2 => ?_) (fun h2 => ?_)
  ·
   simp only [HS] at h2;refine xK 3 Z (nB (Ax Z (AB (tN (rG (eK 2 Z (AG Z Z (AA Z) Z Z Z (JW _) Z (bZ [T.byte (by8 (m % 128 + 128))] ?_))))))));refine nZ Z (Ac tys Z Z (AA Z) Z Z Z Z Z (.own Z (by first | omega | (simp only [Nu]; omega))) Z (.own Z (by first | decide | omega)) (by decide) (by have h9 := congrArg List.length he; simp [hd] at h9 ⊢; omega) (by decide) Z ?_);refine nZ Z (eZ Z (kZ [0,3,4,5,6,7,8,9,10,11,12,13,14,15,16,17,18,19,20,21,22,23,29,30,31,32,33] Z (oN (bN ?_))));refine lQ (_, _, _) ?_ ?_
   ·dsimp only
    have hgo : ¬ (-64 ≤ m ∧ m ≤ 63) := by omega
    rw [DF (n := m) hgo] at he;exact ⟨by omega, by simp [hd], done ++ [by8 (m % 128 + 128)], (by subst hj; rw [OH, hd]; simp), (by rw [he]; simp)⟩
   ·(show Int.toNat _ < Int.toNat _); omega
  simp only [HS] at h2;refine eZ Z (gY Z (AG Z Z (AA Z) Z Z Z IZ Z (xK 2 Z (nB ?_))));refine AC Z (fun h3 => ?_) (fun h3 => ?_)
  ·
   simp only [HS] at h3;refine sG (eK 2 Z (bZ [T.byte (by8 (m % 128))] ?_));refine nZ Z (Ac tys Z Z (AA Z) Z Z Z Z Z (.own Z (by first | omega | (simp only [Nu]; omega))) Z (.own Z (by first | decide | omega)) (by decide) (by have h9 := congrArg List.length he; simp [hd] at h9 ⊢; omega) (by decide) Z ?_);refine nZ Z (A0 (e := 5) Z Z (AA Z) Z (by kernel_rfl) (by kernel_rfl) (by kernel_rfl) (Eg (l := done ++ [by8 (m % 128)]) Z (by simp) (by subst hj; rw [OH, hd]; simp)) ?_);refine kZ [0,3,4,5,6,7,8,9,10,11,12,13,14,15,16,17,18,19,20,21,22,23,24,25,26,27,28] Z (eZ Z (nB (rT (tR (bR (AO (bR (eR ?_))))))))
   ·rw [Cx (n := m) (by omega) (by omega)] at he; rw [he]
  simp only [HS] at h3;refine AB (tN (rG (eK 2 Z (AG Z Z (AA Z) Z Z Z (JW _) Z (bZ [T.byte (by8 (m % 128 + 128))] ?_)))));refine nZ Z (Ac tys Z Z (AA Z) Z Z Z Z Z (.own Z (by first | omega | (simp only [Nu]; omega))) Z (.own Z (by first | decide | omega)) (by decide) (by have h9 := congrArg List.length he; simp [hd] at h9 ⊢; omega) (by decide) Z ?_);refine nZ Z (kZ [0,3,4,5,6,7,8,9,10,11,12,13,14,15,16,17,18,19,20,21,22,23,29,30,31,32,33] Z (eZ Z (oN (bN ?_))));refine lQ (_, _, _) ?_ ?_
  ·dsimp only
   have hgo : ¬ (-64 ≤ m ∧ m ≤ 63) := by omega
   rw [DF (n := m) hgo] at he;exact ⟨by omega, by simp [hd], done ++ [by8 (m % 128 + 128)], (by subst hj; rw [OH, hd]; simp), (by rw [he]; simp)⟩
  ·(show Int.toNat _ < Int.toNat _); omega
 simp only [HS] at h1;refine eZ Z (gY Z (AG Z Z (AA Z) Z Z Z IX Z (eK 2 Z ?_)));refine gB (fun h2 => ?_) (fun h2 => ?_)
 ·
  simp only [HS] at h2;refine xK 2 Z (kZ [0,3,4,5,6,7,8,9,10,11,12,13,14,15,16,17,18,19] Z (xK 4 Z (nB (AW Z (sG (eK 2 Z (bZ [T.byte (by8 (m % 128))] ?_)))))));refine nZ Z (Ac tys Z Z (AA Z) Z Z Z Z Z (.own Z (by first | omega | (simp only [Nu]; omega))) Z (.own Z (by first | decide | omega)) (by decide) (by have h9 := congrArg List.length he; simp [hd] at h9 ⊢; omega) (by decide) Z ?_);refine nZ Z (A0 (e := 5) Z Z (AA Z) Z (by kernel_rfl) (by kernel_rfl) (by kernel_rfl) (Eg (l := done ++ [by8 (m % 128)]) Z (by simp) (by subst hj; rw [OH, hd]; simp)) ?_);refine kZ [0,3,4,5,6,7,8,9,10,11,12,13,14,15,16,17,18,19,20,21,22,23,24,25,26,27,28] Z (eZ Z (nB (rT (tR (bR (AO (bR (eR ?_))))))))
  ·rw [Cx (n := m) (by omega) (by omega)] at he; rw [he]
 simp only [HS] at h2;refine xK 2 Z (kZ [0,3,4,5,6,7,8,9,10,11,12,13,14,15,16,17,18] Z (xZ Z ?_));refine gB (fun h3 => ?_) (fun h3 => ?_)
 ·
  simp only [HS] at h3;refine xK 3 Z (nB (Ax Z (AB (tN (rG (eK 2 Z (AG Z Z (AA Z) Z Z Z (JW _) Z (bZ [T.byte (by8 (m % 128 + 128))] ?_))))))));refine nZ Z (Ac tys Z Z (AA Z) Z Z Z Z Z (.own Z (by first | omega | (simp only [Nu]; omega))) Z (.own Z (by first | decide | omega)) (by decide) (by have h9 := congrArg List.length he; simp [hd] at h9 ⊢; omega) (by decide) Z ?_);refine nZ Z (kZ [0,3,4,5,6,7,8,9,10,11,12,13,14,15,16,17,18,19,20,21,22,23,29,30,31,32,33] Z (eZ Z (oN (bN ?_))));refine lQ (_, _, _) ?_ ?_
  ·dsimp only
   have hgo : ¬ (-64 ≤ m ∧ m ≤ 63) := by omega
   rw [DF (n := m) hgo] at he;exact ⟨by omega, by simp [hd], done ++ [by8 (m % 128 + 128)], (by subst hj; rw [OH, hd]; simp), (by rw [he]; simp)⟩
  ·(show Int.toNat _ < Int.toNat _); omega
 simp only [HS] at h3;refine eZ Z (gY Z (AG Z Z (AA Z) Z Z Z IZ Z (xK 2 Z (nB ?_))));refine AC Z (fun h4 => ?_) (fun h4 => ?_)
 ·
  simp only [HS] at h4;refine sG (eK 2 Z (bZ [T.byte (by8 (m % 128))] ?_));refine nZ Z (Ac tys Z Z (AA Z) Z Z Z Z Z (.own Z (by first | omega | (simp only [Nu]; omega))) Z (.own Z (by first | decide | omega)) (by decide) (by have h9 := congrArg List.length he; simp [hd] at h9 ⊢; omega) (by decide) Z ?_);refine nZ Z (kZ [0,3,4,5,6,7,8,9,10,11,12,13,14,15,16,17,18,19,20,21,22,23,24,25,26,27] Z (A0 (e := 5) Z Z (AA Z) Z (by kernel_rfl) (by kernel_rfl) (by kernel_rfl) (Eg (l := done ++ [by8 (m % 128)]) Z (by simp) (by subst hj; rw [OH, hd]; simp)) ?_));refine eZ Z (nB (rT (tR (bR (AO (bR (eR ?_)))))))
  ·rw [Cx (n := m) (by omega) (by omega)] at he; rw [he]
 simp only [HS] at h4;refine AB (tN (rG (eK 2 Z (AG Z Z (AA Z) Z Z Z (JW _) Z (bZ [T.byte (by8 (m % 128 + 128))] ?_)))));refine nZ Z (kZ [0,3,4,5,6,7,8,9,10,11,12,13,14,15,16,17,18,19,20,21,22,23,29,30,31,32] Z (Ac tys Z Z (AA Z) Z Z Z Z Z (.own Z (by first | omega | (simp only [Nu]; omega))) Z (.own Z (by first | decide | omega)) (by decide) (by have h9 := congrArg List.length he; simp [hd] at h9 ⊢; omega) (by decide) Z ?_));refine nZ Z (eZ Z (oN (bN ?_)));refine lQ (_, _, _) ?_ ?_
 ·dsimp only
  have hgo : ¬ (-64 ≤ m ∧ m ≤ 63) := by omega
  rw [DF (n := m) hgo] at he;exact ⟨by omega, by simp [hd], done ++ [by8 (m % 128 + 128)], (by subst hj; rw [OH, hd]; simp), (by rw [he]; simp)⟩
 ·(show Int.toNat _ < Int.toNat _); omega
theorem GP {n : Int} (h : 0 ≤ n) : Lib.itoa n = Lib.decDigits n.toNat := by unfold Lib.itoa; rw [if_neg (by omega)]
theorem L6 {n : Int} (h : 0 ≤ n) (h1 : n < 10) : Lib.itoa n = [by8 (48 + n)] := by
 rw [GP h, Lib.decDigits, dif_pos (by omega)];unfold by8
 congr 2
 omega
theorem Ku {n : Int} (h : 0 ≤ n) (h1 : ¬ n < 10) : Lib.itoa n = Lib.itoa (n / 10) ++ [by8 (48 + n % 10)] := by
 rw [GP h, GP (by omega), Lib.decDigits, dif_neg (by omega)]
 have e : n.toNat / 10 = (n / 10).toNat := by omega
 rw [e];unfold by8
 congr 3
 omega
theorem L5 {n : Int} (h : n < 0) : Lib.itoa n = 45 :: Lib.itoa (-n) := by
 rw [GP (n := -n) (by omega)]; unfold Lib.itoa; rw [if_pos h]; congr 2; omega
theorem Jy (n : Int) (h0 : 0 ≤ n) (hn : n ≤ 9223372036854775807) (ih : ∀ m : Int, 0 ≤ m → m < n → Fun Tryz.prog 86 [.t (.int m)] (.t (T.str (Lib.itoa m)))) : Fun Tryz.prog 86 [.t (.int n)] (Aq [.t (T.str (Lib.itoa n))]) := by
 have hlen := Lib.itoa_length_le (n / 10) (by omega) (by omega)
 have hq : n.tdiv 10 = n / 10 := Int.tdiv_eq_ediv_of_nonneg h0
 have hr : n.tmod 10 = n % 10 := Int.tmod_eq_emod_of_nonneg h0
 refine Fun.begin tys Tryz.func86 Z Z (N := 20) [(0, .t (.int n))] Z Z (fun w0 G F0 => ?_);refine sG (eZ Z (nB (sQ (sG (eK 2 Z (nB ?_))))));refine AC Z (fun h1 => ?_) (fun h1 => ?_)
 ·
  simp only [HS] at h1;refine sG (eZ Z (evI ?_));refine AZ (td := .int .i64) (k := .u8) Z Z (AA Z) Z (by kernel_rfl) (by kernel_rfl) Z (CB _) (bZ [T.byte (by8 (48 + n))] ?_);refine nZ Z (A0 (e := 5) Z Z (AA Z) Z (by kernel_rfl) (by kernel_rfl) (by kernel_rfl) (Eg (l := [by8 (48 + n)]) Z Z Z) (eZ Z (kZ [0,2] Z (nB (rT (tR (eR ?_)))))))
  ·first
   | exact retT (L6 h0 (by assumption)).symm
 simp only [HS] at h1;refine AB (tN (sQ (KM mixed (by kernel_rfl) (Ad tys Z Z (AA Z) Z (Nr (m := n / 10) Z Z (AA Z) Z Z Z (by decide) (by rw [hq]; exact Hw (by omega) (by omega)) ?_)))));refine LH ?_;refine ⟨_, ih (n / 10) (by omega) (by omega), rfl, ?_⟩;refine Lb Z (Ad tys Z Z (AA Z) Z (QG_rem Z Z (AA Z) Z Z Z (by decide) ?_));rw [hr];refine QG_int tys Z Z (AA Z) Z (C8 (by omega) (by omega)) (Ld (td := .int .i64) (k := .u8) Z Z (AA Z) Z (by kernel_rfl) (by kernel_rfl) Z (CB _) ?_);refine CM tys [T.byte (by8 (48 + n % 10))] Z Z (AA Z) Z Z Z Z Z (AA Z) (by repeat (first | exact PartsOk.nil' | refine PartsOk.cons' rfl (by repeat (first | exact AbsL.nil' | refine AbsL.v' ?_ | refine AbsL.own' ?_ | refine AbsL.none' ?_)) Z ?_)) Z Z Z (by decide) ?_;refine Hq (e := 5) Z Z (AA Z) Z (by kernel_rfl) (by kernel_rfl) (by kernel_rfl) (l := [by8 (48 + n % 10)]) (ResL.own .done) (Lb Z (Nt Z Z (AA Z) Z Z Z (AF (by first | omega | (simp; omega))) Z ?_));refine Ad tys Z Z (AA Z) Z (AE ?_);refine ⟨by kernel_rfl, ?_⟩;refine nZ Z (nB (rT (eR ?_)))
 ·first
  | exact retT (Ku h0 (by omega)).symm
theorem Bd (n : Int) (h0 : 0 ≤ n) (hn : n ≤ 9223372036854775807) : Fun Tryz.prog 86 [.t (.int n)] (.t (T.str (Lib.itoa n))) := by
 have key : ∀ (k : Nat) (n : Int), n.toNat = k → 0 ≤ n → n ≤ 9223372036854775807 → Fun Tryz.prog 86 [.t (.int n)] (.t (T.str (Lib.itoa n))) := fun k => by
  induction k using Nat.strongRecOn with
  | _ k ih => exact fun n hk h0 hn => Jy n h0 hn fun m hm hm2 => ih m.toNat (by omega) m rfl hm (by omega)
 exact key _ n rfl h0 hn
theorem Ks (n : Int) (h0 : -9223372036854775807 ≤ n) (hn : n ≤ 9223372036854775807) : Fun Tryz.prog 127 [.t (.int n)] (Aq [.t (T.str (Lib.itoa n))]) := by
 have hlen := Lib.itoa_length_le (-n) (by omega) (by omega)
 refine Fun.begin tys Tryz.func127 Z Z (N := 11) [(0, .t (.int n))] Z Z (fun w0 G F0 => ?_);refine sG (eZ Z (nB (sQ (sG (eK 2 Z (nB ?_))))));refine AC Z (fun h1 => ?_) (fun h1 => ?_)
 ·
  simp only [HS] at h1;refine sG (eK 2 Z ?_);rw [show IntKind.i64.wrap (0 - n) = -n from by rw [Hw (by omega) (by omega)]; omega];refine AJ ?_;refine ⟨_, Bd _ (by omega) (by omega), rfl, ?_⟩;refine AG Z Z (AA Z) Z Z Z (AF (by first | omega | (simp; omega))) Z ?_;refine eZ Z (nB (rT (tR (eR ?_))))
  ·first
   | exact retT (L5 (by assumption)).symm
 simp only [HS] at h1;refine AB (tN (sG (eZ Z (AJ ?_))));refine ⟨_, Bd _ (by omega) (by omega), rfl, ?_⟩;refine eZ Z (nB (rT (eR ?_)))
 ·first
  | rfl
open Go.Eng Go.RowKit
theorem IU (b : Nat) (w : World) (h0 : w.cell? ⟨b, 0, none⟩ = some (.pointer none)) (hsh : w.shape? b = some (82, 2)) (hfz : w.frozen? ⟨b, 0, none⟩ = false) :
  Calls Tryz.prog 100 #[.pointer (some ⟨b, 0, none⟩)] w fun e w' => e = .returned (.tuple #[]) ∧ w' = w.setCell ⟨b, 0, none⟩ (.pointer (some ⟨b, 0, none⟩)) := by
 obtain ⟨j, hj, hjs⟩ := Option.map_eq_some_iff.1 (show (Tryz.prog.info? 82).map (·.size) = some 2 by kernel_rfl)
 have t70 : Tryz.prog.underlying 79 = some (.pointer 82) := by kernel_rfl
 have t164 : Tryz.prog.underlying 158 = some .unsafePointer := by kernel_rfl
 go_enter Tryz.func100, Tryz.ntmps100
 go_wp2
 rw [Lib.run_to_unsafe w ⟨b, 0, none⟩ t70 t164 hj (by rw [hjs]; decide) hsh (Nat.zero_lt_succ 1)];simp only [Result.andThen];rw [Oper.upon_value]
 go_wp2
 rw [run_callFunc_extern Tryz.func138 (by kernel_rfl) (by kernel_rfl) (by kernel_rfl) (e := Extern.AbiNoEscape.same) (by kernel_rfl)];rw [Lib.run_noEscape];simp only [Result.andThen];rw [Oper.upon_value]
 go_wp2
 rw [Lib.run_from_unsafe w ⟨b, 0, none⟩ t164 t70 hj hsh (show liesAt Tryz.prog Tryz.prog.depth 82 (2 / Tryz.prog.cellsOf 82) 0 82 1 = true by kernel_rfl)];simp only [Result.andThen];rw [Oper.upon_value]
 go_wp2
 go_end0
 exact ⟨rfl, rfl⟩
theorem KG (b : Nat) (w : World) (h0 : w.cell? ⟨b, 0, none⟩ = some (.pointer (some ⟨b, 0, none⟩))) :
  Calls Tryz.prog 100 #[.pointer (some ⟨b, 0, none⟩)] w fun e w' => e = .returned (.tuple #[]) ∧ w' = w := by
 obtain ⟨j, hj, _⟩ := Option.map_eq_some_iff.1 (show (Tryz.prog.info? 82).map (·.size) = some 2 by kernel_rfl)
 have t70 : Tryz.prog.underlying 79 = some (.pointer 82) := by kernel_rfl
 go_enter Tryz.func100, Tryz.ntmps100
 go_wp2
 rw [Lib.run_neq_ptr_same w _ t70 hj]
 go_wp2
 go_end0
 exact ⟨rfl, rfl⟩
open Go.RowKit Go.Lib Go.Shelf
theorem F1 (b : Nat) (p v : Value) (l : List UInt8) (w : World) (h : Go.Proofs.BldAt 82 5 b p v l w) :
  Calls Tryz.prog 100 #[.pointer (some ⟨b, 0, none⟩)] w fun e w' => e = .returned (.tuple #[]) ∧ Go.Proofs.BldAt 82 5 b (.pointer (some ⟨b, 0, none⟩)) v l w' ∧ (w' = w ∨ w' = w.setCell ⟨b, 0, none⟩ (.pointer (some ⟨b, 0, none⟩))) := by
 obtain ⟨h1, h2, h3, h4⟩ := h
 have c0 : w.cell? ⟨b, 0, none⟩ = some p := by rw [Lib.cell_of_heap h1]; rfl
 rcases h2 with rfl | rfl
 ·refine (IU b w c0 (by simp [World.shape?, h1]) (Lib.frozen_of_heap h1 0)).mono ?_
  rintro e w' ⟨rfl, rfl⟩
  refine ⟨rfl, ⟨?_, .inr rfl, ?_, h4⟩, .inr rfl⟩
  ·simp [World.setCell, Array.getElem?_modify, h1]
  ·exact h3.kept (row := some b) ⟨rfl, rfl, rfl, by simp [World.setCell], fun k _ hk => Below.heap_setCell _ _ _ _ (fun e => hk (by simp [e]))⟩ (Or.inr h4)
 ·refine (KG b w c0).mono ?_
  rintro e w' ⟨rfl, rfl⟩
  exact ⟨rfl, ⟨h1, .inr rfl, h3, h4⟩, .inl rfl⟩
theorem EO (b : Nat) (p v : Value) (l : List UInt8) (s : ByteArray) (w : World) (h : Go.Proofs.BldAt 82 5 b p v l w) (hlen : l.length + s.size ≤ 140737488355328) :
  Calls Tryz.prog 54 #[.pointer (some ⟨b, 0, none⟩), .string s] w fun e w' => e = .returned (.tuple #[.int .i64 s.size, .nilIface]) ∧ ∃ v', Go.Proofs.BldAt 82 5 b (.pointer (some ⟨b, 0, none⟩)) v' (l ++ s.data.toList) w' ∧ Go.Proofs.BldKept b v v' w w' := by
 obtain ⟨i0, hi, hz0, hz1, hz2⟩ := info_parts (show (Tryz.prog.info? 5).map (fun i => (i.zero, i.size, i.bytes)) = some (some (.int .u8 0), 1, 1) by kernel_rfl)
 go_enter Tryz.func54, Tryz.ntmps54
 go_wp2_with (go_at_call 100; refine (F1 b p v l _ h).mono ?_)
 rintro e w1 ⟨rfl, h1, hw1⟩
 obtain ⟨hbk, _, hown, hne⟩ := h1
 have c0 : w1.cell? ⟨b, 0, none⟩ = some (.pointer (some ⟨b, 0, none⟩)) := by rw [Lib.cell_of_heap hbk]; rfl
 have c1 : w1.cell? ⟨b, 1, none⟩ = some v := by rw [Lib.cell_of_heap hbk]; rfl
 go_wp2_with (at_builtin; refine Go.Eng.wpList_append_exact rfl _ _ 80 9 rfl 5 i0 (show Tryz.prog.underlying 80 = some (.slice 5) by kernel_rfl) (show Tryz.prog.underlying 9 = some .string by kernel_rfl) hi hz0 hz1 hz2 _ _ _ rfl hown s rfl ?c3 ?c4 ?_)
 case c3 => unfold maxLen; omega
 case c4 => omega
 intro v' w2 hown' hgrow hrow
 have hlt : b < w1.heap.size := by
  rcases Nat.lt_or_ge b w1.heap.size with h' | h'
  ·exact h'
  ·simp [Array.getElem?_eq_none h'] at hbk
 have hb2 : w2.heap[b]? = some (.cells #[.pointer (some ⟨b, 0, none⟩), v] 82 (0, 0)) := by
  rw [hgrow.block b hlt (fun e => hne e.symm)];exact hbk
 have d0 : w2.cell? ⟨b, 0, none⟩ = some (.pointer (some ⟨b, 0, none⟩)) := by rw [Lib.cell_of_heap hb2]; rfl
 have d1 : w2.cell? ⟨b, 1, none⟩ = some v := by rw [Lib.cell_of_heap hb2]; rfl
 have f1 : w2.frozen? ⟨b, 1, none⟩ = false := Lib.frozen_of_heap hb2 1
 obtain ⟨ao, n', cap, rfl⟩ : ∃ ao n' cap, v' = .slice ao n' cap := by
  rcases hown'.2 with ⟨hv, _⟩ | ⟨g, cap, cur, hv, _⟩
  ·exact ⟨_, _, _, hv⟩
  ·exact ⟨_, _, _, hv⟩
 go_wp2
 go_ret2
 have hne' : (Value.slice ao n' cap).ownBlock ≠ some b := Lib.ownBlock_neF (World.ownsRowF_of hown') hb2 (by decide)
 have e1 : byteCells (l ++ s.data.toList) = byteCells l ++ strCells s := by simp [byteCells, strCells]
 have e2 : (l ++ s.data.toList).length = l.length + s.size := by rw [Nu]; rfl
 refine ⟨rfl, .slice ao n' cap, ⟨?_, .inr rfl, ?_, hne'⟩, ?_⟩
 ·simp [World.setCell, Array.getElem?_modify, hb2]
 ·rw [e1, e2]
  exact hown'.kept (row := some b) ⟨rfl, rfl, rfl, by simp [World.setCell], fun k _ hk => Below.heap_setCell _ _ _ _ (fun e => hk (by simp [e]))⟩ (Or.inr hne')
 ·have hs1 : w1.heap.size = w.heap.size := by rcases hw1 with rfl | rfl <;> simp [World.setCell]
  have hk1 : ∀ k, k ≠ b → w1.heap[k]? = w.heap[k]? := by
   intro k hk
   rcases hw1 with rfl | rfl
   ·rfl
   ·exact Below.heap_setCell _ _ _ _ hk
  have ho1 : w1.os = w.os ∧ w1.tape = w.tape ∧ w1.output = w.output := by rcases hw1 with rfl | rfl <;> exact ⟨rfl, rfl, rfl⟩
  refine ⟨hgrow.os.trans ho1.1, hgrow.tape.trans ho1.2.1, hgrow.output.trans ho1.2.2, ?_, fun k hk hkb hkv => ?_, fun g hg => ?_⟩
  ·have := hgrow.size
   simp [World.setCell]; omega
  ·rw [Below.heap_setCell _ _ _ _ hkb, hgrow.block k (by omega) (fun e => hkv e.symm), hk1 k hkb]
  ·rcases hrow g hg with h5 | h5
   ·exact .inl h5
   ·refine .inr ⟨by omega, ?_⟩
    rcases hown'.2 with ⟨h6, _⟩ | ⟨g2, c2, cur2, h6, _, h7, _⟩
    ·rw [h6] at hg; cases hg
    ·rw [h6] at hg
     have hg2 : g2 = g := Option.some.inj hg
     subst hg2
     have := (Array.getElem?_eq_some_iff.1 h7).1
     simpa [World.setCell] using this
section
open Go.Eng
theorem AY (b : Nat) (l s : List UInt8) (hlen : l.length + s.length ≤ 140737488355328) :
  Go.Eng.Proc Tryz.prog 54 [.t (.v (.pointer (some ⟨b, 0, none⟩))), .t (T.str s)] [] [] [.bld 82 5 b l] (.tup [.t (.int s.length), .t (.v .nilIface)]) [.bld 82 5 b (l ++ s)] := by
 refine ⟨⟨_, Tryz.func54, rfl, rfl⟩, fun w F args bs hF hargs _ hms hnd hbs => ?_⟩
 have he := BQ (vs := [.pointer (some ⟨b, 0, none⟩), .string ⟨⟨s⟩⟩]) hargs
 have ha : args = #[.pointer (some ⟨b, 0, none⟩), .string ⟨⟨s⟩⟩] := by rw [← Array.toArray_toList (xs := args), he]
 subst ha
 obtain ⟨b1, b2, hm, h0, rfl⟩ := hms
 have h0' : b2 = [] := h0
 subst h0';rw [OI] at hnd hbs ⊢
 obtain ⟨p, v, hb, rfl⟩ := JT hm hnd
 refine (EO b p v l ⟨⟨s⟩⟩ w hb hlen).mono ?_
 rintro e w' ⟨rfl, v', hb', k⟩
 have hbw := (hbs b (by simp)).1
 refine ⟨_, [], b :: v'.ownBlock.toList, rfl, RelD.tup (bs := []) (bs' := []) (.t (.v Z .nil) (.t (.v Z .nil) .done)) .done, ⟨_, [], Mr hb', rfl, by simp⟩, ?_, fun x hx => ?_, k.os, k.tape, k.output, k.size, fun x hx hn => k.block x hx (fun e => hn (by simp [e])) (fun e => hn (by simp [e]))⟩
 ·rw [OY, N7]
  refine ⟨fun h => hb'.2.2.2 (by simpa using h), by cases v'.ownBlock <;> simp⟩
 ·rw [OY] at hx
  rcases N6.1 hx with rfl | hx
  ·exact .inl (by simp)
  ·rcases k.row x (by simpa using hx) with h5 | h5
   ·exact .inl (by simp [h5])
   ·exact .inr h5
end
end Go.Proofs.YthinnpkpafmbcaaGreatDoor
