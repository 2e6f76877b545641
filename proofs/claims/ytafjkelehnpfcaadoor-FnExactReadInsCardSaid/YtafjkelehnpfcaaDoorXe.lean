/- What lies in the laid variables; the library's functions; an instruction's text, and an instruction read from it, the program's way. -/
import Derived.Test.YtafjkelehnpfcaaDoorXd
import Derived.Test.YtafjkelehnpfcaaDoorXlD
import Derived.Lib.AppendIntMem
set_option linter.unusedVariables false
set_option linter.unusedSimpArgs false
set_option maxRecDepth 10000
set_option maxHeartbeats 1000000
namespace Go.Proofs.YtafjkelehnpfcaaDoor
open Go.Eng Go.RowKit

theorem var_below {P : Program} {w w' : World} {name : String} {arr : Array Value} (h : w.var? P name = some arr) (hb : Below w.heap.size w w') : w'.var? P name = some arr := by
  unfold World.var? at *
  cases hg : P.globalNamed name with
  | none => simp [hg] at h
  | some g =>
    simp only [hg, Option.bind_some] at h ⊢
    have hlt : g < w.heap.size := by
      by_cases hlt : g < w.heap.size
      · exact hlt
      · rw [Array.getElem?_eq_none (by omega)] at h; cases h
    rw [hb.block g hlt]
    exact h
theorem cell_below {w w' : World} {a : Addr} {v : Value} (h : w.cell? a = some v) (hb : Below w.heap.size w w') : w'.cell? a = some v := by
  unfold World.cell? at *
  have hlt : a.block < w.heap.size := by
    by_cases hlt : a.block < w.heap.size
    · exact hlt
    · rw [Array.getElem?_eq_none (by omega)] at h; cases h
  rw [hb.block _ hlt]
  exact h
def wordsV : List Value := wordsL.map fun l => .string ⟨⟨l⟩⟩
/-- The variables that the rows list, as their initialisers lay them. -/
def Lad (w : World) (F : Nat → Prop) : Prop :=
  F 0 ∧ w.var? Tryd.prog "loop.example/g00745/impl.insWords" = some wordsV.toArray ∧ (∃ m, w.cell? ⟨1, 0, none⟩ = some (.int .i64 m)) ∧ Lib.TabIs Tryd.prog w "internal/strconv.uint64pow10" .u64 Lib.pow10Tab ∧
    (∃ tp p, w.var? Tryd.prog "strconv.ErrSyntax" = some #[.iface tp p]) ∧ ∃ tp p, w.var? Tryd.prog "strconv.ErrRange" = some #[.iface tp p]
theorem LadS : Stable Lad := by
  rintro w w' F F' ⟨h1, h2, ⟨m, h3⟩, h4, ⟨tp, p, h5⟩, tp', p', h6⟩ hb hF
  exact ⟨hF _ h1, var_below h2 hb, ⟨m, cell_below h3 hb⟩, Lib.tabBelow_of_tabIs h4 w' hb, ⟨tp, p, var_below h5 hb⟩, tp', p', var_below h6 hb⟩
theorem gWords : Tryd.prog.globalNamed "loop.example/g00745/impl.insWords" = some 0 := by kernel_rfl
theorem wordsAt : LiesAt Lad 0 wordsV := by
  rintro w F ⟨h1, h2, _⟩
  unfold World.var? at h2
  simp only [gWords, Option.bind_some] at h2
  refine ⟨h1, ?_⟩
  split at h2
  · rename_i cs e fz hh
    cases h2
    exact ⟨_, _, _, hh, rfl⟩
  · cases h2

theorem below_drew {w : World} {n : Nat} : Below w.heap.size w (w.drewN n) := ⟨rfl, rfl, rfl, Nat.le_refl _, fun _ _ => rfl⟩
theorem below_grow {w : World} {os : Array Obj} : Below w.heap.size w (Sort.grow w os) := by
  refine ⟨rfl, rfl, rfl, ?_, fun k hk => ?_⟩
  · show w.heap.size ≤ (w.heap ++ os).size
    rw [Array.size_append]; omega
  · show (w.heap ++ os)[k]? = w.heap[k]?
    rw [Array.getElem?_append_left hk]

theorem itoa_fun (n : Int) (h0 : -9223372036854775808 ≤ n) (h1 : n ≤ 9223372036854775807) : FunL Tryd.prog Lad 50 [.t (.int n)] (.t (T.str (Lib.itoa n))) := by
  refine FunL.plain (vs := [.int .i64 n]) (u := .string ⟨(Lib.itoa n).toArray⟩) ⟨_, Tryd.func50, rfl, rfl⟩ (fun w F h => ?_) (fun w F => .t (.v rfl .nil) .done)
  refine (Tryd.strconv_Itoa n h0 h1 w h.2.2.2.1).mono ?_
  rintro e w' ⟨rfl, k, os, rfl⟩
  exact ⟨rfl, below_drew.trans (below_grow (w := w.drewN k))⟩
theorem cut_fun (s sep : Tx) (hs : s.length ≤ 1048576) : FunL Tryd.prog Lad 57 [.t (T.str s), .t (T.str sep)] (.tup [.t (T.str (Lib.cut s sep).1), .t (T.str (Lib.cut s sep).2.1), .t (.bool (Lib.cut s sep).2.2)]) := by
  refine FunL.plain (vs := [.string ⟨⟨s⟩⟩, .string ⟨⟨sep⟩⟩]) (u := .tuple #[.string ⟨(Lib.cut s sep).1.toArray⟩, .string ⟨(Lib.cut s sep).2.1.toArray⟩, .bool (Lib.cut s sep).2.2]) ⟨_, Tryd.func57, rfl, rfl⟩ (fun w F h => ?_)
    (fun w F => RelD.tup (bs := []) (bs' := []) (.t (.v rfl .nil) (.t (.v rfl .nil) (.t (.v rfl .nil) .done))) .done)
  obtain ⟨m, hm⟩ := h.2.2.1
  refine (Tryd.strings_Cut ⟨⟨s⟩⟩ ⟨⟨sep⟩⟩ m w (show s.length < 4294967281 by omega) hm).mono ?_
  rintro e w' ⟨rfl, n, rfl⟩
  exact ⟨rfl, below_drew⟩
/-- What Atoi answers: a number and whether it is one. -/
def AtoiIs (s : Tx) (x : Int × Value) : Prop := (x.2 = .nilIface ∧ Lib.atoiAll s = .ok x.1) ∨ (∃ u q, x.2 = .iface u q) ∧ ∀ v, Lib.atoiAll s ≠ .ok v
theorem atoi_fun (s : Tx) (hs : s.length ≤ 1048576) : FunLX Tryd.prog Lad 59 [.t (T.str s)] (fun x : Int × Value => .tup [.t (.int x.1), .t (.v x.2)]) (AtoiIs s) := by
  refine FunLX.plain (vs := [.string ⟨⟨s⟩⟩]) (u := fun x => .tuple #[.int .i64 x.1, x.2]) ⟨_, Tryd.func59, rfl, rfl⟩ (fun w F h => ?_)
    (fun x w F hx => ?_)
  · obtain ⟨_, _, _, _, ⟨tp, p, h5⟩, tp', p', h6⟩ := h
    cases ha : Lib.atoiAll s
    · rename_i v
      refine (Tryd.strconv_Atoi_ok ⟨⟨s⟩⟩ (show s.length ≤ 9223372036854775806 by omega) v ha w).mono ?_
      rintro e w' ⟨rfl, hw⟩
      refine ⟨(v, .nilIface), .inl ⟨rfl, ha⟩, rfl, ?_⟩
      rcases hw with rfl | ⟨t, rfl⟩
      · exact Below.refl _ _
      · exact Lib.bytesWorld_below ..
    · refine (Any.strconv_Atoi_syntax_var Tryd.laysC172 ⟨⟨s⟩⟩ (show s.length ≤ 281474976710656 by omega) ha tp p w h5).mono ?_
      rintro e w' ⟨N, rfl, _, _, hb⟩
      exact ⟨(0, _), .inr ⟨⟨_, _, rfl⟩, fun v hv => by rw [ha] at hv; cases hv⟩, rfl, hb⟩
    · refine (Any.strconv_Atoi_range_var Tryd.laysC172 ⟨⟨s⟩⟩ (show s.length ≤ 281474976710656 by omega) ha tp' p' w h6).mono ?_
      rintro e w' ⟨N, rfl, _, _, hb⟩
      exact ⟨(_, _), .inr ⟨⟨_, _, rfl⟩, fun v hv => by rw [ha] at hv; cases hv⟩, rfl, hb⟩
  · have ho : x.2.oneCell' = true := by
      rcases hx with ⟨h, _⟩ | ⟨⟨u, q, h⟩, _⟩ <;> rw [h] <;> rfl
    exact RelD.tup (bs := []) (bs' := []) (.t (.v rfl .nil) (.t (.v ho .nil) .done)) .done
end Go.Proofs.YtafjkelehnpfcaaDoor
