/- Every call of FnExactCodeText returns true, and what it was given reads as it did, where the listed variables lie as they are laid: the given statement, for every input; and its card. -/
import Derived.Test.YtafjkelehnpfcaaDoorXu
import Derived.Test.YtafjkelehnpfcaaDoorMe
import Derived.Test.YtafjkelehnpfcaaDoorRows
import Derived.Test.YtafjkelehnpfcaaDoorTie
import Derived.Test.YtafjkelehnpfcaaDoorCards
import Derived.Stop.LaidErr
import Derived.LaidLaws
import Derived.SevenTiedAt
set_option linter.unusedVariables false
set_option linter.unusedSimpArgs false
set_option maxRecDepth 100000
set_option maxHeartbeats 2000000
namespace Go.Proofs.YtafjkelehnpfcaaDoor
open Go.ChangeShapes Go.WideShapes Go.ChangeAt Go.RowKit Go.Eng

theorem tryOwn : ownKnob Tryd.prog.godebug = none := by kernel_rfl
theorem tryLaid : laidOutB Tryd.prog = true := by kernel_rfl
theorem gPow : Tryd.prog.globalNamed "internal/strconv.uint64pow10" = some 4 := by kernel_rfl
theorem lad_of {W : World} (hL : laidMet Tryd.prog Rows.fnExactCodeTextRow.laid W) : LadC W (fun b => b < W.heap.size) := by
  have h3 : laidMet Tryd.prog _ W := hL.tail.tail
  have h6 : laidMet Tryd.prog [("loop.example/g00745/impl.insWords", Rows.laid_loop_example_g00745_impl_insWords)] W := h3.tail
  have ht : Lib.TabIs Tryd.prog W "internal/strconv.uint64pow10" .u64 Lib.pow10Tab :=
    Lib.tabIs_of_head (n := 20) (t := 132) (e := 81) gPow (by kernel_rfl) (by kernel_rfl) (by kernel_rfl) (by kernel_rfl) (by kernel_rfl) h3
  have hw : W.var? Tryd.prog "loop.example/g00745/impl.insWords" = some wordsV.toArray := by
    obtain ⟨ps, ⟨g, t, cs, fuel, p, q, hg, hty, hv, hd, _, _⟩, _⟩ := h6
    obtain rfl := Option.some.inj (gWords.symm.trans hg)
    obtain rfl := Option.some.inj ((show (Tryd.prog.globals[0]?).map (·.type) = some 94 by kernel_rfl).symm.trans hty)
    have hc := cells_of_strs (n := 19) (e := 9) (ls := wordsL) (by kernel_rfl) (by kernel_rfl) (by kernel_rfl) (by kernel_rfl) hd
    rw [hv]
    congr 1
    rw [← Array.toArray_toList (xs := cs), hc]
    rfl
  refine ⟨?_, hw, ht⟩
  have hw2 := hw
  unfold World.var? at hw2
  simp only [gWords, Option.bind_some] at hw2
  by_cases hlt : 0 < W.heap.size
  · exact hlt
  · rw [Array.getElem?_eq_none (by omega)] at hw2; cases hw2

/-! One start that fits. -/
def litV : DataW Unit → Value
  | .lit (.int k z) => .int k z
  | .lit (.string s) => .string ⟨⟨s⟩⟩
  | _ => .nilIface
def litsV : DataW Unit → Array Value
  | .agg l => (l.map litV).toArray
  | _ => #[]
def setG (g : Nat) (arr : Array Value) (h : Array Obj) : Array Obj := h.modify g fun
  | .cells _ t fz => .cells arr t fz
  | o => o
noncomputable def laidWorld (os : Os) : World :=
  let w0 := World.holding Tryd.prog os ⟨#[], #[], []⟩
  { w0 with heap := setG 4 (litsV Rows.laid_internal_strconv_uint64pow10) (setG 5 (litsV Rows.laid_math_bits_deBruijn32tab) (setG 6 (litsV Rows.laid_math_bits_deBruijn64tab) (setG 0 (litsV Rows.laid_loop_example_g00745_impl_insWords) w0.heap))) }
theorem laidWorld_met (os : Os) (args : Array Value) : laidMet Tryd.prog Rows.fnExactCodeTextRow.laid ((laidWorld os).forCall (fun _ _ => 0) ⟨#[], args, []⟩).memory :=
  laidMet_of_run' 8 (by kernel_rfl) (by kernel_rfl)

theorem fnExactCodeText_lifted (os : Os) (started : os.Started) (H : Type) (enc : TypeId × Value → H) :
    ReturnsInHanded {} Tryd.checked os 3 .any (fun w args => (Rows.fnExactCodeTextSpec.pre enc Tryd.prog Tryd.f3 Rows.fnExactCodeTextRow.domain false w args ∧ laidMet Tryd.prog Rows.fnExactCodeTextRow.laid w) ∧ sizedMet enc Tryd.prog Tryd.f3 (OpenSpec.ofChange Rows.fnExactCodeTextSpec) false w args)
      (Rows.fnExactCodeTextSpec.post enc Tryd.prog Tryd.f3 false true false false) := by
  refine returnsInHanded_both (C := Tryd.checked) (X := fun w _ => laidMet Tryd.prog Rows.fnExactCodeTextRow.laid w) (fun _ _ _ hh h => h.of_heap hh) tryOwn started (by kernel_rfl) Tryd.func3
    (ChangeSpec.witness_at (enc := enc) (C := Tryd.checked) (os := os) (X := fun w _ => laidMet Tryd.prog Rows.fnExactCodeTextRow.laid w) false (laidWorld os) #[.agg #[.int .i64 0, .int .i64 0, .slice none 0 0, .slice none 0 0, .slice none 0 0]] 8 rfl (by kernel_rfl) (by kernel_rfl) (by kernel_rfl) (by kernel_rfl) (by kernel_rfl) (laidWorld_met os _)) ?_
  intro W base args ds gs before hval hW hsh hL
  refine law_callsL (Λ := LadC) (P := Tryd.prog) (S := [26, 66, 68, 23, 24, 22, 3]) tryLaid (by kernel_rfl) (by kernel_rfl) (by kernel_rfl) (tb := 4) (by kernel_rfl) (by kernel_rfl) ?_ ?_ hval hW (lad_of hL)
  · intro ds gs hd hg
    match ds, gs, hd, hg with
    | [_], [_], _, _ => rfl
  · intro xs h
    change RdL Tryd.prog [26] xs at h
    match xs, h with
    | [x], ⟨h1, _⟩ =>
      obtain ⟨c, rfl, hc⟩ := rd_code h1
      exact lawCodeText_fun c hc

theorem fnExactCodeText_holds : Rows.FnExactCodeTextSaid :=
  OpenClaim.holds_of_wide 3 Tryd.f3 rfl rfl rfl rfl rfl rfl rfl ⟨rfl, rfl, rfl, rfl, rfl⟩ rfl rfl rfl rfl rfl (by kernel_rfl) Tryd.func3 (by kernel_rfl)
    (of_decide_eq_true (by kernel_rfl)) (by unfold Func.isWrapper; first | (rw [if_pos (by decide +kernel)]; kernel_rfl) | (rw [if_neg (by decide +kernel)]; exact ⟨rfl, rfl⟩))
    (fun os started H enc _ => fnExactCodeText_lifted os started H enc)

theorem fnExactCodeText_card : Rows.FnExactCodeTextCardSaid :=
  Claim7.holds_tied_plain_at .later [] [.data, .data, .data, .widerDeep] true (true, "595d51b04f260ec490b8ef07b69c5ccb0fa8a7027f8d7ec461d488519532cb0c") true
    fnExactCodeText_holds (fun _ h => by cases h) (by kernel_rfl) (fun _ h => by cases h) fnExactCodeText_row_tie rfl ⟨rfl, rfl⟩ (by kernel_rfl) rfl
    (fun f fn hf hfn => by
      obtain rfl : f = 3 := Option.some.inj ((show Tryd.prog.funcNamed "loop.example/g00745/laws.FnExactCodeText" = some 3 by kernel_rfl).symm.trans hf) |>.symm
      obtain rfl : fn = Tryd.f3 := (Option.some.inj (Tryd.func3.symm.trans hfn)).symm
      exact ⟨by kernel_rfl, fun j t ht => by
        have h3 : t = 26 := by
          rcases j with _ | j
          · simpa using ht.symm
          · simp at ht
        subst h3
        exact (show Tryd.prog.wantsStandIn 26 = false by kernel_rfl)⟩)
    (by kernel_rfl)
end Go.Proofs.YtafjkelehnpfcaaDoor
