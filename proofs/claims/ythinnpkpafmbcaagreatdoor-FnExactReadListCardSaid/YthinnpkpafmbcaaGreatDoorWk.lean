/- Every call of FnExactReadList returns true, and what it was given reads as it did, where the listed variables lie as they are laid: the given statement, for every input; and its card. -/
import Derived.Test.YthinnpkpafmbcaaGreatDoorWd
import Derived.Test.YthinnpkpafmbcaaGreatDoorMe
import Derived.Test.YthinnpkpafmbcaaGreatDoorRows
import Derived.Test.YthinnpkpafmbcaaGreatDoorTie
import Derived.Test.YthinnpkpafmbcaaGreatDoorCards
import Derived.Stop.LaidErr
import Derived.LaidLaws
import Derived.SevenTiedAt
set_option linter.unusedVariables false
set_option linter.unusedSimpArgs false
set_option maxRecDepth 100000
namespace Go.Proofs.YthinnpkpafmbcaaGreatDoor
open Go.ChangeShapes Go.WideShapes Go.ChangeAt Go.RowKit Go.Eng
theorem tryOwn : ownKnob Tryz.prog.godebug = none := by kernel_rfl
theorem Mz : laidOutB Tryz.prog = true := by kernel_rfl
theorem gSyn : Tryz.prog.globalNamed "strconv.ErrSyntax" = some 4 := by kernel_rfl
theorem gRng : Tryz.prog.globalNamed "strconv.ErrRange" = some 5 := by kernel_rfl
theorem gPow : Tryz.prog.globalNamed "internal/strconv.uint64pow10" = some 6 := by kernel_rfl
theorem starE : "*" ++ "errors.errorString" = "*errors.errorString" := by decide
theorem rowE (u : TypeId) (h : Tryz.prog.typeName? 3 u = some "*errors.errorString") : u = 207 :=
 typeName_ptr_named (nm := "errors.errorString") (by rw [starE]; kernel_rfl) (by kernel_rfl) (by decide) u (by rw [starE]; exact h)
theorem lad_of {W : World} (hL : laidMet Tryz.prog Rows.fnExactReadListRow.laid W) (hsh : W.ShapedOpen Tryz.prog) : Lad W (fun b => b < W.heap.size) := by
 have h3 : laidMet Tryz.prog _ W := hL.tail.tail
 have h4 : laidMet Tryz.prog _ W := h3.tail.tail
 have h5 : laidMet Tryz.prog _ W := h4.tail
 have h6 : laidMet Tryz.prog [("loop.example/g00745/impl.insWords", Rows.laid_loop_example_g00745_impl_insWords), ("unicode/utf8.first", Rows.laid_unicode_utf8_first)] W := h5.tail
 have ht : Lib.TabIs Tryz.prog W "internal/strconv.uint64pow10" .u64 Lib.pow10Tab :=
  Lib.tabIs_of_head (n := 20) (t := 200) (e := 88) gPow (by kernel_rfl) (by kernel_rfl) (by kernel_rfl) (by kernel_rfl) (by kernel_rfl) h3
 obtain ⟨a1, s1, hr, -, -, -⟩ := laid_sentinel h4 gRng (ti := 84) (ms := #[("Error", 92)]) (by kernel_rfl) (by kernel_rfl) rowE (te := 209) (f := { name := "s", type := 9, offset := 0, embedded := false, tag := "", pkgPath := "errors", byteOffset := 0 }) (by kernel_rfl) (by kernel_rfl) rfl rfl (by kernel_rfl) (by kernel_rfl) (by kernel_rfl)
 obtain ⟨a2, s2, hs, -, -, -⟩ := laid_sentinel h5 gSyn (ti := 84) (ms := #[("Error", 92)]) (by kernel_rfl) (by kernel_rfl) rowE (te := 209) (f := { name := "s", type := 9, offset := 0, embedded := false, tag := "", pkgPath := "errors", byteOffset := 0 }) (by kernel_rfl) (by kernel_rfl) rfl rfl (by kernel_rfl) (by kernel_rfl) (by kernel_rfl)
 have hw : W.var? Tryz.prog "loop.example/g00745/impl.insWords" = some wordsV.toArray := by
  obtain ⟨ps, ⟨g, t, cs, fuel, p, q, hg, hty, hv, hd, _, _⟩, _⟩ := h6
  obtain rfl := Option.some.inj (gWords.symm.trans hg)
  obtain rfl := Option.some.inj ((show (Tryz.prog.globals[0]?).map (·.type) = some 127 by kernel_rfl).symm.trans hty)
  have hc := Gh (n := 19) (e := 9) (ls := wordsL) (by kernel_rfl) (by kernel_rfl) (by kernel_rfl) (by kernel_rfl) hd
  rw [hv]
  congr 1
  rw [← Array.toArray_toList (xs := cs), hc];rfl
 refine ⟨?_, hw, Tryz.laysM145.s1_3 W hsh, ht, ⟨_, _, hs⟩, _, _, hr⟩
 have hw2 := hw
 unfold World.var? at hw2;simp only [gWords, Option.bind_some] at hw2
 by_cases hlt : 0 < W.heap.size
 ·exact hlt
 ·rw [Array.getElem?_eq_none (by omega)] at hw2; cases hw2
/-! One start that fits. -/
def litV : DataW Unit → Value
 | .lit (.int k z) => .int k z
 | .lit (.string s) => .string ⟨⟨s⟩⟩
 | _ => .nilIface
def litsL : DataW Unit → List Value
 | .agg l => l.map litV
 | x => [litV x]
def Jt : DataW Unit → Array Value
 | .agg l => (l.flatMap litsL).toArray
 | _ => #[]
def Mg (g : Nat) (arr : Array Value) (h : Array Obj) : Array Obj := h.modify g fun
 | .cells _ t fz => .cells arr t fz
 | o => o
noncomputable def low : Nat := (World.holding Tryz.prog default ⟨#[], #[], []⟩).heap.size
noncomputable def laidWorld (os : Os) : World :=
 let w0 := World.holding Tryz.prog os ⟨#[.cells #[.string ⟨⟨[105, 110, 118, 97, 108, 105, 100, 32, 115, 121, 110, 116, 97, 120]⟩⟩] 209, .cells #[.string ⟨⟨[118, 97, 108, 117, 101, 32, 111, 117, 116, 32, 111, 102, 32, 114, 97, 110, 103, 101]⟩⟩] 209], #[], []⟩
 { w0 with heap := Mg 4 #[.iface 207 (.pointer (some ⟨low, 0, none⟩))] (Mg 5 #[.iface 207 (.pointer (some ⟨low + 1, 0, none⟩))] (Mg 6 (Jt Rows.laid_internal_strconv_uint64pow10) (Mg 8 (Jt Rows.laid_math_bits_deBruijn32tab) (Mg 9 (Jt Rows.laid_math_bits_deBruijn64tab) (Mg 0 (Jt Rows.laid_loop_example_g00745_impl_insWords) (Mg 2 (Jt Rows.laid_unicode_utf8_first) (Mg 3 (Jt Rows.laid_unicode_utf8_acceptRanges) w0.heap))))))) }
theorem GN (os : Os) (args : Array Value) : laidMet Tryz.prog Rows.fnExactReadListRow.laid ((laidWorld os).forCall (fun _ _ => 0) ⟨#[], args, []⟩).memory :=
 laidMet_of_run' 8 (by kernel_rfl) (by kernel_rfl)
theorem Cb (os : Os) (started : os.Started) (H : Type) (enc : TypeId × Value → H) :
  ReturnsInHanded {} Tryz.checked os 3 .any (fun w args => (Rows.fnExactReadListSpec.pre enc Tryz.prog Tryz.f3 Rows.fnExactReadListRow.domain false w args ∧ laidMet Tryz.prog Rows.fnExactReadListRow.laid w) ∧ sizedMet enc Tryz.prog Tryz.f3 (OpenSpec.ofChange Rows.fnExactReadListSpec) false w args)
   (Rows.fnExactReadListSpec.post enc Tryz.prog Tryz.f3 false true false false) := by
 refine C4 (C := Tryz.checked) (X := fun w _ => laidMet Tryz.prog Rows.fnExactReadListRow.laid w) (fun _ _ _ hh h => h.of_heap hh) tryOwn started (by kernel_rfl) Tryz.func3
  (ChangeSpec.witness_at (enc := enc) (C := Tryz.checked) (os := os) (X := fun w _ => laidMet Tryz.prog Rows.fnExactReadListRow.laid w) false (laidWorld os) #[.string ⟨#[]⟩] 8 rfl (by kernel_rfl) (by kernel_rfl) (by kernel_rfl) (by kernel_rfl) (by kernel_rfl) (GN os _)) ?_
 intro W base args ds gs before hval hW hsh hL;refine Ju (Λ := Lad) (P := Tryz.prog) (S := [9, 4]) Mz (by kernel_rfl) (by kernel_rfl) (by kernel_rfl) (tb := 4) (by kernel_rfl) (by kernel_rfl) ?_ ?_ hval hW (lad_of hL hsh)
 ·intro ds gs hd hg
  match ds, gs, hd, hg with
  | [_], [_], _, _ => rfl
 ·intro xs h
  change RdL Tryz.prog [9] xs at h
  match xs, h with
  | [x], ⟨h1, _⟩ =>
   obtain ⟨⟨⟨l⟩⟩, rfl, _⟩ := rd_str (by kernel_rfl) h1
   exact Ex l
theorem Ci : Rows.FnExactReadListSaid :=
 OpenClaim.holds_of_wide 3 Tryz.f3 rfl rfl rfl rfl rfl rfl rfl ⟨rfl, rfl, rfl, rfl, rfl⟩ rfl rfl rfl rfl rfl (by kernel_rfl) Tryz.func3 (by kernel_rfl)
  (of_decide_eq_true (by kernel_rfl)) (by unfold Func.isWrapper; first | (rw [if_pos (by decide +kernel)]; kernel_rfl) | (rw [if_neg (by decide +kernel)]; exact ⟨rfl, rfl⟩))
  (fun os started H enc _ => Cb os started H enc)
theorem fnExactReadList_card : Rows.FnExactReadListCardSaid :=
 Claim7.holds_tied_plain_at .later [] [.data, .data, .data, .data, .sentinel, .sentinel, .widerDeep, .pinned] true (true, "6cd126451fa01d9b3399d5c02d3c3e96e9cca27fce1bff19e2fb7610cbbb9265") true
  Ci (fun _ h => by cases h) (by kernel_rfl) (fun _ h => by cases h) fnExactReadList_row_tie rfl ⟨rfl, rfl⟩ (by kernel_rfl) rfl
  (fun f fn hf hfn => by
   obtain rfl : f = 3 := Option.some.inj ((show Tryz.prog.funcNamed "loop.example/g00745/laws.FnExactReadList" = some 3 by kernel_rfl).symm.trans hf) |>.symm
   obtain rfl : fn = Tryz.f3 := (Option.some.inj (Tryz.func3.symm.trans hfn)).symm
   exact ⟨by kernel_rfl, fun j t ht => by
    have h3 : t = 9 := by
     rcases j with _ | j
     ·simpa using ht.symm
     ·simp at ht
    subst h3
    exact (show Tryz.prog.wantsStandIn 9 = false by kernel_rfl)⟩)
  (by kernel_rfl)
end Go.Proofs.YthinnpkpafmbcaaGreatDoor
