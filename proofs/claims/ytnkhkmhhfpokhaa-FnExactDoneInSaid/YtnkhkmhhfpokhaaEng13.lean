/- From a law's walk to the given statement: what was given is read into plain data, and reads behind the call as it did. -/
import Derived.Test.YtnkhkmhhfpokhaaEng12
import Derived.Test.YtnkhkmhhfpokhaaEng11
import Derived.ProofKit
set_option linter.unusedVariables false
set_option linter.unusedSimpArgs false
namespace Go.Eng
open Go.ChangeShapes Go.WideShapes Go.ChangeAt Go.RowKit

/-- What the arguments are read into. -/
def RdL (P : Program) : List TypeId → List T → Prop
  | [], [] => True
  | t :: ts, x :: xs => Rd P t x ∧ RdL P ts xs
  | _, _ => False

theorem TrodAll_rel {H : Type} {enc : TypeId × Value → H} {P : Program} {w : World} {base : Nat} {held : Bool} {sp : Nat → Bool} {S : List TypeId} (hS : plainB P S = true) : ∀ {ts : List TypeId} {vs : List Value} {ds : List (DataW H)} {ps : List MemPlace},
    DataW.TrodAll enc P w base sp held ts vs ds ps → (∀ (j : Nat) t v, ts[j]? = some t → vs[j]? = some v → (v.cells = #[v] ∨ ∃ cs, v = .agg cs) ∧ ((∃ fs, P.underlying t = some (.struct fs)) ↔ ∃ cs, v = .agg cs)) → (∀ t, t ∈ ts → t ∈ S) →
    ∃ xs : List T, RdL P ts xs ∧ RelD w (fun b => b < w.heap.size) (fun _ => none) vs (xs.map D.t) []
  | [], vs, ds, ps, h, _, _ => by
    obtain ⟨rfl, _, _⟩ := trodAll_nil h
    exact ⟨[], trivial, .done⟩
  | t :: ts, vs, ds, ps, h, hv, hts => by
    obtain ⟨v, vs', d, ds', p, q, rfl, rfl, rfl, hd, hrest⟩ := trodAll_cons h
    obtain ⟨h1, h2⟩ := hv 0 t v rfl rfl
    obtain ⟨x, hx, hrel⟩ := Trod_rel hS (hts t (List.mem_cons_self ..)) h1 h2 hd
    obtain ⟨xs, hxs, hrels⟩ := TrodAll_rel hS hrest (fun j t v ht hv' => hv (j + 1) t v ht hv') (fun t ht => hts t (List.mem_cons_of_mem _ ht))
    exact ⟨x :: xs, ⟨hx, hxs⟩, hrel.cons' hrels⟩

theorem TrodAll_again {H : Type} {enc : TypeId × Value → H} {P : Program} (hl : laidOutB P = true) {W W' : World} (hb : Below W.heap.size W W') : ∀ {ts : List TypeId} {vs : List Value} {ds : List (DataW H)} {ps : List MemPlace},
    DataW.TrodAll enc P W 0 (fun _ => true) true ts vs ds ps → (∀ t, t ∈ ts → P.readableRec t = true ∧ t < P.types.size) → (∀ x, x ∈ ps → x.block < W.heap.size) →
    DataW.TrodAll enc P W' 0 (fun b => decide (b < W.heap.size)) true ts vs ds ps
  | [], vs, ds, ps, h, _, _ => by
    obtain ⟨rfl, rfl, rfl⟩ := trodAll_nil h
    trivial
  | t :: ts, vs, ds, ps, h, hr, hlt => by
    obtain ⟨v, vs', d, ds', p, q, rfl, rfl, rfl, hd, hrest⟩ := trodAll_cons h
    obtain ⟨h1, h2⟩ := hr t (List.mem_cons_self ..)
    exact ⟨p, q, Below.trod hl h1 h2 hd hb (fun x hx => hlt x (List.mem_append_left _ hx)), TrodAll_again hl hb hrest (fun t ht => hr t (List.mem_cons_of_mem _ ht)) (fun x hx => hlt x (List.mem_append_right _ hx)), rfl⟩

theorem trodAll_len {H : Type} {enc : TypeId × Value → H} {P : Program} {w : World} {base : Nat} {held : Bool} {sp : Nat → Bool} : ∀ {ts : List TypeId} {vs : List Value} {ds : List (DataW H)} {ps : List MemPlace},
    DataW.TrodAll enc P w base sp held ts vs ds ps → ds.length = ts.length
  | [], vs, ds, ps, h => by obtain ⟨_, rfl, _⟩ := trodAll_nil h; rfl
  | t :: ts, vs, ds, ps, h => by
    obtain ⟨v, vs', d, ds', p, q, rfl, rfl, rfl, hd, hrest⟩ := trodAll_cons h
    simp [trodAll_len hrest]

theorem okWide_plain {P : Program} {S : List TypeId} (hS : plainB P S = true) {w : World} {base : Nat} {t : TypeId} {v : Value} (ht : t ∈ S) (h : Value.okWide P w .any base t v) :
    (v.cells = #[v] ∨ ∃ cs, v = .agg cs) ∧ ((∃ fs, P.underlying t = some (.struct fs)) ↔ ∃ cs, v = .agg cs) := by
  unfold plainB at hS
  rw [List.all_eq_true] at hS
  have h1 := hS t ht
  split at h1
  · rename_i k hu
    simp only [Value.okWide, hu, Cell.okWide] at h
    cases v <;> simp_all [Cell.ok, Value.cells]
  · rename_i hu
    simp only [Value.okWide, hu, Cell.okWide] at h
    cases v <;> simp_all [Cell.ok, Value.cells]
  · rename_i hu
    simp only [Value.okWide, hu, Cell.okWide] at h
    cases v <;> simp_all [Cell.ok, Value.cells]
  · rename_i e hu
    obtain ⟨a, len, cap, rfl⟩ := okWide_slice hu h
    simp [hu, Value.cells]
  · rename_i fs hu
    obtain ⟨cs, rfl, _⟩ := okWide_struct hu h
    exact ⟨.inr ⟨_, rfl⟩, ⟨fun _ => ⟨_, rfl⟩, fun _ => ⟨_, hu⟩⟩⟩
  · cases h1

/-- A law that answers yes of whatever plain data: its row's contract. -/
theorem law_calls {H : Type} {enc : TypeId × Value → H} {P : Program} {f : FuncId} {fn : Func} {s : ChangeSpec} (hl : laidOutB P = true) {S : List TypeId} (hS : plainB P S = true)
    (hts : fn.params.toList.all (fun t => S.contains t && P.readableRec t && decide (t < P.types.size)) = true) (hv : s.vars = []) {tb : TypeId} (hr : fn.resultTypes = #[tb]) (hb : P.underlying tb = some .bool)
    (hs : ∀ ds : List (DataW H), ds.length = fn.params.toList.length → s.fn H ds = { results := [.lit (.bool true)], args := ds })
    (hf : ∀ xs : List T, RdL P fn.params.toList xs → Fun P f (xs.map .t) (.t (.bool true)))
    {W : World} {base : Nat} {args : Array Value} {ds gs : List (DataW H)} {before : List MemPlace} (hval : ∀ (j : Nat) t v, fn.params[j]? = some t → args[j]? = some v → Value.okWide P W .any base t v)
    (hW : DataW.Whole enc P fn.params.toList s.vars false W args.toList ds gs before) :
    Calls P f args W fun e W' => ∃ v, e = .returned v ∧ s.post enc P fn false true false false W args v W' := by
  have hW' := hW
  obtain ⟨p, q, hA, hV, rfl, hfz, hnd⟩ := hW
  rw [hv] at hV
  obtain ⟨rfl, rfl⟩ := trodVars_none hV
  rw [List.all_eq_true] at hts
  have hts' : ∀ t, t ∈ fn.params.toList → t ∈ S ∧ P.readableRec t = true ∧ t < P.types.size := fun t ht => by
    have := hts t ht
    simp only [Bool.and_eq_true, decide_eq_true_eq, List.contains_iff_mem] at this
    exact ⟨this.1.1, this.1.2, this.2⟩
  obtain ⟨xs, hx, hrel⟩ := TrodAll_rel hS hA (fun j t v ht hv' => okWide_plain hS (hts' t (List.mem_of_getElem? ht)).1 (hval j t v (by simpa using ht) (by simpa using hv'))) (fun t ht => (hts' t ht).1)
  obtain ⟨hc, hp⟩ := hf xs hx
  refine (hp W _ args (fun b h => h) hrel).mono fun e W' ⟨v, F', bs, he, hbe, hF, hF2, hv', hnd', hbs⟩ => ?_
  have e1 := relD_t hv'
  subst e1
  refine ⟨_, he, ds, [], p ++ [], [], p, [], hW', ?_, ?_, ?_, hbe.frame _, fun h => by cases h⟩
  · rw [List.append_nil, hs ds (trodAll_len hA), hr]
    exact trodAll_mk1 (shut_bool hb true)
  · rw [List.append_nil, hs ds (trodAll_len hA)]
    exact TrodAll_again hl hbe hA (fun t ht => (hts' t ht).2) (fun x hx => hW'.lt x (by simpa using hx))
  · rw [List.append_nil, hs ds (trodAll_len hA), hv]
    first | exact rfl | exact trivial | exact ⟨rfl, rfl⟩
end Go.Eng
