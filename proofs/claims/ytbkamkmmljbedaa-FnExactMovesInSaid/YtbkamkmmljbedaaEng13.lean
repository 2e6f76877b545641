/- From a law's walk to the given statement: what was given is read into plain data, and reads behind the call as it did. -/
import Derived.Test.YtbkamkmmljbedaaEng12
import Derived.Test.YtbkamkmmljbedaaEng11
import Derived.ProofKit
set_option linter.unusedVariables false
set_option linter.unusedSimpArgs false
namespace Go.Eng
open Go.ChangeShapes Go.WideShapes Go.ChangeAt Go.RowKit

/-- What the arguments are read into. -/
def RdL (P : Program) : List TypeId → List T → Prop
  | [], [] => True
  | t :: ts, x :: xs => Rd P t x ∧ RdL P ts xs
  | _, _ => False

theorem TrodAll_rel {H : Type} {enc : TypeId × Value → H} {P : Program} {w : World} {base : Nat} {held : Bool} {sp : Nat → Bool} {S : List TypeId} (hS : plainB P S = true) : ∀ {ts : List TypeId} {vs : List Value} {ds : List (DataW H)} {ps : List MemPlace},
    DataW.TrodAll enc P w base sp held ts vs ds ps → (∀ (j : Nat) t v, ts[j]? = some t → vs[j]? = some v → (v.cells = #[v] ∨ ∃ cs, v = .agg cs) ∧ ((∃ fs, P.underlying t = some (.struct fs)) ↔ ∃ cs, v = .agg cs)) → (∀ t, t ∈ ts → t ∈ S) →
    ∃ xs : List T, RdL P ts xs ∧ RelD w (fun b => b < w.heap.size) (fun _ => none) vs (xs.map D.t) []
  | [], vs, ds, ps, h, _, _ => by
    obtain ⟨rfl, _, _⟩ := trodAll_nil h
    exact ⟨[], trivial, .done⟩
  | t :: ts, vs, ds, ps, h, hv, hts => by
    obtain ⟨v, vs', d, ds', p, q, rfl, rfl, rfl, hd, hrest⟩ := trodAll_cons h
    obtain ⟨h1, h2⟩ := hv 0 t v rfl rfl
    obtain ⟨x, hx, hrel⟩ := Trod_rel hS (hts t (List.mem_cons_self ..)) h1 h2 hd
    obtain ⟨xs, hxs, hrels⟩ := TrodAll_rel hS hrest (fun j t v ht hv' => hv (j + 1) t v ht hv') (fun t ht => hts t (List.mem_cons_of_mem _ ht))
    exact ⟨x :: xs, ⟨hx, hxs⟩, hrel.cons' hrels⟩

theorem TrodAll_again {H : Type} {enc : TypeId × Value → H} {P : Program} (hl : laidOutB P = true) {W W' : World} (hb : Below W.heap.size W W') : ∀ {ts : List TypeId} {vs : List Value} {ds : List (DataW H)} {ps : List MemPlace},
    DataW.TrodAll enc P W 0 (fun _ => true) true ts vs ds ps → (∀ t, t ∈ ts → P.readableRec t = true ∧ t < P.types.size) → (∀ x, x ∈ ps → x.block < W.heap.size) →
    DataW.TrodAll enc P W' 0 (fun b => decide (b < W.heap.size)) true ts vs ds ps
  | [], vs, ds, ps, h, _, _ => by
    obtain ⟨rfl, rfl, rfl⟩ := trodAll_nil h
    trivial
  | t :: ts, vs, ds, ps, h, hr, hlt => by
    obtain ⟨v, vs', d, ds', p, q, rfl, rfl, rfl, hd, hrest⟩ := trodAll_cons h
    obtain ⟨h1, h2⟩ := hr t (List.mem_cons_self ..)
    exact ⟨p, q, Below.trod hl h1 h2 hd hb (fun x hx => hlt x (List.mem_append_left _ hx)), TrodAll_again hl hb hrest (fun t ht => hr t (List.mem_cons_of_mem _ ht)) (fun x hx => hlt x (List.mem_append_right _ hx)), rfl⟩

theorem trodAll_len {H : Type} {enc : TypeId × Value → H} {P : Program} {w : World} {base : Nat} {held : Bool} {sp : Nat → Bool} : ∀ {ts : List TypeId} {vs : List Value} {ds : List (DataW H)} {ps : List MemPlace},
    DataW.TrodAll enc P w base sp held ts vs ds ps → ds.length = ts.length
  | [], vs, ds, ps, h => by obtain ⟨_, rfl, _⟩ := trodAll_nil h; rfl
  | t :: ts, vs, ds, ps, h => by
    obtain ⟨v, vs', d, ds', p, q, rfl, rfl, rfl, hd, hrest⟩ := trodAll_cons h
    simp [trodAll_len hrest]

theorem okWide_plain {P : Program} {S : List TypeId} (hS : plainB P S = true) {w : World} {base : Nat} {t : TypeId} {v : Value} (ht : t ∈ S) (h : Value.okWide P w .any base t v) :
    (v.cells = #[v] ∨ ∃ cs, v = .agg cs) ∧ ((∃ fs, P.underlying t = some (.struct fs)) ↔ ∃ cs, v = .agg cs) := by
  unfold plainB at hS
  rw [List.all_eq_true] at hS
  have h1 := hS t ht
  split at h1
  · rename_i k hu
    simp only [Value.okWide, hu, Cell.okWide] at h
    cases v <;> simp_all [Cell.ok, Value.cells]
  · rename_i hu
    simp only [Value.okWide, hu, Cell.okWide] at h
    cases v <;> simp_all [Cell.ok, Value.cells]
  · rename_i hu
    simp only [Value.okWide, hu, Cell.okWide] at h
    cases v <;> simp_all [Cell.ok, Value.cells]
  · rename_i e hu
    obtain ⟨a, len, cap, rfl⟩ := okWide_slice hu h
    simp [hu, Value.cells]
  · rename_i fs hu
    obtain ⟨cs, rfl, _⟩ := okWide_struct hu h
    exact ⟨.inr ⟨_, rfl⟩, ⟨fun _ => ⟨_, rfl⟩, fun _ => ⟨_, hu⟩⟩⟩
  · cases h1

/-- A law that answers yes of whatever plain data: its row's contract. -/
theorem law_calls {H : Type} {enc : TypeId × Value → H} {P : Program} {f : FuncId} {fn : Func} {s : ChangeSpec} (hl : laidOutB P = true) {S : List TypeId} (hS : plainB P S = true)
    (hts : fn.params.toList.all (fun t => S.contains t && P.readableRec t && decide (t < P.types.size)) = true) (hv : s.vars = []) {tb : TypeId} (hr : fn.resultTypes = #[tb]) (hb : P.underlying tb = some .bool)
    (hs : ∀ ds : List (DataW H), ds.length = fn.params.toList.length → s.fn H ds = { results := [.lit (.bool true)], args := ds })
    (hf : ∀ xs : List T, RdL P fn.params.toList xs → Fun P f (xs.map .t) (.t (.bool true)))
    {W : World} {base : Nat} {args : Array Value} {ds gs : List (DataW H)} {before : List MemPlace} (hval : ∀ (j : Nat) t v, fn.params[j]? = some t → args[j]? = some v → Value.okWide P W .any base t v)
    (hW : DataW.Whole enc P fn.params.toList s.vars false W args.toList ds gs before) :
    Calls P f args W fun e W' => ∃ v, e = .returned v ∧ s.post enc P fn false true false false W args v W' := by
  have hW' := hW
  obtain ⟨p, q, hA, hV, rfl, hfz, hnd⟩ := hW
  rw [hv] at hV
  obtain ⟨rfl, rfl⟩ := trodVars_none hV
  rw [List.all_eq_true] at hts
  have hts' : ∀ t, t ∈ fn.params.toList → t ∈ S ∧ P.readableRec t = true ∧ t < P.types.size := fun t ht => by
    have := hts t ht
    simp only [Bool.and_eq_true, decide_eq_true_eq, List.contains_iff_mem] at this
    exact ⟨this.1.1, this.1.2, this.2⟩
  obtain ⟨xs, hx, hrel⟩ := TrodAll_rel hS hA (fun j t v ht hv' => okWide_plain hS (hts' t (List.mem_of_getElem? ht)).1 (hval j t v (by simpa using ht) (by simpa using hv'))) (fun t ht => (hts' t ht).1)
  obtain ⟨hc, hp⟩ := hf xs hx
  refine (hp W _ args (fun b h => h) hrel).mono fun e W' ⟨v, F', bs, he, hbe, hF, hF2, hv', hnd', hbs⟩ => ?_
  have e1 := relD_t hv'
  subst e1
  refine ⟨_, he, ds, [], p ++ [], [], p, [], hW', ?_, ?_, ?_, hbe.frame _, fun h => by cases h⟩
  · rw [List.append_nil, hs ds (trodAll_len hA), hr]
    exact trodAll_mk1 (shut_bool hb true)
  · rw [List.append_nil, hs ds (trodAll_len hA)]
    exact TrodAll_again hl hbe hA (fun t ht => (hts' t ht).2) (fun x hx => hW'.lt x (by simpa using hx))
  · rw [List.append_nil, hs ds (trodAll_len hA), hv]
    first | exact rfl | exact trivial | exact ⟨rfl, rfl⟩

def structB (P : Program) (t : TypeId) (ts : List TypeId) : Bool := match P.underlying t with
  | some (.struct fs) => fs.toList.map (·.type) == ts
  | _ => false
theorem rdL_of {P : Program} : ∀ {fs : List Field} {xs : List T}, xs.length = fs.length → (∀ (i : Nat) f x, fs[i]? = some f → xs[i]? = some x → Rd P f.type x) → RdL P (fs.map (·.type)) xs
  | [], [], _, _ => trivial
  | [], _ :: _, h, _ => by simp at h
  | _ :: _, [], h, _ => by simp at h
  | f :: fs, x :: xs, h, hr => ⟨hr 0 f x rfl rfl, rdL_of (by simpa using h) fun i f x h1 h2 => hr (i + 1) f x h1 h2⟩
theorem rd_struct {P : Program} {t : TypeId} {ts : List TypeId} {x : T} (h : structB P t ts = true) (hr : Rd P t x) : ∃ xs, x = .agg (xs.flatMap T.cells) ∧ RdL P ts xs := by
  unfold structB at h
  split at h
  · rename_i fs hu
    rw [beq_iff_eq] at h
    subst h
    cases hr with
    | struct hu' h1 h2 => rw [hu] at hu'; cases hu'; exact ⟨_, rfl, rdL_of h1 h2⟩
    | int h _ => rw [hu] at h; cases h
    | bool h => rw [hu] at h; cases h
    | str h _ => rw [hu] at h; cases h
    | slice h _ _ _ => rw [hu] at h; cases h
  · cases h
theorem rd_slice {P : Program} {t e : TypeId} {x : T} (hu : P.underlying t = some (.slice e)) {n : Nat} (hn : P.cellsOf e = n) (h : Rd P t x) : ∃ l : List T, x = .list n l ∧ l.length ≤ 9223372036854775807 ∧ ∀ y, y ∈ l → Rd P e y := by
  cases h with
  | slice hu' h1 h2 h3 =>
    rw [hu] at hu'; cases hu'; subst h1; subst hn
    exact ⟨_, rfl, h2, h3⟩
  | int h _ => rw [hu] at h; cases h
  | bool h => rw [hu] at h; cases h
  | str h _ => rw [hu] at h; cases h
  | struct h _ _ => rw [hu] at h; cases h
theorem rd_int {P : Program} {t : TypeId} {k : IntKind} {x : T} (hu : P.underlying t = some (.int k)) (h : Rd P t x) : ∃ n : Int, x = .v (.int k n) ∧ (Lit.int k n).wf = true := by
  cases h with
  | int hu' h1 => rw [hu] at hu'; cases hu'; exact ⟨_, rfl, h1⟩
  | slice h _ _ _ => rw [hu] at h; cases h
  | bool h => rw [hu] at h; cases h
  | str h _ => rw [hu] at h; cases h
  | struct h _ _ => rw [hu] at h; cases h
theorem rd_bool {P : Program} {t : TypeId} {x : T} (hu : P.underlying t = some .bool) (h : Rd P t x) : ∃ b : Bool, x = T.bool b := by
  cases h with
  | bool h => exact ⟨_, rfl⟩
  | slice h _ _ _ => rw [hu] at h; cases h
  | int h _ => rw [hu] at h; cases h
  | str h _ => rw [hu] at h; cases h
  | struct h _ _ => rw [hu] at h; cases h
theorem rd_str {P : Program} {t : TypeId} {x : T} (hu : P.underlying t = some .string) (h : Rd P t x) : ∃ b : ByteArray, x = .v (.string b) ∧ b.size ≤ maxLen := by
  cases h with
  | str _ h => exact ⟨_, rfl, h⟩
  | slice h _ _ _ => rw [hu] at h; cases h
  | int h _ => rw [hu] at h; cases h
  | bool h => rw [hu] at h; cases h
  | struct h _ _ => rw [hu] at h; cases h
theorem map_of {α : Type} {p : T → Prop} {q : α → Prop} {g : α → T} : ∀ {l : List T}, (∀ y, y ∈ l → p y) → (∀ y, y ∈ l → p y → ∃ a, y = g a ∧ q a) → ∃ m : List α, l = m.map g ∧ ∀ a, a ∈ m → q a
  | [], _, _ => ⟨[], rfl, fun _ h => by cases h⟩
  | y :: l, h, hg => by
    obtain ⟨a, rfl, ha⟩ := hg y (List.mem_cons_self ..) (h y (List.mem_cons_self ..))
    obtain ⟨m, rfl, hm⟩ := map_of (fun z hz => h z (List.mem_cons_of_mem _ hz)) (fun z hz => hg z (List.mem_cons_of_mem _ hz))
    refine ⟨a :: m, rfl, fun b hb => ?_⟩
    rcases List.mem_cons.1 hb with rfl | hb
    · exact ha
    · exact hm b hb
/-- A slice's elements, one by one. -/
theorem rd_list {P : Program} {t e : TypeId} {x : T} {α : Type} {ok : α → Prop} {g : α → T} {n : Nat} (hu : P.underlying t = some (.slice e)) (hn : P.cellsOf e = n) (hg : ∀ y, Rd P e y → ∃ a, y = g a ∧ ok a) (h : Rd P t x) :
    ∃ l : List α, x = .list n (l.map g) ∧ l.length ≤ 9223372036854775807 ∧ ∀ a, a ∈ l → ok a := by
  obtain ⟨l, rfl, h1, h2⟩ := rd_slice hu hn h
  obtain ⟨m, rfl, hm⟩ := map_of (q := ok) (g := g) h2 fun y _ hy => hg y hy
  exact ⟨m, rfl, by simpa using h1, hm⟩

end Go.Eng
