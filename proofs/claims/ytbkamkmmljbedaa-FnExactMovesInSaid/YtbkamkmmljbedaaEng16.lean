/- A slice that is written out of data that is only read, and is itself only read. -/
import Derived.Test.YtbkamkmmljbedaaEng15
set_option linter.unusedVariables false
set_option linter.unusedSimpArgs false
namespace Go.Eng
open Go.RowKit

section
variable {P : Program} {c : Ctx} {s : St} {Q : Exit → St → Prop} {ops : Array Oper} {rest : List Oper} {o : Oper}

def PartsF (fr : List (Nat × D)) (n : Nat) : List Operand → List T → Prop
  | [], [] => True
  | x :: xs, y :: ys => (opd fr x = .t y ∧ y.cells.length = n) ∧ PartsF fr n xs ys
  | _, _ => False
theorem PartsF.nil' {fr : List (Nat × D)} {n : Nat} : PartsF fr n [] [] := trivial
theorem PartsF.cons' {fr : List (Nat × D)} {n : Nat} {x : Operand} {xs : List Operand} {y : T} {ys : List T} (h1 : opd fr x = .t y) (h2 : y.cells.length = n) (h : PartsF fr n xs ys) : PartsF fr n (x :: xs) (y :: ys) := ⟨⟨h1, h2⟩, h⟩

theorem relD_t_cells {w : World} {F : Nat → Prop} {β : Place} {v : Value} {y : T} {bs : List Nat} (h : RelD w F β [v] [.t y] bs) : RelL w F v.cells.toList y.cells := by
  cases h with
  | t h1 _ =>
    have h2 := relL_one' h1
    have : v.cells = #[v] := by
      cases v <;> simp_all [Value.oneCell', Value.cells]
    rw [this]
    cases h1 <;> simpa [T.cells] using (by constructor <;> assumption)
  | tagg h1 _ => simpa [Value.cells, T.cells] using h1

theorem parts_rel {a : Act} {w : World} {F β fb mb ow} (hi : Conc c s a w F β fb mb ow) {n : Nat} : ∀ {xs : List Operand} {ys : List T}, PartsF s.fr n xs ys →
    RelL w F (xs.flatMap fun x => (a.eval x).cells.toList) (ys.flatMap T.cells) ∧ (∀ y, y ∈ ys → y.cells.length = n) ∧ (∀ x, x ∈ xs → (a.eval x).cells.size = n) ∧ ys.length = xs.length
  | [], [], _ => ⟨.nil, by simp, by simp, rfl⟩
  | [], _ :: _, h => h.elim
  | _ :: _, [], h => h.elim
  | x :: xs, y :: ys, h => by
    obtain ⟨⟨h1, h2⟩, h3⟩ := h
    obtain ⟨b, hr, _⟩ := hi.opd x
    rw [h1] at hr
    have h4 := relD_t_cells hr
    obtain ⟨h5, h6, h7, h8⟩ := parts_rel hi h3
    refine ⟨h4.append h5, fun z hz => ?_, fun z hz => ?_, by simp [h8]⟩
    · rcases List.mem_cons.1 hz with rfl | hz
      · exact h2
      · exact h6 z hz
    · rcases List.mem_cons.1 hz with rfl | hz
      · have := h4.length
        rw [h2] at this
        simpa using this
      · exact h7 z hz

theorem run_build {Γ : Tys} (hΓ : Γ.ok P) {ty e len : Nat} {parts : Array (Nat × Operand)} {ti te : TI} (ho : o.op = .buildSlice ty len parts)
    (h1 : tyOf Γ ty = some ti) (h2 : ti.kind = .slice e) (h3 : tyOf Γ e = some te) (hp : parts.toList.map (·.1) = List.range len) (hl : len * te.size ≤ 16777216) (hzs : te.zero.length = te.size) {a : Act} (w : World)
    (r5 : ∀ x, x ∈ parts.toList.map (·.2) → (a.eval x).cells.size = te.size) :
    (execOp a.eval o).run P w = .ok (.value (.slice (some ⟨w.heap.size, 0, none⟩) len len)) (w.alloc (.cells ((parts.toList.map (·.2)).flatMap fun x => (a.eval x).cells.toList).toArray e)) := by
  obtain ⟨⟨i, zv, q1, q2, q3, q4, q5⟩, _⟩ := hΓ.get h3
  have hu := (hΓ.get h1).2
  rw [h2] at hu
  have hlen : parts.toList.length = len := by have := congrArg List.length hp; simpa using this
  have hvs : ∀ v, v ∈ (parts.toList.map (·.2)).map a.eval → v.cells.size = te.size := fun v hv => by
    obtain ⟨x, hx, rfl⟩ := List.mem_map.1 hv
    exact r5 x hx
  have hzip : (parts.map fun x => (x.1, a.eval x.2)).toList = (List.range' 0 ((parts.toList.map (·.2)).map a.eval).length).zip ((parts.toList.map (·.2)).map a.eval) := by
    rw [Array.toList_map, List.length_map, List.length_map, hlen, ← List.range_eq_range', ← hp]
    exact zip_parts a.eval parts.toList
  have hrep : ((parts.toList.map (·.2)).map a.eval).flatMap (fun v => v.cells.toList) = (parts.toList.map (·.2)).flatMap fun x => (a.eval x).cells.toList := by
    rw [List.flatMap_map]
  have hzv : zv.cells.size = te.size := by rw [← hzs, ← q5]; simp
  have hfill := fill_run te.size ((parts.toList.map (·.2)).map a.eval) 0 [] (madeCells zv.cells (len * te.size)).toList (by simp) (by simp [size_madeCells, hlen]) hvs
  rw [← hzip, hrep] at hfill
  simp only [List.nil_append, Array.toArray_toList] at hfill
  have h24 : (2 : Nat) ^ 24 = 16777216 := by decide
  have hnot : ¬ (len * te.size > 2 ^ 24) := by omega
  by_cases h0 : len * te.size = 0
  · have hmz : madeCells zv.cells (len * te.size) = #[] := by rw [h0]; simp [madeCells]
    rw [hmz] at hfill
    have hr0 : Array.range 0 = #[] := by apply Array.ext <;> simp
    simp only [execOp, ho, Instr.buildSlice, Sem.run_bind, run_underlying hu.2, Result.andThen_ok, run_sizeOf (hΓ.get h3), h0, hr0]
    simp at hfill ⊢
    simp [hr0, hfill, newRow]
  · have hmz : (Array.range (len * te.size)).map (zv.cells[· % zv.cells.size]!) = madeCells zv.cells (len * te.size) := rfl
    simp only [execOp, ho, Instr.buildSlice, Sem.run_bind, run_underlying hu.2, Result.andThen_ok, run_sizeOf (hΓ.get h3), if_neg hnot, if_neg h0, Sem.run_ite, Sem.run_pure]
    simp [zeroValue, typeInfo, q1, q4, madeCells] at hfill ⊢
    simp [hfill, newRow]

theorem WO_buildF {Γ : Tys} (hΓ : Γ.ok P) {ty e t len : Nat} {parts : Array (Nat × Operand)} {ti te : TI} (ys : List T) (hg : o.guard = none) (hd : o.dst = some t) (ht : t < c.n) (ho : o.op = .buildSlice ty len parts)
    (h1 : tyOf Γ ty = some ti) (h2 : ti.kind = .slice e) (h3 : tyOf Γ e = some te) (hp : parts.toList.map (·.1) = List.range len) (hl : len * te.size ≤ 16777216)
    (hy : PartsF s.fr te.size (parts.toList.map (·.2)) ys) (hzs : te.zero.length = te.size)
    (kk : WO P c ops rest ⟨(t, .t (.list te.size ys)) :: s.fr, s.M⟩ Q) : WO P c ops (o :: rest) s Q := by
  rintro a w ⟨F, β, fb, mb, ow, hi⟩
  obtain ⟨r1, r4, r5, r6⟩ := parts_rel hi hy
  have hrun := run_build hΓ ho h1 h2 h3 hp hl hzs w r5
  have hlen : parts.toList.length = len := by have := congrArg List.length hp; simpa using this
  have hyl : ys.length = len := by rw [r6, List.length_map, hlen]
  refine wpList_plain hg fun K hK => ?_
  unfold Oper.wp
  rw [hrun, Oper.upon_value, hd]
  have hb : Below w.heap.size w (w.alloc (.cells ((parts.toList.map (·.2)).flatMap fun x => (a.eval x).cells.toList).toArray e)) := (Below.refl _ w).alloc (Nat.le_refl _) _
  have hsz : (w.alloc (.cells ((parts.toList.map (·.2)).flatMap fun x => (a.eval x).cells.toList).toArray e)).heap.size = w.heap.size + 1 := by show (w.heap.push _).size = _; simp
  refine hK _ _ (kk _ _ ⟨fun b => F b ∨ b = w.heap.size, β, _, mb, _, hi.called ht hb (fun _ h => .inl h) (fun b h => ?_) ?_ List.nodup_nil (by simp)⟩)
  · rcases h with h | rfl
    · exact .inl h
    · exact .inr ⟨Nat.le_refl _, by rw [hsz]; omega⟩
  · refine .t ?_ .done
    have := RelL.list (w := w.alloc (.cells ((parts.toList.map (·.2)).flatMap fun x => (a.eval x).cells.toList).toArray e)) (F := fun b => F b ∨ b = w.heap.size) (b := w.heap.size) (o := 0) (cap := len) (n := te.size) (xs := ys) (fz := (0, 0)) (vs := []) (ts := [])
      (.inr rfl) (heap_alloc_new w _) (cs := (parts.toList.map (·.2)).flatMap fun x => (a.eval x).cells.toList) (fun k hk => by simp) r4 (by omega) (r1.mono (fun b hb => .inl hb) fun b hb => Below.heap_alloc w _ b (hi.fin b hb)) .nil
    rwa [hyl] at this

/-- nil, as data. -/
theorem Le.nilT {u : Nat} (n : Nat) (h1 : look s.fr u = .nil) : Le c s ⟨(u, .t (.list n [])) :: s.fr, s.M⟩ := by
  rintro a w ⟨F, β, fb, mb, ow, hi⟩
  refine ⟨F, β, fb, mb, ow, { hi with fr := fun v => ?_ }⟩
  show RelD w F β _ [if u = v then _ else _] _
  split
  · rename_i e
    subst e
    have h := hi.fr u
    rw [h1] at h
    generalize a.tmps.getD u undef = x at h
    generalize fb u = bs at h
    cases h with
    | nil h =>
      cases h
      exact .t (.none .nil) .done
  · exact hi.fr v

/-- Where branches meet. -/
def joinQ {α : Type} (S : α → St) (inv : α → Prop) (Q : Exit → St → Prop) : Exit → St → Prop
  | .normal, s => ∃ x, Sub (S x).fr s.fr ∧ SubM (S x).M s.M ∧ inv x
  | e, s => Q e s
theorem joinQ_n {α : Type} {S : α → St} {inv : α → Prop} (x : α) (h1 : Sub (S x).fr s.fr) (h2 : SubM (S x).M s.M) (h3 : inv x) : joinQ S inv Q .normal s := ⟨x, h1, h2, h3⟩
theorem joinQ_e {α : Type} {S : α → St} {inv : α → Prop} {id : Nat} (h : Q (.exit id) s) : joinQ S inv Q (.exit id) s := h
theorem joinQ_r {α : Type} {S : α → St} {inv : α → Prop} (h : Q .ret s) : joinQ S inv Q .ret s := h
theorem W_join {α : Type} {x y : Code} (ks km : List Nat) (fr : α → List (Nat × D)) (M : α → List (Nat × Blk)) (inv : α → Prop)
    (h : W P c x s (joinQ (fun a => ⟨fr a ++ keepF s.fr ks, M a ++ keepM s.M km⟩) inv Q)) (k : ∀ a, inv a → W P c y ⟨fr a ++ keepF s.fr ks, M a ++ keepM s.M km⟩ Q) : W P c (.seq x y) s Q := by
  refine W_seq (W_mono h fun e s' hq => ?_)
  cases e with
  | normal =>
    obtain ⟨a, h1, h2, h3⟩ := hq
    exact W_le (Le.sub h1 h2) (k a h3)
  | _ => exact hq
theorem W_joinN {α : Type} {x : Code} (ks km : List Nat) (fr : α → List (Nat × D)) (M : α → List (Nat × Blk)) (inv : α → Prop)
    (h : W P c x s (joinQ (fun a => ⟨fr a ++ keepF s.fr ks, M a ++ keepM s.M km⟩) inv Q)) (k : ∀ a, inv a → Q .normal ⟨fr a ++ keepF s.fr ks, M a ++ keepM s.M km⟩) : W P c x s Q := by
  intro a w hi
  refine Code.wp_mono ?_ (h a w hi)
  rintro e a' w' ⟨s', hi', hq⟩
  cases e with
  | normal =>
    obtain ⟨z, h1, h2, h3⟩ := hq
    exact ⟨_, Le.sub h1 h2 a' w' hi', k z h3⟩
  | _ => exact ⟨s', hi', hq⟩
theorem nodup1 (a : Nat) : [a].Nodup := by simp
end
end Go.Eng
