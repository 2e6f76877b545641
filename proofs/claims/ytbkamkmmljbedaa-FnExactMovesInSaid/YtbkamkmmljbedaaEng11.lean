/- From a law's input, as the claim's form reads it, to data as the abstract machine reads it; and from the machine's answer to the claim. -/
import Derived.Test.YtbkamkmmljbedaaEng10
import Derived.ProofKit
set_option linter.unusedVariables false
set_option linter.unusedSimpArgs false
namespace Go.Eng
open Go.RowKit

/-- Data of a type. -/
inductive Rd (P : Program) : TypeId → T → Prop
  | int {t k n} : P.underlying t = some (.int k) → (Lit.int k n).wf = true → Rd P t (.v (.int k n))
  | bool {t b} : P.underlying t = some .bool → Rd P t (.v (.bool b))
  | str {t} {s : ByteArray} : P.underlying t = some .string → s.size ≤ maxLen → Rd P t (.v (.string s))
  | slice {t e n} {xs : List T} : P.underlying t = some (.slice e) → n = P.cellsOf e → xs.length ≤ maxLen → (∀ x, x ∈ xs → Rd P e x) → Rd P t (.list n xs)
  | struct {t fs} {xs : List T} : P.underlying t = some (.struct fs) → xs.length = fs.toList.length → (∀ (i : Nat) f x, fs.toList[i]? = some f → xs[i]? = some x → Rd P f.type x) → Rd P t (.agg (xs.flatMap T.cells))

/-- The fields lie one behind the other. -/
def layB (P : Program) : List Field → Nat → Option Nat
  | [], o => some o
  | f :: fs, o => if f.offset == o then layB P fs (o + P.cellsOf f.type) else none

/-- A set of types of plain data: numbers, bools, texts, slices and structs of such. -/
def plainB (P : Program) (S : List TypeId) : Bool := S.all fun t => match P.underlying t with
  | some (.int _) => P.cellsOf t == 1
  | some .bool => P.cellsOf t == 1
  | some .string => P.cellsOf t == 1
  | some (.slice e) => P.cellsOf t == 1 && S.contains e && P.cellsOf e != 0
  | some (.struct fs) => layB P fs.toList 0 == some (P.cellsOf t) && fs.toList.all fun f => S.contains f.type
  | _ => false

theorem mapM_some {α β : Type} {f : α → Option β} : ∀ {l : List α} {r : List β}, l.mapM f = some r → r.length = l.length ∧ ∀ (i : Nat) x, l[i]? = some x → ∃ y, r[i]? = some y ∧ f x = some y
  | [], r, h => by simp at h; subst h; simp
  | x :: l, r, h => by
    rw [List.mapM_cons] at h
    cases hx : f x with
    | none => simp [hx] at h
    | some y =>
      cases hl : l.mapM f with
      | none => simp [hx, hl] at h
      | some ys =>
        simp [hx, hl] at h
        subst h
        obtain ⟨h1, h2⟩ := mapM_some hl
        refine ⟨by simp [h1], fun i z hz => ?_⟩
        cases i with
        | zero => simp at hz; subst hz; exact ⟨y, by simp, hx⟩
        | succ i =>
          obtain ⟨u, h3, h4⟩ := h2 i z (by simpa using hz)
          exact ⟨u, by simpa using h3, h4⟩

theorem cells_some {w : World} {base n : Nat} {a : Addr} {cs : List Value} (h : w.cells? base a n = some cs) : cs.length = n ∧ ∀ j, j < n → w.cell? (a.add j) = cs[j]? := by
  unfold World.cells? at h
  split at h
  · obtain ⟨h1, h2⟩ := mapM_some h
    simp only [List.length_range] at h1
    refine ⟨h1, fun j hj => ?_⟩
    obtain ⟨y, h3, h4⟩ := h2 j j (by simp [hj])
    rw [h3, h4]
  · cases h

/-- A choice for each index, as a list. -/
theorem choose_list {α : Type} {p : Nat → α → Prop} : ∀ {n : Nat}, (∀ i, i < n → ∃ x, p i x) → ∃ l : List α, l.length = n ∧ ∀ i x, l[i]? = some x → p i x
  | 0, _ => ⟨[], rfl, by simp⟩
  | n + 1, h => by
    obtain ⟨l, h1, h2⟩ := choose_list (n := n) fun i hi => h i (by omega)
    obtain ⟨x, hx⟩ := h n (by omega)
    refine ⟨l ++ [x], by simp [h1], fun i y hy => ?_⟩
    rw [List.getElem?_append] at hy
    split at hy
    · exact h2 i y hy
    · rename_i hi
      have : i = n := by
        have := (List.getElem?_eq_some_iff.1 hy).1
        simp at this; omega
      subst this
      simp [h1] at hy
      subst hy
      exact hx

theorem cut_cells {α : Type} {cs : List α} {n : Nat} (hn : 0 < n) : ∀ {m : Nat}, cs.length = m * n → cs = (List.range m).flatMap fun i => (cs.drop (i * n)).take n
  | 0, h => by simp at h; subst h; simp
  | m + 1, h => by
    rw [List.range_succ, List.flatMap_append]
    have h1 : (cs.take (m * n)).length = m * n := by simp [h, Nat.succ_mul]
    have ih := cut_cells (cs := cs.take (m * n)) hn h1
    have e : (List.range m).flatMap (fun i => ((cs.take (m * n)).drop (i * n)).take n) = (List.range m).flatMap fun i => (cs.drop (i * n)).take n := by
      simp only [List.flatMap_def]
      congr 1
      refine List.map_congr_left fun i hi => ?_
      have him := List.mem_range.1 hi
      have hle : i * n + n ≤ m * n := by rw [← Nat.succ_mul]; exact Nat.mul_le_mul_right n him
      rw [List.drop_take, List.take_take, Nat.min_eq_left (by omega)]
    rw [e] at ih
    rw [← ih]
    simp only [List.flatMap_cons, List.flatMap_nil, List.append_nil]
    rw [List.take_of_length_le (show (cs.drop (m * n)).length ≤ n by simp [h, Nat.succ_mul])]
    exact (List.take_append_drop _ _).symm

theorem relL_flat {w : World} {F : Nat → Prop} : ∀ {n : Nat} {f : Nat → List Value} {xs : List T}, xs.length = n → (∀ i x, xs[i]? = some x → RelL w F (f i) x.cells) → RelL w F ((List.range n).flatMap f) (xs.flatMap T.cells)
  | 0, f, xs, h, _ => by
    have : xs = [] := List.eq_nil_of_length_eq_zero h
    subst this; simpa using RelL.nil
  | n + 1, f, xs, h, hr => by
    have hx : xs = xs.take n ++ [xs[n]'(by omega)] := by
      conv => lhs; rw [← List.take_append_drop n xs]
      rw [List.drop_eq_getElem_cons (by omega), List.drop_of_length_le (by omega)]
    rw [hx, List.range_succ, List.flatMap_append, List.flatMap_append]
    refine RelL.append (relL_flat (by simp; omega) fun i x hi => ?_) ?_
    · rw [List.getElem?_take] at hi
      split at hi
      · exact hr i x hi
      · cases hi
    · simpa using hr n _ (List.getElem?_eq_getElem (by omega))

variable {H : Type} {enc : TypeId × Value → H} {P : Program} {w : World} {base : Nat} {held : Bool}

variable {sp : Nat → Bool} {fuel : Nat} {t : TypeId} {cs : List Value} {y : DataW H × List MemPlace}

theorem trod_int {k : IntKind} (hu : P.underlying t = some (.int k)) (h : DataW.trod enc P w base sp held (fuel + 1) t cs = some y) : ∃ n, cs = [.int k n] ∧ (Lit.int k n).wf = true := by
  unfold DataW.trod at h
  rw [hu] at h
  split at h <;> first
    | (cases h; done)
    | (rename_i heq; cases heq; done)
    | skip
  rename_i k1 k2 n heq
  cases heq
  split at h
  · rename_i hk; obtain ⟨rfl, h2⟩ := hk; exact ⟨n, rfl, h2⟩
  · cases h

theorem trod_bool (hu : P.underlying t = some .bool) (h : DataW.trod enc P w base sp held (fuel + 1) t cs = some y) : ∃ b, cs = [.bool b] := by
  unfold DataW.trod at h
  rw [hu] at h
  split at h <;> first
    | (cases h; done)
    | (rename_i heq; cases heq; done)
    | exact ⟨_, rfl⟩

theorem trod_str (hu : P.underlying t = some .string) (h : DataW.trod enc P w base sp held (fuel + 1) t cs = some y) : ∃ b : ByteArray, cs = [.string b] ∧ b.size ≤ maxLen := by
  unfold DataW.trod at h
  rw [hu] at h
  split at h <;> first
    | (cases h; done)
    | (rename_i heq; cases heq; done)
    | skip
  split at h
  · exact ⟨_, rfl, by assumption⟩
  · cases h

theorem trod_slice {e : TypeId} (hu : P.underlying t = some (.slice e)) (h : DataW.trod enc P w base sp held (fuel + 1) t cs = some y) : cs = [.slice none 0 0] ∨
    ∃ (a : Addr) (len cap : Nat), cs = [.slice (some a) len cap] ∧ len ≤ cap ∧ cap ≤ maxLen ∧ ∀ i, i < len → ∃ cs' y', w.cells? base (a.add (i * P.cellsOf e)) (P.cellsOf e) = some cs' ∧ DataW.trod enc P w base sp held fuel e cs' = some y' := by
  unfold DataW.trod at h
  rw [hu] at h
  split at h <;> first
    | (cases h; done)
    | (rename_i heq; cases heq; done)
    | exact .inl rfl
    | skip
  rename_i e' a len cap heq
  cases heq
  dsimp only at h
  split at h
  · rename_i hc
    cases hm : (List.range len).mapM (fun i => (w.cells? base (a.add (i * P.cellsOf e)) (P.cellsOf e)).bind (DataW.trod enc P w base sp held fuel e)) with
    | none => simp [hm] at h
    | some elems =>
      refine .inr ⟨a, len, cap, rfl, hc.2.1, hc.2.2, fun i hi => ?_⟩
      obtain ⟨y, h1, h2⟩ := (mapM_some hm).2 i i (by simp [hi])
      cases hcs : w.cells? base (a.add (i * P.cellsOf e)) (P.cellsOf e) with
      | none => simp [hcs] at h2
      | some cs' => exact ⟨cs', y, rfl, by simpa [hcs] using h2⟩
  · cases h

theorem trod_struct {fs : Array Field} (hu : P.underlying t = some (.struct fs)) (h : DataW.trod enc P w base sp held (fuel + 1) t cs = some y) : cs.length = P.cellsOf t ∧
    ∀ (i : Nat) f, fs.toList[i]? = some f → ∃ y', DataW.trod enc P w base sp held fuel f.type ((cs.drop f.offset).take (P.cellsOf f.type)) = some y' := by
  unfold DataW.trod at h
  rw [hu] at h
  dsimp only at h
  split at h
  · rename_i hl
    refine ⟨hl, fun i f hf => ?_⟩
    cases hm : fs.toList.mapM (fun f => DataW.trod enc P w base sp held fuel f.type ((cs.drop f.offset).take (P.cellsOf f.type))) with
    | none => simp [hm] at h
    | some xs =>
      obtain ⟨y, h1, h2⟩ := (mapM_some hm).2 i f hf
      exact ⟨y, h2⟩
  · cases h

theorem lay_rel {F : Nat → Prop} {w : World} {P : Program} {cs : List Value} : ∀ {fs : List Field} {o m : Nat}, layB P fs o = some m → m ≤ cs.length →
    (∀ (i : Nat) f, fs[i]? = some f → ∃ x : T, Rd P f.type x ∧ RelL w F ((cs.drop f.offset).take (P.cellsOf f.type)) x.cells) →
    ∃ xs : List T, xs.length = fs.length ∧ (∀ (i : Nat) f x, fs[i]? = some f → xs[i]? = some x → Rd P f.type x) ∧ o ≤ m ∧ RelL w F ((cs.drop o).take (m - o)) (xs.flatMap T.cells)
  | [], o, m, h, _, _ => by
    simp only [layB, Option.some.injEq] at h
    subst h
    exact ⟨[], rfl, by simp, Nat.le_refl _, by simpa using RelL.nil⟩
  | f :: fs, o, m, h, hm, hf => by
    simp only [layB] at h
    split at h
    · rename_i ho
      simp only [beq_iff_eq] at ho
      obtain ⟨xs, h1, h2, h3, h4⟩ := lay_rel h hm fun i f' hi => hf (i + 1) f' (by simpa using hi)
      obtain ⟨x, h5, h6⟩ := hf 0 f rfl
      refine ⟨x :: xs, by simp [h1], fun i f' x' hi hx => ?_, by omega, ?_⟩
      · cases i with
        | zero => simp at hi hx; subst hi; subst hx; exact h5
        | succ i => exact h2 i f' x' (by simpa using hi) (by simpa using hx)
      · rw [ho] at h6
        rw [List.flatMap_cons]
        have e : (cs.drop o).take (m - o) = (cs.drop o).take (P.cellsOf f.type) ++ (cs.drop (o + P.cellsOf f.type)).take (m - (o + P.cellsOf f.type)) := by
          rw [← List.drop_drop, show m - o = P.cellsOf f.type + (m - (o + P.cellsOf f.type)) from by omega, List.take_add]
        rw [e]
        exact h6.append h4
    · cases h

/-- What is read as data can be read by the abstract machine. -/
theorem trod_rel {S : List TypeId} (hS : plainB P S = true) : ∀ {fuel : Nat} {t : TypeId} {cs : List Value} {y : DataW H × List MemPlace}, t ∈ S → DataW.trod enc P w base sp held fuel t cs = some y →
    ∃ x : T, Rd P t x ∧ RelL w (fun b => b < w.heap.size) cs x.cells ∧ cs.length = P.cellsOf t := by
  intro fuel
  induction fuel with
  | zero => intro t cs y _ h; simp [DataW.trod] at h
  | succ fuel ih =>
    intro t cs y ht h
    have hS' := hS
    unfold plainB at hS'
    rw [List.all_eq_true] at hS'
    have h1 := hS' t ht
    split at h1
    · rename_i k hu
      obtain ⟨n, rfl, h2⟩ := trod_int hu h
      exact ⟨.v (.int k n), .int hu h2, .v rfl .nil, by simpa using (beq_iff_eq.1 h1).symm⟩
    · rename_i hu
      obtain ⟨b, rfl⟩ := trod_bool hu h
      exact ⟨.v (.bool b), .bool hu, .v rfl .nil, by simpa using (beq_iff_eq.1 h1).symm⟩
    · rename_i hu
      obtain ⟨b, rfl, h2⟩ := trod_str hu h
      exact ⟨.v (.string b), .str hu h2, .v rfl .nil, by simpa using (beq_iff_eq.1 h1).symm⟩
    · rename_i e hu
      simp only [Bool.and_eq_true, beq_iff_eq, bne_iff_ne, List.contains_iff_mem] at h1
      obtain ⟨⟨h2, h3⟩, h4⟩ := h1
      have hpos : 0 < P.cellsOf e := Nat.pos_of_ne_zero h4
      rcases trod_slice hu h with rfl | ⟨a, len, cap, rfl, h5, h6, h7⟩
      · exact ⟨.list (P.cellsOf e) [], .slice hu rfl (Nat.zero_le _) (by simp), .none .nil, by simp [h2]⟩
      · have hex : ∀ i, i < len → ∃ x : T × List Value, Rd P e x.1 ∧ RelL w (fun b => b < w.heap.size) x.2 x.1.cells ∧ x.2.length = P.cellsOf e ∧ ∀ j, j < P.cellsOf e → w.cell? ((a.add (i * P.cellsOf e)).add j) = x.2[j]? := fun i hi => by
          obtain ⟨cs', y', q1, q2⟩ := h7 i hi
          obtain ⟨x, q3, q4, q5⟩ := ih h3 q2
          obtain ⟨q6, q7⟩ := cells_some q1
          exact ⟨(x, cs'), q3, q4, q5, q7⟩
        obtain ⟨l, hl, hp⟩ := choose_list hex
        by_cases h0 : len = 0
        · subst h0
          exact ⟨.list (P.cellsOf e) [], .slice hu rfl (Nat.zero_le _) (by simp), .none .nil, by simp [h2]⟩
        · -- the block
          obtain ⟨x0, hx0⟩ : ∃ x, l[0]? = some x := ⟨_, List.getElem?_eq_getElem (by omega)⟩
          obtain ⟨r1, r2, r3, r4⟩ := hp 0 x0 hx0
          have hcell := r4 0 hpos
          simp only [Nat.zero_mul] at hcell
          have hadd0 : (a.add 0).add 0 = a := by simp [Addr.add]
          rw [hadd0] at hcell
          obtain ⟨v0, hv0⟩ : ∃ v, x0.2[0]? = some v := ⟨_, List.getElem?_eq_getElem (by omega)⟩
          rw [hv0] at hcell
          have hsp : a.spot = none := by
            unfold World.cell? at hcell
            split at hcell
            · cases hs : a.spot with
              | none => rfl
              | some _ => simp [hs] at hcell
            · cases hcell
          obtain ⟨ab, ao, as_⟩ := a
          dsimp only at hsp
          subst hsp
          have hblk := World.block_lt_of_cell? _ _ hcell
          obtain ⟨arr, et, fz, harr⟩ : ∃ arr et fz, w.heap[ab]? = some (.cells arr et fz) := by
            unfold World.cell? at hcell
            split at hcell
            · rename_i c et fz hc; exact ⟨c, et, fz, hc⟩
            · cases hcell
          refine ⟨.list (P.cellsOf e) (l.map (·.1)), .slice hu rfl (by simp; omega) (fun x hx => ?_), ?_, by simp [h2]⟩
          · obtain ⟨z, hz, rfl⟩ := List.mem_map.1 hx
            obtain ⟨i, hi, rfl⟩ := List.getElem_of_mem hz
            exact (hp i _ (List.getElem?_eq_getElem hi)).1
          · have hrel := relL_flat (w := w) (F := fun b => b < w.heap.size) (n := len) (f := fun i => (l[i]?.map (·.2)).getD []) (xs := l.map (·.1)) (by simp [hl]) fun i x hi => by
              rw [List.getElem?_map] at hi
              cases hli : l[i]? with
              | none => simp [hli] at hi
              | some z =>
                simp [hli] at hi
                subst hi
                simpa using (hp i z hli).2.1
            have hlist := RelL.list (o := ao) (n := P.cellsOf e) (cap := cap) (F := fun b => b < w.heap.size) (xs := l.map (·.1)) hblk harr (fun k hk => ?_) (fun x hx => ?_) (by simp [hl]; omega) hrel .nil
            · simpa [hl, T.cells] using hlist
            · -- the cells
              have hlen : ∀ m, m ≤ len → ((List.range m).flatMap fun i => (l[i]?.map (·.2)).getD []).length = m * P.cellsOf e := by
                intro m hm
                induction m with
                | zero => simp
                | succ m ihm =>
                  rw [List.range_succ, List.flatMap_append, List.length_append, ihm (by omega), Nat.succ_mul]
                  have := (hp m _ (List.getElem?_eq_getElem (show m < l.length by omega))).2.2.1
                  simp [List.getElem?_eq_getElem (show m < l.length by omega), this]
              rw [hlen len (Nat.le_refl _)] at hk
              have hget : ∀ m, m ≤ len → ∀ k, k < m * P.cellsOf e → ((List.range m).flatMap fun i => (l[i]?.map (·.2)).getD [])[k]? = arr[ao + k]? := by
                intro m hm
                induction m with
                | zero => intro k hk; simp at hk
                | succ m ihm =>
                  intro k hk
                  rw [List.range_succ, List.flatMap_append, List.getElem?_append, hlen m (by omega)]
                  split
                  · exact ihm (by omega) k (by assumption)
                  · rename_i hkm
                    rw [Nat.succ_mul] at hk
                    have hml : m < l.length := by omega
                    have q := (hp m _ (List.getElem?_eq_getElem hml)).2.2.2 (k - m * P.cellsOf e) (by omega)
                    simp only [List.flatMap_cons, List.flatMap_nil, List.append_nil, List.getElem?_eq_getElem hml, Option.map_some, Option.getD_some]
                    rw [← q, add_none, add_none, cell_of harr]
                    congr 1
                    omega
              exact (hget len (Nat.le_refl _) k hk).symm
            · obtain ⟨z, hz, rfl⟩ := List.mem_map.1 hx
              obtain ⟨i, hi, rfl⟩ := List.getElem_of_mem hz
              have q := hp i _ (List.getElem?_eq_getElem hi)
              rw [← q.2.1.length]
              exact q.2.2.1
    · rename_i fs hu
      simp only [Bool.and_eq_true, beq_iff_eq, List.all_eq_true, List.contains_iff_mem] at h1
      obtain ⟨h2, h3⟩ := h1
      obtain ⟨h4, h5⟩ := trod_struct hu h
      obtain ⟨xs, q1, q2, q3, q4⟩ := lay_rel (F := fun b => b < w.heap.size) (w := w) (cs := cs) h2 (by omega) fun i f hf => by
        obtain ⟨y', h6⟩ := h5 i f hf
        obtain ⟨x, h7, h8, _⟩ := ih (h3 f (List.mem_of_getElem? hf)) h6
        exact ⟨x, h7, h8⟩
      refine ⟨.agg (xs.flatMap T.cells), .struct hu q1 q2, ?_, h4⟩
      rw [← h4, List.drop_zero, Nat.sub_zero, List.take_length] at q4
      exact q4
    · cases h1

/-- An argument, as a value. -/
theorem Trod_rel {S : List TypeId} (hS : plainB P S = true) {t : TypeId} (ht : t ∈ S) {v : Value} {d : DataW H} {ps : List MemPlace} (hv : v.cells = #[v] ∨ ∃ cs, v = .agg cs) (hag : (∃ fs, P.underlying t = some (.struct fs)) ↔ ∃ cs, v = .agg cs)
    (h : DataW.Trod enc P w base sp held t v d ps) : ∃ x : T, Rd P t x ∧ RelD w (fun b => b < w.heap.size) (fun _ => none) [v] [.t x] [] := by
  obtain ⟨fuel, h⟩ := h
  obtain ⟨x, h1, h2, h3⟩ := trod_rel hS ht h
  refine ⟨x, h1, ?_⟩
  by_cases hst : ∃ cs, v = .agg cs
  · obtain ⟨fs, hfs⟩ := hag.2 hst
    obtain ⟨cs, rfl⟩ := hst
    cases h1 with
    | struct _ _ _ => exact .tagg (by simpa [Value.cells, T.cells] using h2) .done
    | int hu _ => rw [hfs] at hu; cases hu
    | bool hu => rw [hfs] at hu; cases hu
    | str hu _ => rw [hfs] at hu; cases hu
    | slice hu _ _ _ => rw [hfs] at hu; cases hu
  · have hc := hv.resolve_right hst
    rw [hc] at h2
    cases h1 with
    | struct hu _ _ => exact absurd (hag.1 ⟨_, hu⟩) hst
    | int hu _ => exact .t h2 .done
    | bool hu => exact .t h2 .done
    | str hu _ => exact .t h2 .done
    | slice hu _ _ _ => exact .t h2 .done

end Go.Eng
