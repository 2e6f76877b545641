/- Statements of open order that end with operations whose place is fixed: those may make and write memory. And functions that are handed what they may write, and hand it back. -/
import Derived.Test.YtbkamkmmljbedaaEng19
set_option linter.unusedVariables false
set_option linter.unusedSimpArgs false
namespace Go.Eng
open Go.RowKit

def bindsOn (o : Oper) (k : Nat) : Bool := o.after.any fun e => Region.binds .any e && e.on == k
theorem bindsOn_spec {o : Oper} {k : Nat} (h : bindsOn o k = true) : ∃ e, e ∈ o.after ∧ Region.binds .any e = true ∧ e.on = k := by
  unfold bindsOn at h
  rw [Array.any_eq_true] at h
  obtain ⟨i, hi, h5⟩ := h
  simp only [Bool.and_eq_true, beq_iff_eq] at h5
  exact ⟨o.after[i], Array.getElem_mem hi, h5.1, h5.2⟩

/-- As orderB, of the first m operations alone. -/
def orderT (ops : Array Oper) (m : Nat) : Bool := (List.range ops.size).all fun k => match ops[k]? with
  | none => false
  | some ok => (ok.after.all fun e => !Region.binds .any e || Nat.blt e.on k) && (Nat.ble m k || (List.range m).all fun j => !(Nat.blt k j) || match ops[j]? with
    | some oj => bindsOn oj k || ok.apart ops oj
    | none => false)
/-- The operations from m on come last, in the order of the text. -/
def tailT (ops : Array Oper) (m : Nat) : Bool := ((List.range m).all fun k => (List.range (m + 1)).any fun j => Nat.blt k j && match ops[j]? with | some oj => bindsOn oj k | none => false) &&
  (List.range ops.size).all fun p => Nat.ble p m || match ops[p]? with | some op => bindsOn op (p - 1) | none => false

section
variable {P : Program} {c : Ctx} {s : St} {Q : Exit → St → Prop} {ops : Array Oper} {rest : List Oper} {o : Oper}

theorem orderT_lt {m : Nat} (h : orderT ops m = true) {k : Nat} {ok : Oper} (hk : ops[k]? = some ok) : ∀ e, e ∈ ok.after → Region.binds .any e = true → e.on < k := by
  have hks : k < ops.size := (Array.getElem?_eq_some_iff.1 hk).1
  unfold orderT at h
  rw [List.all_eq_true] at h
  have h1 := h k (List.mem_range.2 hks)
  rw [hk] at h1
  simp only [Bool.and_eq_true] at h1
  intro e he hb
  have h2 := h1.1
  rw [Array.all_eq_true_iff_forall_mem] at h2
  have := h2 e he
  simpa [hb] using this
theorem orderT_spec {m : Nat} (h : orderT ops m = true) {k : Nat} {ok : Oper} (hk : ops[k]? = some ok) (hkm : k < m) : ∀ j oj, ops[j]? = some oj → j < m → k < j → (∃ e, e ∈ oj.after ∧ Region.binds .any e = true ∧ e.on = k) ∨ ok.apart ops oj = true := by
  have hks : k < ops.size := (Array.getElem?_eq_some_iff.1 hk).1
  unfold orderT at h
  rw [List.all_eq_true] at h
  have h1 := h k (List.mem_range.2 hks)
  rw [hk] at h1
  simp only [Bool.and_eq_true, Bool.or_eq_true] at h1
  intro j oj hj hjm hkj
  have h3 := h1.2.resolve_left (by simp; omega)
  rw [List.all_eq_true] at h3
  have h4 := h3 j (List.mem_range.2 hjm)
  rw [hj] at h4
  have hb : Nat.blt k j = true := by simpa using hkj
  simp only [hb, Bool.not_true, Bool.false_or, Bool.or_eq_true] at h4
  rcases h4 with h4 | h4
  · exact .inl (bindsOn_spec h4)
  · exact .inr h4
theorem tailT_first {m : Nat} (h : tailT ops m = true) {k : Nat} (hk : k < m) : ∃ j oj, k < j ∧ j ≤ m ∧ ops[j]? = some oj ∧ ∃ e, e ∈ oj.after ∧ Region.binds .any e = true ∧ e.on = k := by
  unfold tailT at h
  rw [Bool.and_eq_true, List.all_eq_true] at h
  have h1 := h.1 k (List.mem_range.2 hk)
  rw [List.any_eq_true] at h1
  obtain ⟨j, hj, h2⟩ := h1
  rw [Bool.and_eq_true] at h2
  cases hoj : ops[j]? with
  | none => rw [hoj] at h2; cases h2.2
  | some oj =>
    rw [hoj] at h2
    have := List.mem_range.1 hj
    exact ⟨j, oj, by simpa using h2.1, by omega, hoj, bindsOn_spec h2.2⟩
theorem tailT_next {m : Nat} (h : tailT ops m = true) {p : Nat} {op : Oper} (hp : ops[p]? = some op) (hm : m < p) : ∃ e, e ∈ op.after ∧ Region.binds .any e = true ∧ e.on = p - 1 := by
  have hks : p < ops.size := (Array.getElem?_eq_some_iff.1 hp).1
  unfold tailT at h
  rw [Bool.and_eq_true, List.all_eq_true (l := List.range ops.size)] at h
  have h1 := h.2 p (List.mem_range.2 hks)
  rw [hp] at h1
  rw [Bool.or_eq_true] at h1
  exact bindsOn_spec (h1.resolve_left (by simp; omega))

theorem ready_of {listed : Array Bool} (hsz : listed.size = ops.size) {i : Nat} {oi : Oper} (hoi : ops[i]? = some oi) (h1 : listed.getD i false = false) (h2 : ∀ e, e ∈ oi.after → Region.binds .any e = true → listed.getD e.on false = true) : i ∈ Region.ready .any ops listed := by
  have hi : i < ops.size := (Array.getElem?_eq_some_iff.1 hoi).1
  unfold Region.ready
  refine List.mem_filter.2 ⟨List.mem_range.2 hi, ?_⟩
  have h3 : listed.getD i true = false := by
    rw [Array.getD_eq_getD_getElem?] at h1 ⊢
    rw [Array.getElem?_eq_getElem (by omega)] at h1 ⊢
    exact h1
  rw [hoi, h3]
  simp only [Bool.not_false, Bool.true_and, Option.map_some, Option.getD_some]
  rw [Array.all_eq_true_iff_forall_mem]
  intro e he
  cases hb : Region.binds .any e with
  | false => simp
  | true => simp only [Bool.not_true, Bool.false_or]; exact h2 e he hb
theorem of_ready {listed : Array Bool} (hsz : listed.size = ops.size) {i : Nat} (h : i ∈ Region.ready .any ops listed) : ∃ oi, ops[i]? = some oi ∧ listed.getD i false = false ∧ ∀ e, e ∈ oi.after → Region.binds .any e = true → listed.getD e.on false = true := by
  unfold Region.ready at h
  obtain ⟨hir1, hir2⟩ := List.mem_filter.1 h
  have hil : i < ops.size := List.mem_range.1 hir1
  have hoi : ops[i]? = some ops[i] := by simp [hil]
  rw [hoi] at hir2
  simp only [Bool.and_eq_true, Bool.not_eq_true', Option.map_some, Option.getD_some] at hir2
  obtain ⟨hun, haf⟩ := hir2
  rw [Array.all_eq_true_iff_forall_mem] at haf
  refine ⟨_, hoi, ?_, fun e he hb => by have := haf e he; simpa [hb] using this⟩
  rw [Array.getD_eq_getD_getElem?] at hun ⊢
  rw [Array.getElem?_eq_getElem (by omega)] at hun ⊢
  exact hun
theorem getD_set {listed : Array Bool} {i : Nat} (hi : i < listed.size) (j : Nat) : (listed.setIfInBounds i true).getD j false = (listed.getD j false || j == i) := by
  by_cases hji : j = i
  · subst hji
    rw [Array.getD_eq_getD_getElem?, Array.getElem?_setIfInBounds_self]
    simp [hi]
  · have : (j == i) = false := by simp [hji]
    rw [Array.getD_eq_getD_getElem?, Array.getElem?_setIfInBounds_ne (Ne.symm hji), Array.getD_eq_getD_getElem?, this, Bool.or_false]

/-- The operations whose place is fixed, one after the other. -/
theorem tail_run {Qx : Exit → Act → World → Prop} {m : Nat} (hB : orderT ops m = true) (hT : tailT ops m = true) : ∀ (l : List Oper) (k : Nat) (listed : Array Bool) (a : Act) (w : World), m ≤ k → k + l.length = ops.size → (∀ j, l[j]? = ops[k + j]?) →
    listed.size = ops.size → (∀ j, j < ops.size → listed.getD j false = decide (j < k)) → wpList P ops Qx l a w → wpAny P .any ops Qx l.length listed a w
  | [], k, listed, a, w, hmk, hl, hops, hsz, hli, h => by
    refine ⟨?_, h⟩
    refine List.eq_nil_iff_forall_not_mem.2 fun i hi => ?_
    obtain ⟨oi, h1, h2, _⟩ := of_ready hsz hi
    have := (Array.getElem?_eq_some_iff.1 h1).1
    rw [hli i this] at h2
    simp only [List.length_nil] at hl
    simp at h2; omega
  | o :: l, k, listed, a, w, hmk, hl, hops, hsz, hli, h => by
    have hok : ops[k]? = some o := by have := hops 0; simpa using this.symm
    have hk : k < ops.size := (Array.getElem?_eq_some_iff.1 hok).1
    have hrk : k ∈ Region.ready .any ops listed := ready_of hsz hok (by rw [hli k hk]; simp) fun e he hb => by
      have := orderT_lt hB hok e he hb
      rw [hli _ (by omega)]; simpa using this
    rw [List.length_cons]
    refine ⟨fun hn => (by rw [hn] at hrk; cases hrk), fun i hi => ?_⟩
    obtain ⟨oi, h1, h2, h3⟩ := of_ready hsz hi
    have hin := (Array.getElem?_eq_some_iff.1 h1).1
    have hik : i = k := by
      rw [hli i hin] at h2
      have h2' : k ≤ i := by simpa using h2
      refine Classical.byContradiction fun hne => ?_
      obtain ⟨e, he, hb, hon⟩ := tailT_next hT h1 (by omega)
      have := h3 e he hb
      rw [hon, hli _ (by omega)] at this
      simp at this; omega
    subst hik
    unfold wpOp
    rw [hok]
    dsimp only
    have ih := fun a w h => tail_run (Qx := Qx) hB hT l (i + 1) (listed.setIfInBounds i true) a w (by omega) (by simp only [List.length_cons] at hl; omega) (fun j => by have := hops (j + 1); simpa [Nat.add_assoc, Nat.add_comm 1 j] using this) (by simp [hsz]) (fun j hj => by
      rw [getD_set (by omega), hli j hj]
      by_cases hji : j = i
      · subst hji; simp
      · have : (j == i) = false := by simp [hji]
        rw [this, Bool.or_false]
        congr 1
        exact propext ⟨fun h => by omega, fun h => by omega⟩) h
    unfold wpList at h
    split at h
    · rename_i hw
      rw [if_pos hw]
      exact h.imp (fun h => Oper.wp_mono ih h) fun h => h
    · rename_i hw
      rw [if_neg hw]
      exact ih _ _ h

theorem W_regionDT {id : Nat} {l1 l2 : List Oper} {ops : Array Oper} (hm : P.follows .mixedOrders = true) (he : ops = (l1 ++ l2).toArray) (hB : orderT ops l1.length = true) (hT : tailT ops l1.length = true) (h : QL P c ops l1 s (fun s' => WO P c ops l2 s' Q)) : W P c (.region id ops true) s Q := by
  intro a w hi
  obtain ⟨r, sf, q1, q2, q3, q4⟩ := h.steps
  refine wp_region_any hm ?_
  have hops : ∀ j, j < l1.length → ops[j]? = l1[j]? := fun j hj => by subst he; rw [List.getElem?_toArray, List.getElem?_append_left hj]
  have hops2 : ∀ j, l2[j]? = ops[l1.length + j]? := fun j => by subst he; rw [List.getElem?_toArray, List.getElem?_append_right (Nat.le_add_right _ _), Nat.add_sub_cancel_left]
  have hsize : ops.size = l1.length + l2.length := by subst he; simp
  -- the state once X is done
  have key : ∀ (n : Nat) (listed : Array Bool) (a : Act) (w : World), listed.size = ops.size → n + listed.toList.count true = l1.length →
      (∀ j, l1.length ≤ j → listed.getD j false = false) →
      (∀ j oj, l1[j]? = some oj → listed.getD j false = true → ∀ e, e ∈ oj.after → Region.binds .any e = true → listed.getD e.on false = true) →
      (∃ s', s'.M = s.M ∧ (∀ u, look s'.fr u = lk r (look s.fr) (fun j => listed.getD j false) l1.length u) ∧ Is c s' a w) →
      wpAny P .any ops (lift c Q) (n + l2.length) listed a w := by
    intro n
    induction n with
    | zero =>
      intro listed a w hsz hcnt htl hcl ⟨s', hM, hlook, hs'⟩
      have hall : ∀ j, j < l1.length → listed.getD j false = true := by
        intro j hj
        refine Classical.byContradiction fun hf => ?_
        have hf' : listed.getD j false = false := by simpa using hf
        -- one of the first is not done, so fewer are
        have h1 : listed.toList.count true ≤ (listed.toList.take l1.length).count true := by
          conv => lhs; rw [← List.take_append_drop l1.length listed.toList, List.count_append]
          have : (listed.toList.drop l1.length).count true = 0 := List.count_eq_zero.2 fun hm => by
            obtain ⟨j, hj, hjt⟩ := List.getElem_of_mem hm
            rw [List.getElem_drop] at hjt
            rw [List.length_drop, Array.length_toList (xs := listed)] at hj
            have h5 := htl (l1.length + j) (by omega)
            rw [Array.getD_eq_getD_getElem?, Array.getElem?_eq_getElem (by omega)] at h5
            rw [Array.getElem_toList] at hjt
            rw [hjt] at h5; cases h5
          omega
        have h2 : (listed.toList.take l1.length).length = l1.length := by have := Array.length_toList (xs := listed); rw [List.length_take]; omega
        have h3 := List.count_le_length (a := true) (l := listed.toList.take l1.length)
        have h4 : (listed.toList.take l1.length).count true = (listed.toList.take l1.length).length := by omega
        rw [List.count_eq_length] at h4
        have hjs : j < listed.size := by omega
        have := h4 (listed[j]) (by rw [List.mem_take_iff_getElem]; exact ⟨j, by simp; omega, by simp⟩)
        rw [Array.getD_eq_getD_getElem?, Array.getElem?_eq_getElem hjs] at hf'
        rw [← this] at hf'; cases hf'
      rw [Nat.zero_add]
      refine tail_run hB hT l2 l1.length listed a w (Nat.le_refl _) hsize.symm hops2 hsz (fun j hj => ?_) ?_
      · by_cases hjl : j < l1.length
        · rw [hall j hjl]; simp [hjl]
        · rw [htl j (by omega)]; simp [hjl]
      · refine q1 a w (Le.of (s := s') (fun u => .inl ?_) (fun u => .inl (by rw [q2, hM])) _ _ hs')
        rw [q3, hlook]
        exact lk_congr fun j hj _ => (hall j hj).symm
    | succ n ih =>
      intro listed a w hsz hcnt htl hcl ⟨s', hM, hlook, hs'⟩
      -- one of the first is not done
      have hsome : ∃ i, i < l1.length ∧ listed.getD i false = false := by
        refine Classical.byContradiction fun hno => ?_
        have hall : ∀ j, j < l1.length → listed.getD j false = true := fun j hj => by
          refine Classical.byContradiction fun hf => hno ⟨j, hj, by simpa using hf⟩
        have h1 : l1.length ≤ (listed.toList.take l1.length).count true := by
          have h2 : (listed.toList.take l1.length).length = l1.length := by have := Array.length_toList (xs := listed); rw [List.length_take]; omega
          have : (listed.toList.take l1.length).count true = (listed.toList.take l1.length).length := List.count_eq_length.2 fun b hb => by
            obtain ⟨j, hj, rfl⟩ := List.mem_take_iff_getElem.1 hb
            rw [Array.length_toList (xs := listed)] at hj
            have h5 := hall j (by omega)
            rw [Array.getD_eq_getD_getElem?, Array.getElem?_eq_getElem (by omega)] at h5
            simpa using h5.symm
          omega
        have h3 : (listed.toList.take l1.length).count true ≤ listed.toList.count true := (List.take_sublist _ _).count_le _
        omega
      have hleast : ∃ i, i < l1.length ∧ listed.getD i false = false ∧ ∀ j, j < i → listed.getD j false = true := by
        obtain ⟨i0, hi0, hu0⟩ := hsome
        clear hcnt
        induction i0 using Nat.strongRecOn with
        | _ n ihn =>
          by_cases hx : ∃ j, j < n ∧ listed.getD j false = false
          · obtain ⟨j, hj, hf⟩ := hx
            exact ihn j hj (by omega) hf
          · refine ⟨n, hi0, hu0, fun j hj => ?_⟩
            cases hf : listed.getD j false with
            | true => rfl
            | false => exact absurd ⟨j, hj, hf⟩ hx
      have hready : Region.ready .any ops listed ≠ [] := by
        obtain ⟨i, hi1, hi2, hi3⟩ := hleast
        have hoi : ops[i]? = some l1[i] := by rw [hops i hi1]; simp
        intro hnil
        have : i ∈ Region.ready .any ops listed := ready_of hsz hoi hi2 fun e he hb => hi3 _ (orderT_lt hB hoi e he hb)
        rw [hnil] at this; cases this
      rw [Nat.succ_add]
      refine ⟨fun h => absurd h hready, fun i hir => ?_⟩
      -- operation i, now
      obtain ⟨oi, hoi0, hun', hafter⟩ := of_ready hsz hir
      have hil : i < l1.length := by
        refine Classical.byContradiction fun hni => ?_
        by_cases hie : i = l1.length
        · subst hie
          have hall : ∀ d j, j + d = l1.length → d ≠ 0 → listed.getD j false = true := by
            intro d
            induction d using Nat.strongRecOn with
            | _ d ihd =>
              intro j hjd hd
              obtain ⟨j2, oj2, p1, p2, p3, e, p4, p5, p6⟩ := tailT_first hT (k := j) (by omega)
              by_cases hj2 : j2 = l1.length
              · subst hj2
                rw [hoi0] at p3; cases p3
                rw [← p6]; exact hafter e p4 p5
              · rw [← p6]
                exact hcl j2 oj2 (by rw [← hops j2 (by omega)]; exact p3) (ihd (l1.length - j2) (by omega) j2 (by omega) (by omega)) e p4 p5
          obtain ⟨j, hj, hf⟩ := hsome
          rw [hall (l1.length - j) j (by omega) (by omega)] at hf; cases hf
        · obtain ⟨e, p4, p5, p6⟩ := tailT_next hT hoi0 (by omega)
          have := hafter e p4 p5
          rw [p6, htl _ (by omega)] at this; cases this
      have hoi : ops[i]? = some l1[i] := by rw [hops i hil]; simp
      rw [hoi] at hoi0; cases hoi0
      have hli : l1[i]? = some l1[i] := List.getElem?_eq_getElem hil
      obtain ⟨hdst, hstep⟩ := q4 i l1[i] hli
      -- the writers of what it looks at are as in the text
      have hwr : ∀ u, u ∈ l1[i].looksAt ops → ∀ j, j < l1.length → (r j).1 = u → listed.getD j false = decide (j < i) := by
        intro u hu j hj hru
        have hoj : ops[j]? = some l1[j] := by rw [hops j hj]; simp
        obtain ⟨hdj, _⟩ := q4 j l1[j] (List.getElem?_eq_getElem hj)
        by_cases hji : j < i
        · simp only [hji, decide_true]
          rcases orderT_spec hB hoj hj i _ hoi hil hji with ⟨e, he, hb, hon⟩ | hap
          · rw [← hon]; exact hafter e he hb
          · exact absurd (hru ▸ hu) ((Oper.apart_spec hap).1 _ hdj)
        · by_cases hje : j = i
          · subst hje; simpa using hun'
          · have hij : i < j := by omega
            have hdec : decide (j < i) = false := by simp; omega
            rw [hdec]
            cases hX : listed.getD j false with
            | false => rfl
            | true =>
              rcases orderT_spec hB hoi hil j _ hoj hj hij with ⟨e, he, hb, hon⟩ | hap
              · have := hcl j _ (List.getElem?_eq_getElem hj) hX e he hb
                rw [hon, hun'] at this
                cases this
              · exact absurd (hru ▸ hu) ((Oper.apart_spec hap).2.2 _ hdj)
      have hst := hstep s' hM fun u hu => by
        rw [hlook, ← lk_first (r := r) (base := look s.fr) (show i ≤ l1.length by omega)]
        exact lk_congr fun j hj hru => hwr u hu j hj hru
      have hno : ∀ j, j < l1.length → i < j → listed.getD j false = true → (r j).1 ≠ (r i).1 := by
        intro j hj hij hX he
        have hoj : ops[j]? = some l1[j] := by rw [hops j hj]; simp
        obtain ⟨hdj, _⟩ := q4 j l1[j] (List.getElem?_eq_getElem hj)
        rcases orderT_spec hB hoi hil j _ hoj hj hij with ⟨e, he', hb, hon⟩ | hap
        · have := hcl j _ (List.getElem?_eq_getElem hj) hX e he' hb
          rw [hon, hun'] at this
          cases this
        · exact (Oper.apart_spec hap).2.1 _ hdst (by rw [hdj, he])
      unfold wpOp
      rw [hoi]
      dsimp only
      have hset : ∀ j, (listed.setIfInBounds i true).getD j false = (listed.getD j false || j == i) := getD_set (by omega)
      have hfin := hst.wp (K := wpAny P .any ops (lift c Q) (n + l2.length) (listed.setIfInBounds i true)) (Q' := lift c Q) hs' fun a' w' h' => by
        refine ih _ a' w' (by simp [hsz]) ?_ ?_ ?_ ⟨⟨((r i).1, (r i).2) :: s'.fr, s'.M⟩, hM, fun u => ?_, h'⟩
        · have hl2 : listed.toList[i]? = some false := by
            rw [Array.getElem?_toList, Array.getElem?_eq_getElem (by omega)]
            rw [Array.getD_eq_getD_getElem?, Array.getElem?_eq_getElem (by omega)] at hun'
            simpa using hun'
          rw [Array.toList_setIfInBounds, count_set hl2]
          omega
        · intro j hj
          rw [hset, htl j hj]
          simp; omega
        · intro j oj hj hX e he hb
          rw [hset] at hX ⊢
          by_cases hji : j = i
          · subst hji
            have : oj = l1[j] := by rw [hli] at hj; exact (Option.some.inj hj).symm
            subst this
            rw [hafter e he hb]; rfl
          · have : (j == i) = false := by simp [hji]
            rw [this, Bool.or_false] at hX
            rw [hcl j oj hj hX e he hb]; rfl
        · simp only [look]
          rw [show (fun j => (listed.setIfInBounds i true).getD j false) = (fun j => listed.getD j false || j == i) from funext hset]
          rw [lk_add hil hno, hlook]
      by_cases hw : Region.wanted l1[i] (yielded ops a.tmps) = true
      · rw [if_pos hw] at hfin ⊢
        exact .inl hfin
      · rw [if_neg hw] at hfin ⊢
        exact hfin
  have h0 := key l1.length (Array.replicate ops.size false) a { w with drawn := w.drawn + 1 } (by simp) (by simp [List.count_replicate]) (fun j hj => by
      rw [Array.getD_eq_getD_getElem?, Array.getElem?_replicate]
      split <;> rfl) (by
      intro j oj hj hX
      rw [Array.getD_eq_getD_getElem?, Array.getElem?_replicate] at hX
      split at hX <;> simp at hX) ⟨s, rfl, fun u => by
      have : lk r (look s.fr) (fun j => (Array.replicate ops.size false).getD j false) l1.length u = lk r (look s.fr) (fun j => decide (j < 0)) l1.length u := lk_congr fun j hj _ => by
        rw [Array.getD_eq_getD_getElem?, Array.getElem?_replicate]
        split <;> simp
      rw [this, lk_first (Nat.zero_le _)]
      rfl, by
      obtain ⟨F, β, fb, mb, ow, hi'⟩ := hi
      exact ⟨F, β, fb, mb, ow, hi'.drew⟩⟩
  rw [hsize]
  rw [hsize] at h0
  exact h0


theorem W_regionDm {id : Nat} {ops : Array Oper} (m : Nat) (hm : P.follows .mixedOrders = true) (hl : (ops.toList.take m).length = m) (hB : orderT ops m = true) (hT : tailT ops m = true) (h : QL P c ops (ops.toList.take m) s (fun s' => WO P c ops (ops.toList.drop m) s' Q)) : W P c (.region id ops true) s Q :=
  W_regionDT (l1 := ops.toList.take m) (l2 := ops.toList.drop m) hm (by simp) (by rw [hl]; exact hB) (by rw [hl]; exact hT) h

/-- A function that is handed, last, what it may write, and hands it back. -/
def PureO (P : Program) (f : FuncId) (ds : List D) (x y : T) : Prop :=
  ∀ (w : World) (F : Nat → Prop) (args : Array Value) (v : Value) (bs : List Nat), (∀ b, F b → b < w.heap.size) → RelD w F (fun _ => none) args.toList ds [] → OwnL w [v] [x] bs → bs.Nodup → (∀ b, b ∈ bs → b < w.heap.size ∧ ¬ F b) →
    Calls P f (args.push v) w fun e w' => ∃ v' bs', e = .returned v' ∧ w'.os = w.os ∧ w'.tape = w.tape ∧ w'.output = w.output ∧ w.heap.size ≤ w'.heap.size ∧ (∀ b, b < w.heap.size → b ∉ bs → w'.heap[b]? = w.heap[b]?) ∧
      OwnL w' [v'] [y] bs' ∧ bs'.Nodup ∧ ∀ b, b ∈ bs' → b ∈ bs ∨ (w.heap.size ≤ b ∧ b < w'.heap.size)
def FunO (P : Program) (f : FuncId) (ds : List D) (x y : T) : Prop := Callable P f ∧ PureO P f ds x y

theorem RelD.imms {w : World} {F : Nat → Prop} {β β' : Place} {vs ds bs} (h : RelD w F β vs ds bs) (hh : ds.all D.imm = true) : RelD w F β' vs ds [] := by
  induction h with
  | done => exact .done
  | t h1 _ ih => rw [List.all_cons, Bool.and_eq_true] at hh; exact .t h1 (ih hh.2)
  | tagg h1 _ ih => rw [List.all_cons, Bool.and_eq_true] at hh; exact .tagg h1 (ih hh.2)
  | rp h1 h2 h3 h4 _ ih => rw [List.all_cons, Bool.and_eq_true] at hh; exact .rp h1 h2 h3 h4 (ih hh.2)
  | _ => simp [List.all_cons, D.imm] at hh

/-- A call of such a function: what is handed over is moved. -/
theorem WO_callO {t u : Nat} {fo x : Operand} {args : Array Operand} {az : List Operand} {tys : Array TypeId} {f : FuncId} {a0 y : T} (hg : o.guard = none) (hd : o.dst = some t) (ht : t < c.n)
    (ho : o.op = .call { callee := .value fo, args := args, argTypes := tys }) (hargs : args.toList = az ++ [x]) (hf : opd s.fr fo = .clo f []) (hes : (az.map (opd s.fr)).all D.imm = true)
    (hx : (x = .tmp u ∧ look s.fr u = .own a0) ∨ (opd s.fr x = .nil ∧ ∃ n, a0 = .list n [])) (hc : FunO P f (az.map (opd s.fr)) a0 y)
    (k : WO P c ops rest ⟨(t, .own y) :: (u, .top) :: s.fr, s.M⟩ Q) : WO P c ops (o :: rest) s Q := by
  rintro a w ⟨F, β, fb, mb, ow, hi⟩
  obtain ⟨bf, hrf, _⟩ := hi.opd fo
  rw [hf] at hrf
  obtain ⟨arr, bs', hv, hr1, rfl⟩ := relD_append' hrf
  have ha : arr = #[] := by
    have := hr1.length
    cases arr with
    | mk l => cases l with
      | nil => rfl
      | cons _ _ => simp at this
  subst ha
  obtain ⟨bs, hr2, h2⟩ := relD_ops hi az
  have hsound : RelD w F (fun _ => none) (az.map a.eval) (az.map (opd s.fr)) [] := hr2.imms hes
  -- what is handed over
  have hown : ∃ bx, OwnL w [a.eval x] [a0] bx ∧ bx.Nodup ∧ ∀ b, b ∈ bx → ow b = some (.inl u) := by
    rcases hx with ⟨rfl, hl⟩ | ⟨hn, n, rfl⟩
    · have hr := hi.fr u
      rw [hl] at hr
      have hnd := hi.nfr u
      have hof := hi.ofr u
      generalize fb u = bu at hr hnd hof
      simp only [Act.eval]
      generalize a.tmps.getD u undef = xv at hr
      cases hr with
      | own q1 q2 => cases q2; rw [List.append_nil] at hnd hof; exact ⟨_, q1, hnd, hof⟩
    · obtain ⟨bn, hrn, _⟩ := hi.opd x
      rw [hn] at hrn
      generalize a.eval x = xv at hrn
      cases hrn with
      | nil _ => exact ⟨[], .none .nil, by simp, by simp⟩
  obtain ⟨bx, hO, hnd, hob⟩ := hown
  have hbl : ∀ b, b ∈ bx → b < w.heap.size ∧ ¬ F b := fun b hb => by
    have := hi.own b (by rw [hob b hb]; simp)
    exact ⟨this.2.1, this.1⟩
  have hrun : (execOp a.eval o).run P w = .ok (.enter f ((az.map a.eval).toArray.push (a.eval x))) w := by
    have e1 : args.map a.eval = (az.map a.eval).toArray.push (a.eval x) := by
      apply Array.toList_inj.1
      simp [hargs]
    simp [execOp, ho, resolve, hv, Deferred.ofValue, invoke, run_callFunc hc.1, e1]
  refine wpList_plain hg fun K hK => ?_
  unfold Oper.wp
  rw [hrun, Oper.upon_enter]
  refine (hc.2 w F (az.map a.eval).toArray (a.eval x) bx hi.fin (by simpa using hsound) hO hnd hbl).mono ?_
  rintro e w' ⟨v, bs2, rfl, g1, g2, g3, g4, g5, g6, g7, g8⟩
  dsimp only
  rw [hd]
  have hFw : ∀ b, F b → w'.heap[b]? = w.heap[b]? := fun b h => g5 b (hi.fin b h) fun h' => (hbl b h').2 h
  have how : ∀ b y, ow b = some y → y ≠ .inl u → w'.heap[b]? = w.heap[b]? := fun b y h hne => g5 b (hi.own b (by rw [h]; simp)).2.1 fun h' => by rw [hob b h'] at h; cases h; exact hne rfl
  have hnot : ∀ b y, ow b = some y → y ≠ .inl u → b ∉ bs2 := fun b y h hne h' => by
    rcases g8 b h' with h1 | h1
    · rw [hob b h1] at h; cases h; exact hne rfl
    · have := (hi.own b (by rw [h]; simp)).2.1; omega
  refine hK _ _ (k _ _ ⟨F, β, fun z => if t = z then bs2 else if u = z then [] else fb z, mb, fun b => if b ∈ bs2 then some (.inl t) else ow b, ?_⟩)
  exact { hi with
    fr := fun z => by
      rw [getD_put _ _ _ _ (by rw [hi.tmps]; exact ht)]
      simp only [look]
      split
      · simpa using RelD.own g6 (.done (w := w') (F := F) (β := β))
      · split
        · exact .top .done
        · rename_i h1 h2
          exact (hi.fr z).mono (fun _ h => h) hFw (fun b h => how b _ (hi.ofr z b h) fun e => by cases e; exact h2 rfl) fun _ => rfl
    mem := fun id => by
      have := hi.mem id
      cases h : lookM s.M id with
      | none => rw [h] at this; exact this
      | some k =>
        rw [h] at this
        exact RelB.mono this hFw fun b h => how b _ (hi.omem id b h) (by simp)
    ofr := fun z b h => by
      split at h
      · rename_i e; subst e; rw [if_pos h]
      · split at h
        · cases h
        · rename_i h1 h2
          have h3 := hi.ofr z b h
          rw [if_neg (hnot b _ h3 fun e => by cases e; exact h2 rfl)]; exact h3
    omem := fun id b h => by
      have h3 := hi.omem id b h
      rw [if_neg (hnot b _ h3 (by simp))]; exact h3
    nfr := fun z => by
      split
      · exact g7
      · split
        · simp
        · exact hi.nfr z
    own := fun b h => by
      split at h
      · rename_i h1
        rcases g8 b h1 with h2 | h2
        · obtain ⟨p1, p2, p3⟩ := hi.own b (by rw [hob b h2]; simp)
          exact ⟨p1, Nat.lt_of_lt_of_le p2 g4, p3⟩
        · exact ⟨fun h5 => by have := hi.fin b h5; omega, h2.2, .inl (Nat.le_trans hi.size h2.1)⟩
      · obtain ⟨p1, p2, p3⟩ := hi.own b h
        exact ⟨p1, Nat.lt_of_lt_of_le p2 g4, p3⟩
    fin := fun b h => Nat.lt_of_lt_of_le (hi.fin b h) g4
    os := g1.trans hi.os
    tape := g2.trans hi.tape
    output := g3.trans hi.output
    size := Nat.le_trans hi.size g4
    keep := fun b h hg => by
      rw [g5 b (Nat.lt_of_lt_of_le h hi.size) fun h' => ?_]
      · exact hi.keep b h hg
      · obtain ⟨_, _, p3⟩ := hi.own b (by rw [hob b h']; simp)
        rcases p3 with p3 | p3
        · omega
        · exact hg p3
    defers := (defers_put a _ v).trans hi.defers
    tmps := (size_put a _ v).trans hi.tmps }

/-- From a walk to what such a function does. -/
theorem FunO.intro {Γ : Tys} (hΓ : Γ.ok P) {f : FuncId} {fn : Func} {code : Code} (hf : P.funcs[f]? = some fn) (hb : fn.body = some code) (hname : (fn.name == "runtime.NumGoroutine") = false) {N : Nat} {ds : List D} {x y : T} (hN : ds.length + 1 + (fn.ntmps - (ds.length + 1)) = N)
    (h : ∀ w0 G F0, W P ⟨w0, G, F0, N⟩ code ⟨(List.range (ds.length + 1)).zip (ds ++ [.own x]), []⟩ (Ends Γ fn [.own y])) : FunO P f ds x y := by
  refine ⟨⟨fn, hf, by rw [hb]; rfl, hname⟩, ?_⟩
  intro w F args v bs hF hargs hO hnd hbs
  have hlen := hargs.length
  simp only [Array.length_toList] at hlen
  refine calls_of_wp hf hb ?_
  have h0 : Is ⟨w, fun b => b ∈ bs, F, N⟩ ⟨(List.range (ds.length + 1)).zip (ds ++ [.own x]), []⟩ { tmps := args.push v ++ Array.replicate (fn.ntmps - (args.push v).size) undef, defers := [] } w := by
    refine ⟨F, fun _ => none, fun t => if t = ds.length then bs else [], fun _ => [], fun b => if b ∈ bs then some (.inl ds.length) else none, ?_⟩
    have hlook : ∀ (l : List D) (k t : Nat), look ((List.range' k l.length).zip l) (k + t) = (l[t]?).getD .top := by
      intro l
      induction l with
      | nil => intro k t; simp [look]
      | cons d l ih =>
        intro k t
        rw [List.length_cons, List.range'_succ, List.zip_cons_cons]
        simp only [look]
        cases t with
        | zero => simp
        | succ t =>
          rw [if_neg (by omega), show k + (t + 1) = k + 1 + t from by omega, ih]
          simp
    have hl0 : ∀ t, look ((List.range (ds.length + 1)).zip (ds ++ [.own x])) t = ((ds ++ [.own x])[t]?).getD .top := fun t => by
      have := hlook (ds ++ [.own x]) 0 t
      simpa [List.range_eq_range'] using this
    have hval : ∀ t, t < (args.push v).size → (args.push v ++ Array.replicate (fn.ntmps - (args.push v).size) undef).getD t undef = ((args.push v)[t]?).getD undef := fun t ht => by
      rw [Array.getD_eq_getD_getElem?, Array.getElem?_append_left ht]
    exact {
      fr := fun t => by
        rw [hl0]
        by_cases h1 : t < ds.length
        · rw [List.getElem?_append_left h1, if_neg (by omega)]
          have hd : ds[t]? = some ds[t] := by simp [h1]
          obtain ⟨v', h2, h3⟩ := hargs.get0 t hd
          rw [hval t (by simp; omega), hd]
          have : (args.push v)[t]? = some v' := by
            rw [Array.getElem?_push_lt (by omega)]
            have : args[t]? = some v' := by simpa using h2
            rw [← this]; simp [hlen, h1]
          rw [this]
          exact h3
        · by_cases h2 : t = ds.length
          · subst h2
            rw [if_pos rfl, hval _ (by simp; omega)]
            have : (args.push v)[ds.length]? = some v := by rw [← hlen]; simp
            rw [this]
            simpa using RelD.own hO (.done (w := w) (F := F) (β := fun _ => none))
          · rw [if_neg h2, List.getElem?_eq_none (by simp; omega)]
            exact .top .done
      mem := fun id => rfl
      ofr := fun t b hb => by
        split at hb
        · rename_i e; rw [if_pos hb, e]
        · cases hb
      omem := by simp
      nfr := fun t => by split <;> simp [hnd]
      nmem := by simp
      own := fun b hb => by
        split at hb
        · rename_i h; exact ⟨(hbs b h).2, (hbs b h).1, .inr h⟩
        · exact absurd rfl hb
      fin := hF
      f0 := fun _ h => h
      fnew := fun _ h => .inl h
      f0in := fun b h => ⟨hF b h, fun h' => (hbs b h').2 h⟩
      gin := fun b h => (hbs b h).1
      os := rfl
      tape := rfl
      output := rfl
      size := Nat.le_refl _
      keep := fun _ _ _ => rfl
      defers := rfl
      tmps := by simp [hlen]; omega }
  refine Code.wp_mono ?_ (h w (fun b => b ∈ bs) F _ _ h0)
  rintro e a' w' ⟨s', ⟨F', β, fb, mb, ow, hi⟩, hq⟩
  have key : ∀ ys, RetOk Γ s' fn.results.toList [.own y] ys → ys.Nodup → a'.defers = [] ∧ ∃ v, (results fn a'.tmps).run P w' = .ok v w' ∧
      ∃ v' bs', Ending.returned v = .returned v' ∧ w'.os = w.os ∧ w'.tape = w.tape ∧ w'.output = w.output ∧ w.heap.size ≤ w'.heap.size ∧ (∀ b, b < w.heap.size → b ∉ bs → w'.heap[b]? = w.heap[b]?) ∧
      OwnL w' [v'] [y] bs' ∧ bs'.Nodup ∧ ∀ b, b ∈ bs' → b ∈ bs ∨ (w.heap.size ≤ b ∧ b < w'.heap.size) := by
    intro ys h1 h2
    obtain ⟨vs, bs2, q1, q2, q3, q4⟩ := ret_vals hΓ hi h1 h2
    have hl := q2.length
    obtain ⟨v1, rfl⟩ : ∃ v1, vs = [v1] := by
      match vs, hl with
      | [v1], _ => exact ⟨v1, rfl⟩
    have hres := results_run (P := P) fn a'.tmps q1
    · refine ⟨hi.defers, _, hres, _, bs2, rfl, hi.os, hi.tape, hi.output, hi.size, fun b hb hn => hi.keep b hb hn, ?_, q3, fun b hb => ?_⟩
      · cases q2 with
        | own p1 p2 => cases p2; rw [List.append_nil]; exact p1
      · obtain ⟨y', h5, _⟩ := q4 b hb
        obtain ⟨h6, h7, h8⟩ := hi.own b (by rw [h5]; simp)
        exact h8.symm.imp (fun h => h) fun h => ⟨h, h7⟩
  cases e with
  | normal => obtain ⟨ys, h1, h2, h3⟩ := hq; exact key ys h1 h2
  | ret => obtain ⟨ys, h1, h2, h3⟩ := hq; exact key ys h1 h2
  | _ => exact hq.elim

end
end Go.Eng
