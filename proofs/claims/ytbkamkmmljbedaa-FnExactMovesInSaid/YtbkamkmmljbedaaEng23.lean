/- Statements of open order in which an operation that hangs on nothing may come anywhere, beside others whose place is fixed. -/
import Derived.Test.YtbkamkmmljbedaaEng22
set_option linter.unusedVariables false
set_option linter.unusedSimpArgs false
namespace Go.Eng
open Go.RowKit

/-- The operations from m on come last of the first N, in the order of the text. -/
def tailN (ops : Array Oper) (m N : Nat) : Bool := ((List.range m).all fun k => (List.range (m + 1)).any fun j => Nat.blt k j && match ops[j]? with | some oj => bindsOn oj k | none => false) &&
  (List.range N).all fun p => Nat.ble p m || match ops[p]? with | some op => bindsOn op (p - 1) | none => false
/-- It ends as it should, in no other way. -/
def nQ (Q : Exit → St → Prop) : Exit → St → Prop
  | .normal, s => Q .normal s
  | _, _ => False

section
variable {P : Program} {c : Ctx} {s : St} {Q : Exit → St → Prop} {ops : Array Oper} {rest : List Oper} {o : Oper}
theorem nQ_n (h : Q .normal s) : nQ Q .normal s := h
theorem tailN_first {m N : Nat} (h : tailN ops m N = true) {k : Nat} (hk : k < m) : ∃ j oj, k < j ∧ j ≤ m ∧ ops[j]? = some oj ∧ ∃ e, e ∈ oj.after ∧ Region.binds .any e = true ∧ e.on = k := by
  unfold tailN at h
  rw [Bool.and_eq_true, List.all_eq_true] at h
  have h1 := h.1 k (List.mem_range.2 hk)
  rw [List.any_eq_true] at h1
  obtain ⟨j, hj, h2⟩ := h1
  rw [Bool.and_eq_true] at h2
  cases hoj : ops[j]? with
  | none => rw [hoj] at h2; cases h2.2
  | some oj =>
    rw [hoj] at h2
    have := List.mem_range.1 hj
    exact ⟨j, oj, by simpa using h2.1, by omega, hoj, bindsOn_spec h2.2⟩
theorem tailN_next {m N : Nat} (h : tailN ops m N = true) {p : Nat} {op : Oper} (hp : ops[p]? = some op) (hN : p < N) (hm : m < p) : ∃ e, e ∈ op.after ∧ Region.binds .any e = true ∧ e.on = p - 1 := by
  unfold tailN at h
  rw [Bool.and_eq_true, List.all_eq_true (l := List.range N)] at h
  have h1 := h.2 p (List.mem_range.2 hN)
  rw [hp] at h1
  rw [Bool.or_eq_true] at h1
  exact bindsOn_spec (h1.resolve_left (by simp; omega))

/-- The operations whose place is fixed, one after the other. -/
theorem tailN_run {Qx : Exit → Act → World → Prop} {m N : Nat} (hN : N ≤ ops.size) (hB : orderT ops m = true) (hT : tailN ops m N = true) : ∀ (l : List Oper) (k : Nat) (listed : Array Bool) (a : Act) (w : World), m ≤ k → k + l.length = N → (∀ j, j < l.length → l[j]? = ops[k + j]?) →
    listed.size = ops.size → (∀ j, j < N → listed.getD j false = decide (j < k)) → (∀ j, N ≤ j → j < ops.size → listed.getD j false = true) → wpList P ops Qx l a w → wpAny P .any ops Qx l.length listed a w
  | [], k, listed, a, w, hmk, hl, hops, hsz, hli, hlz, h => by
    refine ⟨?_, h⟩
    refine List.eq_nil_iff_forall_not_mem.2 fun i hi => ?_
    obtain ⟨oi, h1, h2, _⟩ := of_ready hsz hi
    have := (Array.getElem?_eq_some_iff.1 h1).1
    simp only [List.length_nil] at hl
    by_cases hiN : i < N
    · rw [hli i hiN] at h2
      simp at h2; omega
    · rw [hlz i (by omega) this] at h2; cases h2
  | o :: l, k, listed, a, w, hmk, hl, hops, hsz, hli, hlz, h => by
    have hok : ops[k]? = some o := by have := hops 0 (by simp); simpa using this.symm
    have hkN : k < N := by simp only [List.length_cons] at hl; omega
    have hk : k < ops.size := (Array.getElem?_eq_some_iff.1 hok).1
    have hrk : k ∈ Region.ready .any ops listed := ready_of hsz hok (by rw [hli k hkN]; simp) fun e he hb => by
      have := orderT_lt hB hok e he hb
      rw [hli _ (by omega)]; simpa using this
    rw [List.length_cons]
    refine ⟨fun hn => (by rw [hn] at hrk; cases hrk), fun i hi => ?_⟩
    obtain ⟨oi, h1, h2, h3⟩ := of_ready hsz hi
    have hin := (Array.getElem?_eq_some_iff.1 h1).1
    have hiN : i < N := by
      refine Classical.byContradiction fun hn => ?_
      rw [hlz i (by omega) hin] at h2; cases h2
    have hik : i = k := by
      rw [hli i hiN] at h2
      have h2' : k ≤ i := by simpa using h2
      refine Classical.byContradiction fun hne => ?_
      obtain ⟨e, he, hb, hon⟩ := tailN_next hT h1 hiN (by omega)
      have := h3 e he hb
      rw [hon, hli _ (by omega)] at this
      simp at this; omega
    subst hik
    unfold wpOp
    rw [hok]
    dsimp only
    have ih := fun a w h => tailN_run (Qx := Qx) hN hB hT l (i + 1) (listed.setIfInBounds i true) a w (by omega) (by simp only [List.length_cons] at hl; omega) (fun j hj => by have := hops (j + 1) (by simp; omega); simpa [Nat.add_assoc, Nat.add_comm 1 j] using this) (by simp [hsz]) (fun j hj => by
      rw [getD_set (by omega), hli j hj]
      by_cases hji : j = i
      · subst hji; simp
      · have : (j == i) = false := by simp [hji]
        rw [this, Bool.or_false]
        congr 1
        exact propext ⟨fun h => by omega, fun h => by omega⟩) (fun j hj hj' => by rw [getD_set (by omega), hlz j hj hj']; rfl) h
    unfold wpList at h
    split at h
    · rename_i hw
      rw [if_pos hw]
      exact h.imp (fun h => Oper.wp_mono ih h) fun h => h
    · rename_i hw
      rw [if_neg hw]
      exact ih _ _ h

/-- Some operations at the end having been done, the first in any order, those behind them in theirs. -/
theorem any_tail {l1 l2 l3 : List Oper} {ops : Array Oper} (he : ops = (l1 ++ (l2 ++ l3)).toArray) (hB : orderT ops l1.length = true) (hT : tailN ops l1.length (l1.length + l2.length) = true) (h : QL P c ops l1 s (fun s' => WO P c ops l2 s' Q))
    {listed0 : Array Bool} {a : Act} {w : World} (hi : Is c s a w) (hsz0 : listed0.size = ops.size) (hl0 : ∀ j, j < l1.length + l2.length → listed0.getD j false = false) (hl1 : ∀ j, l1.length + l2.length ≤ j → j < ops.size → listed0.getD j false = true) : wpAny P .any ops (lift c Q) (l1.length + l2.length) listed0 a w := by
  obtain ⟨r, sf, q1, q2, q3, q4⟩ := h.steps
  have hops : ∀ j, j < l1.length → ops[j]? = l1[j]? := fun j hj => by subst he; rw [List.getElem?_toArray, List.getElem?_append_left hj]
  have hops2 : ∀ j, j < l2.length → l2[j]? = ops[l1.length + j]? := fun j hj => by subst he; rw [List.getElem?_toArray, List.getElem?_append_right (Nat.le_add_right _ _), Nat.add_sub_cancel_left, List.getElem?_append_left hj]
  have hsize : ops.size = l1.length + (l2.length + l3.length) := by subst he; simp
  -- the state once X is done
  have key : ∀ (n : Nat) (listed : Array Bool) (a : Act) (w : World), listed.size = ops.size → n + (listed.toList.take l1.length).count true = l1.length →
      (∀ j, l1.length ≤ j → j < l1.length + l2.length → listed.getD j false = false) → (∀ j, l1.length + l2.length ≤ j → j < ops.size → listed.getD j false = true) →
      (∀ j oj, l1[j]? = some oj → listed.getD j false = true → ∀ e, e ∈ oj.after → Region.binds .any e = true → listed.getD e.on false = true) →
      (∃ s', s'.M = s.M ∧ (∀ u, look s'.fr u = lk r (look s.fr) (fun j => listed.getD j false) l1.length u) ∧ Is c s' a w) →
      wpAny P .any ops (lift c Q) (n + l2.length) listed a w := by
    intro n
    induction n with
    | zero =>
      intro listed a w hsz hcnt htl htz hcl ⟨s', hM, hlook, hs'⟩
      have hall : ∀ j, j < l1.length → listed.getD j false = true := by
        intro j hj
        refine Classical.byContradiction fun hf => ?_
        have hf' : listed.getD j false = false := by simpa using hf
        have h2 : (listed.toList.take l1.length).length = l1.length := by have := Array.length_toList (xs := listed); rw [List.length_take]; omega
        have h3 := List.count_le_length (a := true) (l := listed.toList.take l1.length)
        have h4 : (listed.toList.take l1.length).count true = (listed.toList.take l1.length).length := by omega
        rw [List.count_eq_length] at h4
        have hjs : j < listed.size := by omega
        have := h4 (listed[j]) (by rw [List.mem_take_iff_getElem]; exact ⟨j, by simp; omega, by simp⟩)
        rw [Array.getD_eq_getD_getElem?, Array.getElem?_eq_getElem hjs] at hf'
        rw [← this] at hf'; cases hf'
      rw [Nat.zero_add]
      refine tailN_run (N := l1.length + l2.length) (by omega) hB hT l2 l1.length listed a w (Nat.le_refl _) rfl hops2 hsz (fun j hj => ?_) htz ?_
      · by_cases hjl : j < l1.length
        · rw [hall j hjl]; simp [hjl]
        · rw [htl j (by omega) hj]; simp [hjl]
      · refine q1 a w (Le.of (s := s') (fun u => .inl ?_) (fun u => .inl (by rw [q2, hM])) _ _ hs')
        rw [q3, hlook]
        exact lk_congr fun j hj _ => (hall j hj).symm
    | succ n ih =>
      intro listed a w hsz hcnt htl htz hcl ⟨s', hM, hlook, hs'⟩
      -- one of the first is not done
      have hsome : ∃ i, i < l1.length ∧ listed.getD i false = false := by
        refine Classical.byContradiction fun hno => ?_
        have hall : ∀ j, j < l1.length → listed.getD j false = true := fun j hj => by
          refine Classical.byContradiction fun hf => hno ⟨j, hj, by simpa using hf⟩
        have h1 : l1.length ≤ (listed.toList.take l1.length).count true := by
          have h2 : (listed.toList.take l1.length).length = l1.length := by have := Array.length_toList (xs := listed); rw [List.length_take]; omega
          have : (listed.toList.take l1.length).count true = (listed.toList.take l1.length).length := List.count_eq_length.2 fun b hb => by
            obtain ⟨j, hj, rfl⟩ := List.mem_take_iff_getElem.1 hb
            rw [Array.length_toList (xs := listed)] at hj
            have h5 := hall j (by omega)
            rw [Array.getD_eq_getD_getElem?, Array.getElem?_eq_getElem (by omega)] at h5
            simpa using h5.symm
          omega
        omega
      have hleast : ∃ i, i < l1.length ∧ listed.getD i false = false ∧ ∀ j, j < i → listed.getD j false = true := by
        obtain ⟨i0, hi0, hu0⟩ := hsome
        clear hcnt
        induction i0 using Nat.strongRecOn with
        | _ n ihn =>
          by_cases hx : ∃ j, j < n ∧ listed.getD j false = false
          · obtain ⟨j, hj, hf⟩ := hx
            exact ihn j hj (by omega) hf
          · refine ⟨n, hi0, hu0, fun j hj => ?_⟩
            cases hf : listed.getD j false with
            | true => rfl
            | false => exact absurd ⟨j, hj, hf⟩ hx
      have hready : Region.ready .any ops listed ≠ [] := by
        obtain ⟨i, hi1, hi2, hi3⟩ := hleast
        have hoi : ops[i]? = some l1[i] := by rw [hops i hi1]; simp
        intro hnil
        have : i ∈ Region.ready .any ops listed := ready_of hsz hoi hi2 fun e he hb => hi3 _ (orderT_lt hB hoi e he hb)
        rw [hnil] at this; cases this
      rw [Nat.succ_add]
      refine ⟨fun h => absurd h hready, fun i hir => ?_⟩
      -- operation i, now
      obtain ⟨oi, hoi0, hun', hafter⟩ := of_ready hsz hir
      have hil : i < l1.length := by
        refine Classical.byContradiction fun hni => ?_
        by_cases hie : i = l1.length
        · subst hie
          have hall : ∀ d j, j + d = l1.length → d ≠ 0 → listed.getD j false = true := by
            intro d
            induction d using Nat.strongRecOn with
            | _ d ihd =>
              intro j hjd hd
              obtain ⟨j2, oj2, p1, p2, p3, e, p4, p5, p6⟩ := tailN_first hT (k := j) (by omega)
              by_cases hj2 : j2 = l1.length
              · subst hj2
                rw [hoi0] at p3; cases p3
                rw [← p6]; exact hafter e p4 p5
              · rw [← p6]
                exact hcl j2 oj2 (by rw [← hops j2 (by omega)]; exact p3) (ihd (l1.length - j2) (by omega) j2 (by omega) (by omega)) e p4 p5
          obtain ⟨j, hj, hf⟩ := hsome
          rw [hall (l1.length - j) j (by omega) (by omega)] at hf; cases hf
        · have hiN : i < l1.length + l2.length := by
            refine Classical.byContradiction fun hn => ?_
            rw [htz i (by omega) (Array.getElem?_eq_some_iff.1 hoi0).1] at hun'; cases hun'
          obtain ⟨e, p4, p5, p6⟩ := tailN_next hT hoi0 hiN (by omega)
          have := hafter e p4 p5
          rw [p6, htl _ (by omega) (by omega)] at this; cases this
      have hoi : ops[i]? = some l1[i] := by rw [hops i hil]; simp
      rw [hoi] at hoi0; cases hoi0
      have hli : l1[i]? = some l1[i] := List.getElem?_eq_getElem hil
      obtain ⟨hdst, hstep⟩ := q4 i l1[i] hli
      -- the writers of what it looks at are as in the text
      have hwr : ∀ u, u ∈ l1[i].looksAt ops → ∀ j, j < l1.length → (r j).1 = u → listed.getD j false = decide (j < i) := by
        intro u hu j hj hru
        have hoj : ops[j]? = some l1[j] := by rw [hops j hj]; simp
        obtain ⟨hdj, _⟩ := q4 j l1[j] (List.getElem?_eq_getElem hj)
        by_cases hji : j < i
        · simp only [hji, decide_true]
          rcases orderT_spec hB hoj hj i _ hoi hil hji with ⟨e, he, hb, hon⟩ | hap
          · rw [← hon]; exact hafter e he hb
          · exact absurd (hru ▸ hu) ((Oper.apart_spec hap).1 _ hdj)
        · by_cases hje : j = i
          · subst hje; simpa using hun'
          · have hij : i < j := by omega
            have hdec : decide (j < i) = false := by simp; omega
            rw [hdec]
            cases hX : listed.getD j false with
            | false => rfl
            | true =>
              rcases orderT_spec hB hoi hil j _ hoj hj hij with ⟨e, he, hb, hon⟩ | hap
              · have := hcl j _ (List.getElem?_eq_getElem hj) hX e he hb
                rw [hon, hun'] at this
                cases this
              · exact absurd (hru ▸ hu) ((Oper.apart_spec hap).2.2 _ hdj)
      have hst := hstep s' hM fun u hu => by
        rw [hlook, ← lk_first (r := r) (base := look s.fr) (show i ≤ l1.length by omega)]
        exact lk_congr fun j hj hru => hwr u hu j hj hru
      have hno : ∀ j, j < l1.length → i < j → listed.getD j false = true → (r j).1 ≠ (r i).1 := by
        intro j hj hij hX he
        have hoj : ops[j]? = some l1[j] := by rw [hops j hj]; simp
        obtain ⟨hdj, _⟩ := q4 j l1[j] (List.getElem?_eq_getElem hj)
        rcases orderT_spec hB hoi hil j _ hoj hj hij with ⟨e, he', hb, hon⟩ | hap
        · have := hcl j _ (List.getElem?_eq_getElem hj) hX e he' hb
          rw [hon, hun'] at this
          cases this
        · exact (Oper.apart_spec hap).2.1 _ hdst (by rw [hdj, he])
      unfold wpOp
      rw [hoi]
      dsimp only
      have hset : ∀ j, (listed.setIfInBounds i true).getD j false = (listed.getD j false || j == i) := getD_set (by omega)
      have hfin := hst.wp (K := wpAny P .any ops (lift c Q) (n + l2.length) (listed.setIfInBounds i true)) (Q' := lift c Q) hs' fun a' w' h' => by
        refine ih _ a' w' (by simp [hsz]) ?_ ?_ ?_ ?_ ⟨⟨((r i).1, (r i).2) :: s'.fr, s'.M⟩, hM, fun u => ?_, h'⟩
        · have hl2 : (listed.toList.take l1.length)[i]? = some false := by
            rw [List.getElem?_take_of_lt hil, Array.getElem?_toList, Array.getElem?_eq_getElem (by omega)]
            rw [Array.getD_eq_getD_getElem?, Array.getElem?_eq_getElem (by omega)] at hun'
            simpa using hun'
          rw [Array.toList_setIfInBounds, List.take_set, count_set hl2]
          omega
        · intro j hj hj'
          rw [hset, htl j hj hj']
          simp; omega
        · intro j hj hj'
          rw [hset, htz j hj hj']; rfl
        · intro j oj hj hX e he hb
          rw [hset] at hX ⊢
          by_cases hji : j = i
          · subst hji
            have : oj = l1[j] := by rw [hli] at hj; exact (Option.some.inj hj).symm
            subst this
            rw [hafter e he hb]; rfl
          · have : (j == i) = false := by simp [hji]
            rw [this, Bool.or_false] at hX
            rw [hcl j oj hj hX e he hb]; rfl
        · simp only [look]
          rw [show (fun j => (listed.setIfInBounds i true).getD j false) = (fun j => listed.getD j false || j == i) from funext hset]
          rw [lk_add hil hno, hlook]
      by_cases hw : Region.wanted l1[i] (yielded ops a.tmps) = true
      · rw [if_pos hw] at hfin ⊢
        exact .inl hfin
      · rw [if_neg hw] at hfin ⊢
        exact hfin
  refine key l1.length listed0 a w hsz0 ?_ (fun j hj hj' => hl0 j hj') hl1 ?_ ⟨s, rfl, fun u => ?_, hi⟩
  · rw [List.count_eq_zero.2, Nat.add_zero]
    intro hm
    obtain ⟨j, hj, hjt⟩ := List.mem_take_iff_getElem.1 hm
    have h5 := hl0 j (by omega)
    rw [Array.getD_eq_getD_getElem?, Array.getElem?_eq_getElem (by rw [Array.length_toList (xs := listed0)] at hj; omega)] at h5
    rw [Array.getElem_toList] at hjt
    rw [hjt] at h5; cases h5
  · intro j oj hj hX
    rw [hl0 j (by have := (List.getElem?_eq_some_iff.1 hj).1; omega)] at hX; cases hX
  · have : lk r (look s.fr) (fun j => listed0.getD j false) l1.length u = lk r (look s.fr) (fun j => decide (j < 0)) l1.length u := lk_congr fun j hj _ => by
      rw [hl0 j (by omega)]; simp
    rw [this, lk_first (Nat.zero_le _)]
    rfl

/-- One operation at the end hangs on nothing, and sets what is given: it comes first. -/
theorem W_regionDZ {id : Nat} {l1 l2 : List Oper} {z : Oper} {ops : Array Oper} {t : Nat} {v : Value} (hm : P.follows .mixedOrders = true) (he : ops = (l1 ++ (l2 ++ [z])).toArray) (hzo : z.op = .move (.const v)) (hzg : z.guard = none) (hzd : z.dst = some t) (ht : t < c.n)
    (hs : Region.noSelect ops = true) (hr : (Region.ready .any ops (Array.replicate ops.size false)).contains (l1.length + l2.length) = true) (hf : Region.free .any ops (Array.replicate ops.size false) (l1.length + l2.length) = true)
    (hB : orderT ops l1.length = true) (hT : tailN ops l1.length (l1.length + l2.length) = true) (h : QL P c ops l1 ⟨(t, opd s.fr (.const v)) :: s.fr, s.M⟩ (fun s' => WO P c ops l2 s' (nQ Q))) : W P c (.region id ops true) s Q := by
  intro a w hi
  have hsize : ops.size = l1.length + l2.length + 1 := by subst he; simp; omega
  have hz : ops[l1.length + l2.length]? = some z := by subst he; rw [List.getElem?_toArray, ← List.append_assoc, List.getElem?_append_right (by simp)]; simp
  refine Code.wp_mono (Q := lift c (nQ Q)) (fun e a w => ?_) (wp_region_any hm ?_)
  · rintro ⟨s', h1, h2⟩
    cases e with
    | normal => exact ⟨s', h1, h2⟩
    | _ => exact h2.elim
  · obtain ⟨F, β, fb, mb, ow, hi⟩ := hi
    have hi := hi.drew
    obtain ⟨bs, hrv, hbs⟩ := hi.opd (.const v)
    have hbs' : bs = [] := by
      rcases hbs with h | ⟨t, h, _⟩
      · exact h
      · cases h
    subst hbs'
    have hi2 := hi.put ht hrv
    have hv : a.eval (.const v) = v := rfl
    rw [hsize, ← hsize]
    conv => arg 5; rw [hsize]
    refine wpAny_take hz hs hf hr (v := v) (fun ch a w ⟨s', _, h⟩ => h.elim) (.inl ⟨by unfold Region.wanted; rw [hzg], fun w => ?_⟩) ?_
    · rw [execOp, hzo]; rfl
    · rw [hzd]
      refine any_tail he hB hT h ⟨F, β, _, mb, ow, hi2⟩ (by simp) (fun j hj => ?_) (fun j hj hj' => ?_)
      · rw [getD_set (by simp; omega)]
        rw [Array.getD_eq_getD_getElem?, Array.getElem?_replicate]
        have : (j == l1.length + l2.length) = false := by simp; omega
        rw [this]
        split <;> rfl
      · have : j = l1.length + l2.length := by omega
        subst this
        rw [getD_set (by simp; omega)]; simp

theorem W_regionDZm {id : Nat} {ops : Array Oper} {z : Oper} {t : Nat} {v : Value} (m N : Nat) (hm : P.follows .mixedOrders = true) (hl : (ops.toList.take m).length = m) (hl2 : (ops.toList.take N).length = N) (hmN : Nat.ble m N = true) (hlz : ops.toList.drop N = [z])
    (hzo : z.op = .move (.const v)) (hzg : z.guard = none) (hzd : z.dst = some t) (ht : t < c.n)
    (hs : Region.noSelect ops = true) (hr : (Region.ready .any ops (Array.replicate ops.size false)).contains N = true) (hf : Region.free .any ops (Array.replicate ops.size false) N = true)
    (hB : orderT ops m = true) (hT : tailN ops m N = true) (h : QL P c ops (ops.toList.take m) ⟨(t, opd s.fr (.const v)) :: s.fr, s.M⟩ (fun s' => WO P c ops ((ops.toList.take N).drop m) s' (nQ Q))) : W P c (.region id ops true) s Q := by
  have hmN' : m ≤ N := by simpa using hmN
  have e1 : ops.toList.take m ++ (ops.toList.take N).drop m = ops.toList.take N := by
    have := List.take_append_drop m (ops.toList.take N)
    rw [List.take_take, Nat.min_eq_left hmN'] at this
    exact this
  have e2 : (ops.toList.take m).length + ((ops.toList.take N).drop m).length = N := by
    rw [← List.length_append, e1, hl2]
  refine W_regionDZ (l1 := ops.toList.take m) (l2 := (ops.toList.take N).drop m) (z := z) hm ?_ hzo hzg hzd ht hs (by rw [e2]; exact hr) (by rw [e2]; exact hf) (by rw [hl]; exact hB) (by rw [e2, hl]; exact hT) h
  rw [← List.append_assoc, e1, ← hlz, List.take_append_drop]

end
end Go.Eng
