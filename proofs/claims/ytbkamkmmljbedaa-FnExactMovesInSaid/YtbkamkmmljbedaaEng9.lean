/- Statements whose order of operations Go leaves open: one walk in the order of the text serves every order. -/
import Derived.Test.YtbkamkmmljbedaaEng8
import Derived.Orders
set_option linter.unusedVariables false
set_option linter.unusedSimpArgs false
namespace Go.Eng
open Go.RowKit

/-- Each operation waits for earlier ones alone; of two, the later waits for the earlier, or they have nothing to do with each other. -/
def orderB (ops : Array Oper) : Bool := (List.range ops.size).all fun k => match ops[k]? with
  | none => false
  | some ok => (ok.after.all fun e => !Region.binds .any e || Nat.blt e.on k) && (List.range ops.size).all fun j => !(Nat.blt k j) || match ops[j]? with
    | some oj => (oj.after.any fun e => Region.binds .any e && e.on == k) || ok.apart ops oj
    | none => false

section
variable {P : Program} {c : Ctx} {s : St} {Q : Exit → St → Prop} {ops : Array Oper} {rest : List Oper} {o : Oper}

theorem orderB_spec (h : orderB ops = true) {k : Nat} {ok : Oper} (hk : ops[k]? = some ok) : (∀ e, e ∈ ok.after → Region.binds .any e = true → e.on < k) ∧
    ∀ j oj, ops[j]? = some oj → k < j → (∃ e, e ∈ oj.after ∧ Region.binds .any e = true ∧ e.on = k) ∨ ok.apart ops oj = true := by
  have hks : k < ops.size := (Array.getElem?_eq_some_iff.1 hk).1
  unfold orderB at h
  rw [List.all_eq_true] at h
  have h1 := h k (List.mem_range.2 hks)
  rw [hk] at h1
  simp only [Bool.and_eq_true] at h1
  obtain ⟨h2, h3⟩ := h1
  refine ⟨fun e he hb => ?_, fun j oj hj hkj => ?_⟩
  · rw [Array.all_eq_true_iff_forall_mem] at h2
    have := h2 e he
    simpa [hb] using this
  · rw [List.all_eq_true] at h3
    have hjs : j < ops.size := (Array.getElem?_eq_some_iff.1 hj).1
    have h4 := h3 j (List.mem_range.2 hjs)
    rw [hj] at h4
    have hb : Nat.blt k j = true := by simpa using hkj
    simp only [hb, Bool.not_true, Bool.false_or, Bool.or_eq_true] at h4
    rcases h4 with h4 | h4
    · left
      rw [Array.any_eq_true] at h4
      obtain ⟨i, hi, h5⟩ := h4
      simp only [Bool.and_eq_true, beq_iff_eq] at h5
      exact ⟨oj.after[i], Array.getElem_mem hi, h5.1, h5.2⟩
    · exact .inr h4

/-- What an operation does that leaves memory alone. -/
def OpStep (P : Program) (c : Ctx) (ops : Array Oper) (o : Oper) (s : St) (t : Nat) (d : D) : Prop :=
  ∀ Q : Exit → St → Prop, WO P c ops [] ⟨(t, d) :: s.fr, s.M⟩ Q → WO P c ops [o] s Q

/-- The same temporaries, for an operation; the same memory. -/
def Agree (ops : Array Oper) (o : Oper) (s s' : St) : Prop := s'.M = s.M ∧ ∀ u, u ∈ o.looksAt ops → look s'.fr u = look s.fr u

/-- A walk of such operations, in the order of the text. -/
def QL (P : Program) (c : Ctx) (ops : Array Oper) : List Oper → St → (St → Prop) → Prop
  | [], s, Q => Q s
  | o :: rest, s, Q => ∃ t d, o.dst = some t ∧ (∀ s', Agree ops o s s' → OpStep P c ops o s' t d) ∧ QL P c ops rest ⟨(t, d) :: s.fr, s.M⟩ Q

theorem OpStep.wp {t : Nat} {d : D} (h : OpStep P c ops o s t d) {a : Act} {w : World} (hi : Is c s a w) {K : Act → World → Prop} {Q' : Exit → Act → World → Prop}
    (hK : ∀ a' w', Is c ⟨(t, d) :: s.fr, s.M⟩ a' w' → K a' w') : if Region.wanted o (yielded ops a.tmps) then o.wp P a w K Q' else K (a.put o.dst undef) w := by
  let Q : Exit → St → Prop := fun e s' => match e with | .normal => s' = ⟨(t, d) :: s.fr, s.M⟩ | _ => False
  have h1 := h Q (fun a w hi => ⟨_, hi, rfl⟩) a w hi
  unfold wpList at h1
  have hQ : ∀ e a w, lift c Q e a w → (match e with | .normal => K a w | _ => False) := fun e a w ⟨s', h2, h3⟩ => by
    cases e with
    | normal => have h3' : s' = ⟨(t, d) :: s.fr, s.M⟩ := h3; subst h3'; exact hK _ _ h2
    | _ => exact h3.elim
  split at h1
  · rename_i hw
    rw [if_pos hw]
    rcases h1 with h1 | ⟨_, a', w', h2⟩
    · unfold Oper.wp at h1 ⊢
      generalize (execOp a.eval o).run P w = r at h1
      cases r with
      | ok n w' =>
        cases n <;> simp only [Oper.upon] at h1 ⊢ <;> first
          | exact hQ .normal _ _ h1
          | (refine Calls.mono h1 fun e w'' he => ?_
             cases e with
             | returned v => exact hQ .normal _ _ he
             | panicked ch => exact (hQ _ _ _ he).elim
             | outgrown => obtain ⟨a1, w1, h3⟩ := he; exact (hQ _ _ _ h3).elim)
          | exact Rows.mono h1 fun _ _ he => hQ .normal _ _ he
          | exact h1
      | halt x w' => cases x <;> simp only [Oper.upon] at h1 ⊢ <;> first | exact (hQ _ _ _ h1).elim | exact h1
    · exact (hQ _ _ _ h2).elim
  · rename_i hw
    rw [if_neg hw]
    exact hQ .normal _ _ h1

/-- A temporary's contents once the operations in X are done (those below k looked at). -/
def lk (r : Nat → Nat × D) (base : Nat → D) (X : Nat → Bool) : Nat → Nat → D
  | 0, u => base u
  | k + 1, u => if X k = true ∧ (r k).1 = u then (r k).2 else lk r base X k u

theorem lk_congr {r : Nat → Nat × D} {base : Nat → D} {X Y : Nat → Bool} {u : Nat} : ∀ {n : Nat}, (∀ j, j < n → (r j).1 = u → X j = Y j) → lk r base X n u = lk r base Y n u
  | 0, _ => rfl
  | n + 1, h => by
    simp only [lk]
    have ih := lk_congr (base := base) (n := n) fun j hj hu => h j (by omega) hu
    by_cases hu : (r n).1 = u
    · rw [h n (by omega) hu, ih]
    · simp only [hu, and_false, if_false]; exact ih

theorem lk_add {r : Nat → Nat × D} {base : Nat → D} {X : Nat → Bool} {i u : Nat} : ∀ {n : Nat}, i < n → (∀ j, j < n → i < j → X j = true → (r j).1 ≠ (r i).1) →
    lk r base (fun j => X j || j == i) n u = if (r i).1 = u then (r i).2 else lk r base X n u
  | 0, h, _ => by omega
  | n + 1, h, hno => by
    simp only [lk]
    by_cases hin : i = n
    · subst hin
      simp only [beq_self_eq_true, Bool.or_true, true_and]
      have hc : lk r base (fun j => X j || j == i) i u = lk r base X i u := lk_congr fun j hj _ => by
        have : (j == i) = false := by simp; omega
        simp [this]
      rw [hc]
      by_cases hu : (r i).1 = u
      · simp [hu]
      · simp [hu]
    · have ih := lk_add (n := n) (base := base) (u := u) (by omega) fun j hj hij hX => hno j (by omega) hij hX
      have hni : (n == i) = false := by simp; omega
      simp only [hni, Bool.or_false]
      rw [ih]
      by_cases hX : X n = true
      · have hne := hno n (by omega) (by omega) hX
        by_cases hu : (r n).1 = u
        · have : ¬ (r i).1 = u := fun e => hne (hu.trans e.symm)
          simp [hX, hu, this]
        · simp [hu]
      · simp [hX]

theorem lk_first {r : Nat → Nat × D} {base : Nat → D} {i n u : Nat} (h : i ≤ n) : lk r base (fun j => decide (j < i)) n u = lk r base (fun _ => true) i u := by
  induction n with
  | zero => have : i = 0 := by omega
            subst this; rfl
  | succ n ih =>
    by_cases hin : i = n + 1
    · subst hin
      exact lk_congr fun j hj _ => by simp; omega
    · simp only [lk]
      have : decide (n < i) = false := by simp; omega
      simp only [this, Bool.false_eq_true, false_and, if_false]
      exact ih (by omega)

/-- The walk in the order of the text, operation by operation. -/
theorem QL.steps : ∀ {l : List Oper} {s : St} {Q : St → Prop}, QL P c ops l s Q → ∃ (r : Nat → Nat × D) (sf : St), Q sf ∧ sf.M = s.M ∧ (∀ u, look sf.fr u = lk r (look s.fr) (fun _ => true) l.length u) ∧
    ∀ i o, l[i]? = some o → o.dst = some (r i).1 ∧ ∀ s', s'.M = s.M → (∀ u, u ∈ o.looksAt ops → look s'.fr u = lk r (look s.fr) (fun _ => true) i u) → OpStep P c ops o s' (r i).1 (r i).2
  | [], s, Q, h => ⟨fun _ => (0, .top), s, h, rfl, fun _ => rfl, by simp⟩
  | o :: rest, s, Q, h => by
    obtain ⟨t, d, h1, h2, h3⟩ := h
    obtain ⟨r, sf, q1, q2, q3, q4⟩ := QL.steps h3
    let r' : Nat → Nat × D := fun i => match i with | 0 => (t, d) | i + 1 => r i
    have hlk : ∀ n u, lk r (look ((t, d) :: s.fr)) (fun _ => true) n u = lk r' (look s.fr) (fun _ => true) (n + 1) u := fun n u => by
      induction n with
      | zero => simp only [lk, look, r', true_and]
      | succ n ih =>
        rw [lk, ih]
        conv => rhs; rw [lk]
    refine ⟨r', sf, q1, q2, fun u => by rw [q3, hlk]; rfl, fun i o' hi => ?_⟩
    cases i with
    | zero =>
      simp at hi
      subst hi
      exact ⟨h1, fun s' hM hl => h2 s' ⟨hM, fun u hu => hl u hu⟩⟩
    | succ i =>
      obtain ⟨p1, p2⟩ := q4 i o' (by simpa using hi)
      exact ⟨p1, fun s' hM hl => p2 s' hM fun u hu => by rw [hl u hu, ← hlk]⟩

theorem count_set {l : List Bool} {i : Nat} (h : l[i]? = some false) : (l.set i true).count true = l.count true + 1 := by
  induction l generalizing i with
  | nil => simp at h
  | cons x l ih =>
    cases i with
    | zero => simp at h; subst h; simp
    | succ i =>
      have := ih (i := i) (by simpa using h)
      cases x <;> simp [this]

theorem W_regionD {id : Nat} {l : List Oper} (hm : P.follows .mixedOrders = true) (hB : orderB l.toArray = true) (h : QL P c l.toArray l s (fun s' => Q .normal s')) : W P c (.region id l.toArray true) s Q := by
  intro a w hi
  obtain ⟨r, sf, q1, q2, q3, q4⟩ := h.steps
  refine wp_region_any hm ?_
  -- the state once X is done
  have key : ∀ (fuel : Nat) (listed : Array Bool) (a : Act) (w : World), listed.size = l.length → fuel + listed.toList.count true = l.length →
      (∀ j oj, l[j]? = some oj → listed.getD j false = true → ∀ e, e ∈ oj.after → Region.binds .any e = true → listed.getD e.on false = true) →
      (∃ s', s'.M = s.M ∧ (∀ u, look s'.fr u = lk r (look s.fr) (fun j => listed.getD j false) l.length u) ∧ Is c s' a w) →
      wpAny P .any l.toArray (lift c Q) fuel listed a w := by
    intro fuel
    induction fuel with
    | zero =>
      intro listed a w hsz hcnt hcl ⟨s', hM, hlook, hs'⟩
      have hall : ∀ j, j < l.length → listed.getD j false = true := by
        intro j hj
        have h1 : listed.toList.count true = listed.toList.length := by rw [Array.length_toList, hsz]; omega
        rw [List.count_eq_length] at h1
        have hj' : j < listed.size := by omega
        have := h1 (listed[j]) (by simp)
        rw [Array.getD_eq_getD_getElem?, Array.getElem?_eq_getElem hj']
        simpa using this.symm
      refine ⟨?_, sf, ?_, q1⟩
      · unfold Region.ready
        rw [List.filter_eq_nil_iff]
        intro i hi'
        have hi2 : i < l.length := by simpa using List.mem_range.1 hi'
        have h1 := hall i hi2
        have h2 : listed.getD i true = true := by
          rw [Array.getD_eq_getD_getElem?] at h1 ⊢
          rw [Array.getElem?_eq_getElem (by omega)] at h1 ⊢
          exact h1
        simp [h2]
      · refine Le.of (s := s') (fun u => .inl ?_) (fun u => .inl (by rw [q2, hM])) _ _ hs'
        rw [q3, hlook]
        exact lk_congr fun j hj _ => (hall j hj).symm
    | succ fuel ih =>
      intro listed a w hsz hcnt hcl ⟨s', hM, hlook, hs'⟩
      -- somebody can go on
      have hsome : ∃ i, i < l.length ∧ listed.getD i false = false := by
        refine Classical.byContradiction fun hno => ?_
        have hall : ∀ b, b ∈ listed.toList → b = true := fun b hb => by
          obtain ⟨j, hj, rfl⟩ := List.getElem_of_mem hb
          refine Classical.byContradiction fun hb' => hno ⟨j, by simpa [hsz] using hj, ?_⟩
          rw [Array.getD_eq_getD_getElem?, Array.getElem?_eq_getElem (by simpa using hj)]
          simpa using hb'
        have : listed.toList.count true = listed.toList.length := List.count_eq_length.2 fun b hb => (hall b hb).symm
        rw [Array.length_toList, hsz] at this
        omega
      have hready : Region.ready .any l.toArray listed ≠ [] := by
        -- the least that is not done
        obtain ⟨i0, hi0, hu0⟩ := hsome
        have hleast : ∃ i, i < l.length ∧ listed.getD i false = false ∧ ∀ j, j < i → listed.getD j false = true := by
          clear hcnt
          induction i0 using Nat.strongRecOn with
          | _ n ihn =>
            by_cases hx : ∃ j, j < n ∧ listed.getD j false = false
            · obtain ⟨j, hj, hf⟩ := hx
              exact ihn j hj (by omega) hf
            · refine ⟨n, hi0, hu0, fun j hj => ?_⟩
              cases hf : listed.getD j false with
              | true => rfl
              | false => exact absurd ⟨j, hj, hf⟩ hx
        obtain ⟨i, hi1, hi2, hi3⟩ := hleast
        have hoi : l.toArray[i]? = some l[i] := by simp [hi1]
        have hsp := (orderB_spec hB hoi).1
        intro hnil
        unfold Region.ready at hnil
        rw [List.filter_eq_nil_iff] at hnil
        refine hnil i (List.mem_range.2 (by simpa using hi1)) ?_
        have h2 : listed.getD i true = false := by
          rw [Array.getD_eq_getD_getElem?] at hi2 ⊢
          rw [Array.getElem?_eq_getElem (by omega)] at hi2 ⊢
          exact hi2
        rw [hoi, h2]
        simp only [Bool.not_false, Bool.true_and, Option.map_some, Option.getD_some]
        rw [Array.all_eq_true_iff_forall_mem]
        intro e he
        cases hb : Region.binds .any e with
        | false => simp
        | true => simp only [Bool.not_true, Bool.false_or]; exact hi3 _ (hsp e he hb)
      refine ⟨fun h => absurd h hready, fun i hir => ?_⟩
      -- operation i, now
      unfold Region.ready at hir
      obtain ⟨hir1, hir2⟩ := List.mem_filter.1 hir
      have hil : i < l.length := by simpa using List.mem_range.1 hir1
      have hoi : l.toArray[i]? = some l[i] := by simp [hil]
      have hli : l[i]? = some l[i] := List.getElem?_eq_getElem hil
      rw [hoi] at hir2
      simp only [Bool.and_eq_true, Bool.not_eq_true', Option.map_some, Option.getD_some] at hir2
      obtain ⟨hun, haf⟩ := hir2
      rw [Array.all_eq_true_iff_forall_mem] at haf
      have hun' : listed.getD i false = false := by
        rw [Array.getD_eq_getD_getElem?] at hun ⊢
        rw [Array.getElem?_eq_getElem (by omega)] at hun ⊢
        exact hun
      have hafter : ∀ e, e ∈ l[i].after → Region.binds .any e = true → listed.getD e.on false = true := fun e he hb => by
        have := haf e he
        simpa [hb] using this
      obtain ⟨hdst, hstep⟩ := q4 i l[i] hli
      -- the writers of what it looks at are as in the text
      have hwr : ∀ u, u ∈ l[i].looksAt l.toArray → ∀ j, j < l.length → (r j).1 = u → listed.getD j false = decide (j < i) := by
        intro u hu j hj hru
        have hoj : l.toArray[j]? = some l[j] := by simp [hj]
        obtain ⟨hdj, _⟩ := q4 j l[j] (List.getElem?_eq_getElem hj)
        by_cases hji : j < i
        · simp only [hji, decide_true]
          rcases (orderB_spec hB hoj).2 i _ hoi hji with ⟨e, he, hb, hon⟩ | hap
          · rw [← hon]; exact hafter e he hb
          · exact absurd (hru ▸ hu) ((Oper.apart_spec hap).1 _ hdj)
        · by_cases hje : j = i
          · subst hje; simpa using hun'
          · have hij : i < j := by omega
            have hdec : decide (j < i) = false := by simp; omega
            rw [hdec]
            cases hX : listed.getD j false with
            | false => rfl
            | true =>
              rcases (orderB_spec hB hoi).2 j _ hoj hij with ⟨e, he, hb, hon⟩ | hap
              · have := hcl j _ (List.getElem?_eq_getElem hj) hX e he hb
                rw [hon, hun'] at this
                cases this
              · exact absurd (hru ▸ hu) ((Oper.apart_spec hap).2.2 _ hdj)
      have hst := hstep s' hM fun u hu => by
        rw [hlook, ← lk_first (r := r) (base := look s.fr) (show i ≤ l.length by omega)]
        exact lk_congr fun j hj hru => hwr u hu j hj hru
      -- no later writer of its own temporary has been
      have hno : ∀ j, j < l.length → i < j → listed.getD j false = true → (r j).1 ≠ (r i).1 := by
        intro j hj hij hX he
        have hoj : l.toArray[j]? = some l[j] := by simp [hj]
        obtain ⟨hdj, _⟩ := q4 j l[j] (List.getElem?_eq_getElem hj)
        rcases (orderB_spec hB hoi).2 j _ hoj hij with ⟨e, he', hb, hon⟩ | hap
        · have := hcl j _ (List.getElem?_eq_getElem hj) hX e he' hb
          rw [hon, hun'] at this
          cases this
        · exact (Oper.apart_spec hap).2.1 _ hdst (by rw [hdj, he])
      unfold wpOp
      rw [hoi]
      dsimp only
      have hset : ∀ j, (listed.setIfInBounds i true).getD j false = (listed.getD j false || j == i) := fun j => by
        by_cases hji : j = i
        · subst hji
          rw [Array.getD_eq_getD_getElem?, Array.getElem?_setIfInBounds_self]
          simp [hsz, hil]
        · have : (j == i) = false := by simp [hji]
          rw [Array.getD_eq_getD_getElem?, Array.getElem?_setIfInBounds_ne (Ne.symm hji), Array.getD_eq_getD_getElem?, this, Bool.or_false]
      have hfin := hst.wp (K := wpAny P .any l.toArray (lift c Q) fuel (listed.setIfInBounds i true)) (Q' := lift c Q) hs' fun a' w' h' => by
        refine ih _ a' w' (by simp [hsz]) ?_ ?_ ⟨⟨((r i).1, (r i).2) :: s'.fr, s'.M⟩, hM, fun u => ?_, h'⟩
        · have hl2 : listed.toList[i]? = some false := by
            rw [Array.getElem?_toList, Array.getElem?_eq_getElem (by omega)]
            rw [Array.getD_eq_getD_getElem?, Array.getElem?_eq_getElem (by omega)] at hun'
            simpa using hun'
          rw [Array.toList_setIfInBounds, count_set hl2]
          omega
        · intro j oj hj hX e he hb
          rw [hset] at hX ⊢
          by_cases hji : j = i
          · subst hji
            have : oj = l[j] := by rw [hli] at hj; exact (Option.some.inj hj).symm
            subst this
            rw [hafter e he hb]; rfl
          · have : (j == i) = false := by simp [hji]
            rw [this, Bool.or_false] at hX
            rw [hcl j oj hj hX e he hb]; rfl
        · simp only [look]
          rw [show (fun j => (listed.setIfInBounds i true).getD j false) = (fun j => listed.getD j false || j == i) from funext hset]
          rw [lk_add hil hno, hlook]
      by_cases hw : Region.wanted l[i] (yielded l.toArray a.tmps) = true
      · rw [if_pos hw] at hfin ⊢
        exact .inl hfin
      · rw [if_neg hw] at hfin ⊢
        exact hfin
  have h0 := key l.length (Array.replicate l.length false) a { w with drawn := w.drawn + 1 } (by simp) (by simp [List.count_replicate]) (by
      intro j oj hj hX
      rw [Array.getD_eq_getD_getElem?, Array.getElem?_replicate] at hX
      split at hX <;> simp at hX) ⟨s, rfl, fun u => by
      have : lk r (look s.fr) (fun j => (Array.replicate l.length false).getD j false) l.length u = lk r (look s.fr) (fun j => decide (j < 0)) l.length u := lk_congr fun j hj _ => by
        rw [Array.getD_eq_getD_getElem?, Array.getElem?_replicate]
        split <;> simp
      rw [this, lk_first (Nat.zero_le _)]
      rfl, by
      obtain ⟨F, β, fb, mb, ow, hi'⟩ := hi
      exact ⟨F, β, fb, mb, ow, hi'.drew⟩⟩
  simpa using h0

end
end Go.Eng
