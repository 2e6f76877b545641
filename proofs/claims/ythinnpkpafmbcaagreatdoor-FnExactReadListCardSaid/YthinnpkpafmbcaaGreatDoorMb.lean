import Derived.Test.YthinnpkpafmbcaaGreatDoorMa
import Derived.Orders
import Derived.ProofKit
import Derived.Lib.AppendZeros
import Derived.Lib.SliceRun
set_option linter.unusedVariables false
set_option linter.unusedSimpArgs false
section
/- Statements whose order of operations Go leaves open: one walk in the order of the text serves every order. -/
namespace Go.Eng
open Go.RowKit
def Ki (ops : Array Oper) : Bool := (List.range ops.size).all fun k => match ops[k]? with
 | none => false
 | some ok => (ok.after.all fun e => !Region.binds .any e || Nat.blt e.on k) && (List.range ops.size).all fun j => !(Nat.blt k j) || match ops[j]? with
  | some oj => (oj.after.any fun e => Region.binds .any e && e.on == k) || ok.apart ops oj
  | none => false
section
variable {P : Program} {c : Ctx} {s : St} {Q : Exit → St → Prop} {ops : Array Oper} {rest : List Oper} {o : Oper}
theorem orderB_spec (h : Ki ops = true) {k : Nat} {ok : Oper} (hk : ops[k]? = some ok) : (∀ e, e ∈ ok.after → Region.binds .any e = true → e.on < k) ∧
  ∀ j oj, ops[j]? = some oj → k < j → (∃ e, e ∈ oj.after ∧ Region.binds .any e = true ∧ e.on = k) ∨ ok.apart ops oj = true := by
 have hks : k < ops.size := (Array.getElem?_eq_some_iff.1 hk).1
 unfold Ki at h;rw [N1] at h
 have h1 := h k (OZ.2 hks)
 rw [hk] at h1;simp only [Nv] at h1
 obtain ⟨h2, h3⟩ := h1
 refine ⟨fun e he hb => ?_, fun j oj hj hkj => ?_⟩
 ·rw [Array.all_eq_true_iff_forall_mem] at h2
  have := h2 e he
  simpa [hb] using this
 ·rw [N1] at h3
  have hjs : j < ops.size := (Array.getElem?_eq_some_iff.1 hj).1
  have h4 := h3 j (OZ.2 hjs)
  rw [hj] at h4
  have hb : Nat.blt k j = true := by simpa using hkj
  simp only [hb, Bool.not_true, Oi, Bool.or_eq_true] at h4
  rcases h4 with h4 | h4
  ·left
   rw [Array.any_eq_true] at h4
   obtain ⟨i, hi, h5⟩ := h4
   simp only [Nv, beq_iff_eq] at h5;exact ⟨oj.after[i], Array.getElem_mem hi, h5.1, h5.2⟩
  ·exact .inr h4
def OpStep (P : Program) (c : Ctx) (ops : Array Oper) (o : Oper) (s : St) (t : Nat) (d : D) : Prop :=
 ∀ Q : Exit → St → Prop, WO P c ops [] ⟨(t, d) :: s.fr, s.M⟩ Q → WO P c ops [o] s Q
def Agree (ops : Array Oper) (o : Oper) (s s' : St) : Prop := s'.M = s.M ∧ ∀ u, u ∈ o.looksAt ops → look s'.fr u = look s.fr u
def QL (P : Program) (c : Ctx) (ops : Array Oper) : List Oper → St → (St → Prop) → Prop
 | [], s, Q => Q s
 | o :: rest, s, Q => ∃ t d, o.dst = some t ∧ (∀ s', Agree ops o s s' → OpStep P c ops o s' t d) ∧ QL P c ops rest ⟨(t, d) :: s.fr, s.M⟩ Q
theorem OpStep.wp {t : Nat} {d : D} (h : OpStep P c ops o s t d) {a : Act} {w : World} (hi : Is c s a w) {K : Act → World → Prop} {Q' : Exit → Act → World → Prop}
    (hK : ∀ a' w', Is c ⟨(t, d) :: s.fr, s.M⟩ a' w' → K a' w') : if Region.wanted o (yielded ops a.tmps) then o.wp P a w K Q' else K (a.put o.dst undef) w := by
  let Q : Exit → St → Prop := fun e s' => match e with | .normal => s' = ⟨(t, d) :: s.fr, s.M⟩ | _ => False
  have h1 := h Q (fun a w hi => ⟨_, hi, rfl⟩) a w hi
  unfold wpList at h1
  have hQ : ∀ e a w, Hu c Q e a w → (match e with | .normal => K a w | _ => False) := fun e a w ⟨s', h2, h3⟩ => by
    cases e with
    | normal => have h3' : s' = ⟨(t, d) :: s.fr, s.M⟩ := h3; subst h3'; exact hK _ _ h2
    | _ => exact h3.elim
  split at h1
  · rename_i hw
    rw [if_pos hw]
    rcases h1 with h1 | ⟨_, a', w', h2⟩
    · unfold Oper.wp at h1 ⊢
      generalize (execOp a.eval o).run P w = r at h1
      cases r with
      | ok n w' =>
        cases n <;> simp only [Oper.upon] at h1 ⊢ <;> first
          | exact hQ .normal _ _ h1
          | (refine Calls.mono h1 fun e w'' he => ?_
             cases e with
             | returned v => exact hQ .normal _ _ he
             | panicked ch => exact (hQ _ _ _ he).elim
             | outgrown => obtain ⟨a1, w1, h3⟩ := he; exact (hQ _ _ _ h3).elim)
          | exact Rows.mono h1 fun _ _ he => hQ .normal _ _ he
          | exact h1
      | halt x w' => cases x <;> simp only [Oper.upon] at h1 ⊢ <;> first | exact (hQ _ _ _ h1).elim | exact h1
    · exact (hQ _ _ _ h2).elim
  · rename_i hw
    rw [if_neg hw];exact hQ .normal _ _ h1
def lk (r : Nat → Nat × D) (base : Nat → D) (X : Nat → Bool) : Nat → Nat → D
 | 0, u => base u
 | k + 1, u => if X k = true ∧ (r k).1 = u then (r k).2 else lk r base X k u
theorem Br {r : Nat → Nat × D} {base : Nat → D} {X Y : Nat → Bool} {u : Nat} : ∀ {n : Nat}, (∀ j, j < n → (r j).1 = u → X j = Y j) → lk r base X n u = lk r base Y n u
 | 0, _ => rfl
 | n + 1, h => by
  simp only [lk]
  have ih := Br (base := base) (n := n) fun j hj hu => h j (by omega) hu
  by_cases hu : (r n).1 = u
  ·rw [h n (by omega) hu, ih]
  ·simp only [hu, and_false, if_false]; exact ih
theorem Ko {r : Nat → Nat × D} {base : Nat → D} {X : Nat → Bool} {i u : Nat} : ∀ {n : Nat}, i < n → (∀ j, j < n → i < j → X j = true → (r j).1 ≠ (r i).1) →
  lk r base (fun j => X j || j == i) n u = if (r i).1 = u then (r i).2 else lk r base X n u
 | 0, h, _ => by omega
 | n + 1, h, hno => by
  simp only [lk]
  by_cases hin : i = n
  ·subst hin
   simp only [beq_self_eq_true, Bool.or_true, true_and]
   have hc : lk r base (fun j => X j || j == i) i u = lk r base X i u := Br fun j hj _ => by
    have : (j == i) = false := by simp; omega
    simp [this]
   rw [hc]
   by_cases hu : (r i).1 = u
   ·simp [hu]
   ·simp [hu]
  ·have ih := Ko (n := n) (base := base) (u := u) (by omega) fun j hj hij hX => hno j (by omega) hij hX
   have hni : (n == i) = false := by simp; omega
   simp only [hni, Ob];rw [ih]
   by_cases hX : X n = true
   ·have hne := hno n (by omega) (by omega) hX
    by_cases hu : (r n).1 = u
    ·have : ¬ (r i).1 = u := fun e => hne (hu.trans e.symm)
     simp [hX, hu, this]
    ·simp [hu]
   ·simp [hX]
theorem EV {r : Nat → Nat × D} {base : Nat → D} {i n u : Nat} (h : i ≤ n) : lk r base (fun j => decide (j < i)) n u = lk r base (fun _ => true) i u := by
  induction n with
  | zero => have : i = 0 := by omega
            subst this; rfl
  | succ n ih =>
    by_cases hin : i = n + 1
    · subst hin
      exact Br fun j hj _ => by simp; omega
    · simp only [lk]
      have : decide (n < i) = false := by simp; omega
      simp only [this, Bool.false_eq_true, false_and, if_false];exact ih (by omega)
theorem QL.steps : ∀ {l : List Oper} {s : St} {Q : St → Prop}, QL P c ops l s Q → ∃ (r : Nat → Nat × D) (sf : St), Q sf ∧ sf.M = s.M ∧ (∀ u, look sf.fr u = lk r (look s.fr) (fun _ => true) l.length u) ∧
  ∀ i o, l[i]? = some o → o.dst = some (r i).1 ∧ ∀ s', s'.M = s.M → (∀ u, u ∈ o.looksAt ops → look s'.fr u = lk r (look s.fr) (fun _ => true) i u) → OpStep P c ops o s' (r i).1 (r i).2
 | [], s, Q, h => ⟨fun _ => (0, .top), s, h, rfl, fun _ => rfl, by simp⟩
 | o :: rest, s, Q, h => by
  obtain ⟨t, d, h1, h2, h3⟩ := h
  obtain ⟨r, sf, q1, q2, q3, q4⟩ := QL.steps h3
  let r' : Nat → Nat × D := fun i => match i with | 0 => (t, d) | i + 1 => r i
  have hlk : ∀ n u, lk r (look ((t, d) :: s.fr)) (fun _ => true) n u = lk r' (look s.fr) (fun _ => true) (n + 1) u := fun n u => by
   induction n with
   | zero => simp only [lk, look, r', true_and]
   | succ n ih =>
    rw [lk, ih]
    conv => rhs; rw [lk]
  refine ⟨r', sf, q1, q2, fun u => by rw [q3, hlk]; rfl, fun i o' hi => ?_⟩
  cases i with
  | zero =>
   simp at hi
   subst hi;exact ⟨h1, fun s' hM hl => h2 s' ⟨hM, fun u hu => hl u hu⟩⟩
  | succ i =>
   obtain ⟨p1, p2⟩ := q4 i o' (by simpa using hi)
   exact ⟨p1, fun s' hM hl => p2 s' hM fun u hu => by rw [hl u hu, ← hlk]⟩
theorem FK {l : List Bool} {i : Nat} (h : l[i]? = some false) : (l.set i true).count true = l.count true + 1 := by
 induction l generalizing i with
 | nil => simp at h
 | cons x l ih =>
  cases i with
  | zero => simp at h; subst h; simp
  | succ i =>
   have := ih (i := i) (by simpa using h)
   cases x <;> simp [this]
theorem A4 {id : Nat} {l : List Oper} (hm : P.follows .mixedOrders = true) (hB : Ki l.toArray = true) (h : QL P c l.toArray l s (fun s' => Q .normal s')) : W P c (.region id l.toArray true) s Q := by
 intro a w hi
 obtain ⟨r, sf, q1, q2, q3, q4⟩ := h.steps
 refine wp_region_any hm ?_
 -- the state once X is done
 have key : ∀ (fuel : Nat) (listed : Array Bool) (a : Act) (w : World), listed.size = l.length → fuel + listed.toList.count true = l.length →
   (∀ j oj, l[j]? = some oj → listed.getD j false = true → ∀ e, e ∈ oj.after → Region.binds .any e = true → listed.getD e.on false = true) →
   (∃ s', s'.M = s.M ∧ (∀ u, look s'.fr u = lk r (look s.fr) (fun j => listed.getD j false) l.length u) ∧ Is c s' a w) →
   wpAny P .any l.toArray (Hu c Q) fuel listed a w := by
  intro fuel
  induction fuel with
  | zero =>
   intro listed a w hsz hcnt hcl ⟨s', hM, hlook, hs'⟩
   have hall : ∀ j, j < l.length → listed.getD j false = true := by
    intro j hj
    have h1 : listed.toList.count true = listed.toList.length := by rw [OD, hsz]; omega
    rw [List.count_eq_length] at h1
    have hj' : j < listed.size := by omega
    have := h1 (listed[j]) (by simp)
    rw [Ny, Array.getElem?_eq_getElem hj']
    simpa using this.symm
   refine ⟨?_, sf, ?_, q1⟩
   ·unfold Region.ready
    rw [List.filter_eq_nil_iff];intro i hi'
    have hi2 : i < l.length := by simpa using OZ.1 hi'
    have h1 := hall i hi2
    have h2 : listed.getD i true = true := by
     rw [Ny] at h1 ⊢;rw [Array.getElem?_eq_getElem (by omega)] at h1 ⊢;exact h1
    simp [h2]
   ·refine Le.of (s := s') (fun u => .inl ?_) (fun u => .inl (by rw [q2, hM])) _ _ hs'
    rw [q3, hlook]
    exact Br fun j hj _ => (hall j hj).symm
  | succ fuel ih =>
   intro listed a w hsz hcnt hcl ⟨s', hM, hlook, hs'⟩
   -- somebody can go on
   have hsome : ∃ i, i < l.length ∧ listed.getD i false = false := by
    refine Classical.byContradiction fun hno => ?_
    have hall : ∀ b, b ∈ listed.toList → b = true := fun b hb => by
     obtain ⟨j, hj, rfl⟩ := List.getElem_of_mem hb
     refine Classical.byContradiction fun hb' => hno ⟨j, by simpa [hsz] using hj, ?_⟩
     rw [Ny, Array.getElem?_eq_getElem (by simpa using hj)]
     simpa using hb'
    have : listed.toList.count true = listed.toList.length := List.count_eq_length.2 fun b hb => (hall b hb).symm
    rw [OD, hsz] at this;omega
   have hready : Region.ready .any l.toArray listed ≠ [] := by
    -- the least that is not done
    obtain ⟨i0, hi0, hu0⟩ := hsome
    have hleast : ∃ i, i < l.length ∧ listed.getD i false = false ∧ ∀ j, j < i → listed.getD j false = true := by
     clear hcnt
     induction i0 using Nat.strongRecOn with
     | _ n ihn =>
      by_cases hx : ∃ j, j < n ∧ listed.getD j false = false
      ·obtain ⟨j, hj, hf⟩ := hx
       exact ihn j hj (by omega) hf
      ·refine ⟨n, hi0, hu0, fun j hj => ?_⟩
       cases hf : listed.getD j false with
       | true => rfl
       | false => exact absurd ⟨j, hj, hf⟩ hx
    obtain ⟨i, hi1, hi2, hi3⟩ := hleast
    have hoi : l.toArray[i]? = some l[i] := by simp [hi1]
    have hsp := (orderB_spec hB hoi).1
    intro hnil;unfold Region.ready at hnil;rw [List.filter_eq_nil_iff] at hnil;refine hnil i (OZ.2 (by simpa using hi1)) ?_
    have h2 : listed.getD i true = false := by
     rw [Ny] at hi2 ⊢;rw [Array.getElem?_eq_getElem (by omega)] at hi2 ⊢;exact hi2
    rw [hoi, h2];simp only [Bool.not_false, Bool.true_and, Option.map_some, Option.getD_some];rw [Array.all_eq_true_iff_forall_mem];intro e he
    cases hb : Region.binds .any e with
    | false => simp
    | true => simp only [Bool.not_true, Oi]; exact hi3 _ (hsp e he hb)
   refine ⟨fun h => absurd h hready, fun i hir => ?_⟩
   -- operation i, now
   unfold Region.ready at hir
   obtain ⟨hir1, hir2⟩ := List.mem_filter.1 hir
   have hil : i < l.length := by simpa using OZ.1 hir1
   have hoi : l.toArray[i]? = some l[i] := by simp [hil]
   have hli : l[i]? = some l[i] := List.getElem?_eq_getElem hil
   rw [hoi] at hir2;simp only [Nv, ON, Option.map_some, Option.getD_some] at hir2
   obtain ⟨hun, haf⟩ := hir2
   rw [Array.all_eq_true_iff_forall_mem] at haf
   have hun' : listed.getD i false = false := by
    rw [Ny] at hun ⊢;rw [Array.getElem?_eq_getElem (by omega)] at hun ⊢;exact hun
   have hafter : ∀ e, e ∈ l[i].after → Region.binds .any e = true → listed.getD e.on false = true := fun e he hb => by
    have := haf e he
    simpa [hb] using this
   obtain ⟨hdst, hstep⟩ := q4 i l[i] hli
   -- the writers of what it looks at are as in the text
   have hwr : ∀ u, u ∈ l[i].looksAt l.toArray → ∀ j, j < l.length → (r j).1 = u → listed.getD j false = decide (j < i) := by
    intro u hu j hj hru
    have hoj : l.toArray[j]? = some l[j] := by simp [hj]
    obtain ⟨hdj, _⟩ := q4 j l[j] (List.getElem?_eq_getElem hj)
    by_cases hji : j < i
    ·simp only [hji, decide_true]
     rcases (orderB_spec hB hoj).2 i _ hoi hji with ⟨e, he, hb, hon⟩ | hap
     ·rw [← hon]; exact hafter e he hb
     ·exact absurd (hru ▸ hu) ((Oper.apart_spec hap).1 _ hdj)
    ·by_cases hje : j = i
     ·subst hje; simpa using hun'
     ·have hij : i < j := by omega
      have hdec : decide (j < i) = false := by simp; omega
      rw [hdec]
      cases hX : listed.getD j false with
      | false => rfl
      | true =>
       rcases (orderB_spec hB hoi).2 j _ hoj hij with ⟨e, he, hb, hon⟩ | hap
       ·have := hcl j _ (List.getElem?_eq_getElem hj) hX e he hb
        rw [hon, hun'] at this;cases this
       ·exact absurd (hru ▸ hu) ((Oper.apart_spec hap).2.2 _ hdj)
   have hst := hstep s' hM fun u hu => by
    rw [hlook, ← EV (r := r) (base := look s.fr) (show i ≤ l.length by omega)]
    exact Br fun j hj hru => hwr u hu j hj hru
   -- no later writer of its own temporary has been
   have hno : ∀ j, j < l.length → i < j → listed.getD j false = true → (r j).1 ≠ (r i).1 := by
    intro j hj hij hX he
    have hoj : l.toArray[j]? = some l[j] := by simp [hj]
    obtain ⟨hdj, _⟩ := q4 j l[j] (List.getElem?_eq_getElem hj)
    rcases (orderB_spec hB hoi).2 j _ hoj hij with ⟨e, he', hb, hon⟩ | hap
    ·have := hcl j _ (List.getElem?_eq_getElem hj) hX e he' hb
     rw [hon, hun'] at this;cases this
    ·exact (Oper.apart_spec hap).2.1 _ hdst (by rw [hdj, he])
   unfold wpOp;rw [hoi];dsimp only
   have hset : ∀ j, (listed.setIfInBounds i true).getD j false = (listed.getD j false || j == i) := fun j => by
    by_cases hji : j = i
    ·subst hji
     rw [Ny, Array.getElem?_setIfInBounds_self]
     simp [hsz, hil]
    ·have : (j == i) = false := by simp [hji]
     rw [Ny, Array.getElem?_setIfInBounds_ne (Ne.symm hji), Ny, this, Ob]
   have hfin := hst.wp (K := wpAny P .any l.toArray (Hu c Q) fuel (listed.setIfInBounds i true)) (Q' := Hu c Q) hs' fun a' w' h' => by
    refine ih _ a' w' (by simp [hsz]) ?_ ?_ ⟨⟨((r i).1, (r i).2) :: s'.fr, s'.M⟩, hM, fun u => ?_, h'⟩
    ·have hl2 : listed.toList[i]? = some false := by
      rw [Array.getElem?_toList, Array.getElem?_eq_getElem (by omega)];rw [Ny, Array.getElem?_eq_getElem (by omega)] at hun'
      simpa using hun'
     rw [Array.toList_setIfInBounds, FK hl2];omega
    ·intro j oj hj hX e he hb
     rw [hset] at hX ⊢
     by_cases hji : j = i
     ·subst hji
      have : oj = l[j] := by rw [hli] at hj; exact (Option.some.inj hj).symm
      subst this;rw [hafter e he hb]; rfl
     ·have : (j == i) = false := by simp [hji]
      rw [this, Ob] at hX;rw [hcl j oj hj hX e he hb]; rfl
    ·simp only [look]
     rw [show (fun j => (listed.setIfInBounds i true).getD j false) = (fun j => listed.getD j false || j == i) from funext hset];rw [Ko hil hno, hlook]
   by_cases hw : Region.wanted l[i] (yielded l.toArray a.tmps) = true
   ·rw [if_pos hw] at hfin ⊢
    exact .inl hfin
   ·rw [if_neg hw] at hfin ⊢
    exact hfin
 have h0 := key l.length (Array.replicate l.length false) a { w with drawn := w.drawn + 1 } (by simp) (by simp [List.count_replicate]) (by
   intro j oj hj hX;rw [Ny, Array.getElem?_replicate] at hX
   split at hX <;> simp at hX) ⟨s, rfl, fun u => by
   have : lk r (look s.fr) (fun j => (Array.replicate l.length false).getD j false) l.length u = lk r (look s.fr) (fun j => decide (j < 0)) l.length u := Br fun j hj _ => by
    rw [Ny, Array.getElem?_replicate]
    split <;> simp
   rw [this, EV (OU _)]
   rfl, by
   obtain ⟨F, β, fb, mb, ow, hi'⟩ := hi
   exact ⟨F, β, fb, mb, ow, hi'.drew⟩⟩
 simpa using h0
end
end Go.Eng
end
section
/- The words in which a statement of open order is walked. -/
namespace Go.Eng
open Go.RowKit
section
variable {P : Program} {c : Ctx} {s : St} {Q : St → Prop} {ops : Array Oper} {rest : List Oper} {o : Oper}
theorem Agree.opd {s' : St} (h : Agree ops o s s') {x : Operand} (hx : x ∈ o.op.operands) : Eng.opd s'.fr x = Eng.opd s.fr x := by
 cases x with
 | tmp t =>
  refine h.2 t ?_;unfold Oper.looksAt;exact Oc _ (List.mem_filterMap.2 ⟨.tmp t, by simpa using hx, rfl⟩)
 | _ => rfl
theorem Agree.opds {s' : St} (h : Agree ops o s s') : ∀ {l : List Operand}, (∀ x, x ∈ l → x ∈ o.op.operands) → l.map (Eng.opd s'.fr) = l.map (Eng.opd s.fr) := fun hl =>
 List.map_congr_left fun x hx => h.opd (hl x hx)
theorem Hb {Γ : Tys} {s' : St} (h : Agree ops o s s') : evV Γ s' o.op = evV Γ s o.op := by
 have hM := h.1
 have ho : ∀ x, x ∈ o.op.operands → Eng.opd s'.fr x = Eng.opd s.fr x := fun x hx => h.opd hx
 generalize o.op = op at ho
 cases op with
 | move x => simp only [evV]; rw [ho x (by simp [Op.operands])]
 | assign x => simp only [evV]; rw [ho x (by simp [Op.operands])]
 | pick x a b => simp only [evV]; rw [ho x (by simp [Op.operands]), ho a (by simp [Op.operands]), ho b (by simp [Op.operands])]
 | binOp op ty x y ty' => simp only [evV]; rw [ho x (by simp [Op.operands]), ho y (by simp [Op.operands])]
 | unOp op ty x => cases op <;> simp only [evV] <;> rw [ho x (by simp [Op.operands])]
 | fieldAddr ty x k => simp only [evV]; rw [ho x (by simp [Op.operands])]
 | load ty x => simp only [evV]; rw [ho x (by simp [Op.operands]), hM]
 | extract x k => simp only [evV]; rw [ho x (by simp [Op.operands])]
 | makeFunc f first captured =>
  cases f <;> simp only [evV]
  split
  ·congr 2
   refine List.map_congr_left fun x hx => ?_
   rw [ho x (by simp only [Op.operands, Array.mem_append]; exact .inr (by simpa using hx))]
  ·rfl
 | call cc =>
  obtain ⟨cal, args, tys⟩ := cc
  have ho' : ∀ x, x ∈ args.toList → Eng.opd s'.fr x = Eng.opd s.fr x := fun x hx => ho x (by
   simp only [Op.operands, Call.operands, Array.mem_append]
   exact .inr (by simpa using hx))
  cases cal with
  | builtin b =>
   cases b <;> try rfl
   all_goals
    simp only [evV];split
    ·rename_i ha
     first
      | (rw [ho' _ (by rw [ha]; simp)]; done)
      | (rename_i ha' ; rw [ho' _ (by rw [ha']; simp)]; done)
      | (rw [ho' _ (by rw [ha]; simp), ho' _ (by rw [ha]; simp)]; done)
    ·rfl
  | _ => rfl
 | _ => rfl
theorem Bo (h : Q s) : QL P c ops [] s Q := h
theorem QL_ev {Γ : Tys} (hΓ : Γ.ok P) {t : Nat} {d : D} (hg : o.guard = none) (hd : o.dst = some t) (ht : t < c.n) (he : evF Γ s o.op = some d) (k : QL P c ops rest ⟨(t, d) :: s.fr, s.M⟩ Q) : QL P c ops (o :: rest) s Q :=
 ⟨t, d, hd, fun s' ha Q h => WO_evF hΓ hg hd ht (by unfold evF at he ⊢; rwa [Hb ha]) h, k⟩
theorem QL_int {Γ : Tys} (hΓ : Γ.ok P) {t : Nat} {n : Int} (hg : o.guard = none) (hd : o.dst = some t) (ht : t < c.n) (he : evV Γ s o.op = some (.t (.int (IntKind.i64.wrap n)))) (hw : IntKind.i64.wrap n = n)
  (k : QL P c ops rest ⟨(t, .t (.int n)) :: s.fr, s.M⟩ Q) : QL P c ops (o :: rest) s Q :=
 ⟨t, _, hd, fun s' ha Q h => LR hΓ hg hd ht (by rwa [Hb ha]) hw h, k⟩
theorem QL_evE {Γ : Tys} (hΓ : Γ.ok P) {t : Nat} {n m : Int} (hg : o.guard = none) (hd : o.dst = some t) (ht : t < c.n) (he : evF Γ s o.op = some (.t (.int n))) (hn : n = m) (k : QL P c ops rest ⟨(t, .t (.int m)) :: s.fr, s.M⟩ Q) : QL P c ops (o :: rest) s Q := by
 subst hn; exact QL_ev hΓ hg hd ht he k
theorem WO_evE {Γ : Tys} (hΓ : Γ.ok P) {t : Nat} {n m : Int} {Q : Exit → St → Prop} (hg : o.guard = none) (hd : o.dst = some t) (ht : t < c.n) (he : evF Γ s o.op = some (.t (.int n))) (hn : n = m) (k : WO P c ops rest ⟨(t, .t (.int m)) :: s.fr, s.M⟩ Q) : WO P c ops (o :: rest) s Q := by
 subst hn; exact WO_evF hΓ hg hd ht he k
theorem lenM {α β : Type} {f : α → β} {l : List α} : (((l.map f).length : Nat) : Int) = (l.length : Int) := by rw [N0]
theorem Ma {l : List Oper} {t : Nat} {b : Bool} {fr : List (Nat × D)} {M : List (Nat × Blk)} (h1 : b = true → QL P c ops l ⟨(t, .t (.bool true)) :: fr, M⟩ Q) (h2 : b = false → QL P c ops l ⟨(t, .t (.bool false)) :: fr, M⟩ Q) :
  QL P c ops l ⟨(t, .t (.bool b)) :: fr, M⟩ Q := by
 cases b
 ·exact h2 rfl
 ·exact h1 rfl
theorem Agree.guard {s' : St} (h : Agree ops o s s') : Agree ops { o with guard := none } s s' :=
 ⟨h.1, fun u hu => h.2 u (by unfold Oper.looksAt at hu ⊢; simp only [OI] at hu; exact Oc _ hu)⟩
theorem Agree.at_guard {s' : St} (h : Agree ops o s s') {j d : Nat} {want : Bool} (hg : o.guard = some (j, want)) (hj : (ops[j]?).bind (·.dst) = some d) : look s'.fr d = look s.fr d :=
 h.2 d (by unfold Oper.looksAt; refine List.mem_append_right _ ?_; rw [hg]; simp [hj])
theorem FV {j d t : Nat} {want : Bool} (hg : o.guard = some (j, want)) (hj : (ops[j]?).bind (·.dst) = some d) (hl : look s.fr d = .t (.bool want)) (hd : o.dst = some t) (ht : t < c.n)
  (k : QL P c ops ({ o with guard := none } :: rest) s Q) : QL P c ops (o :: rest) s Q := by
 obtain ⟨t', d', h1, h2, h3⟩ := k
 exact ⟨t', d', h1, fun s' ha Q h => FR hg hj (by rw [ha.at_guard hg hj]; exact hl) hd ht (h2 s' ha.guard Q h), h3⟩
theorem LZ {j d t : Nat} {want b : Bool} (hg : o.guard = some (j, want)) (hj : (ops[j]?).bind (·.dst) = some d) (hl : look s.fr d = .t (.bool b)) (hb : b = !want) (hd : o.dst = some t) (ht : t < c.n)
  (k : QL P c ops rest ⟨(t, .tup []) :: s.fr, s.M⟩ Q) : QL P c ops (o :: rest) s Q :=
 ⟨t, _, hd, fun s' ha Q h => FS hg hj (by rw [ha.at_guard hg hj]; exact hl) hb hd ht h, k⟩
theorem Co {Γ : Tys} (hΓ : Γ.ok P) {ty e t n : Nat} {x ix : Operand} {ti te : TI} {l : List T} {i : Int} (hg : o.guard = none) (hd : o.dst = some t) (ht : t < c.n) (ho : o.op = .indexAddr ty x ix)
  (h1 : A7 Γ ty = some ti) (h2 : ti.kind = .slice e) (h3 : A7 Γ e = some te) (h4 : te.size = n) (hx : opd s.fr x = .t (.list n l)) (hix : opd s.fr ix = .t (.int i))
  (h5 : 0 ≤ i) (y : T) (h6 : l[i.toNat]? = some y)
  (k : QL P c ops rest ⟨(t, .rp y 0) :: s.fr, s.M⟩ Q) : QL P c ops (o :: rest) s Q :=
 ⟨t, _, hd, fun s' ha Q h => Bi hΓ hg hd ht ho h1 h2 h3 h4 (by rw [ha.opd (by rw [ho]; simp [Op.operands])]; exact hx) (by rw [ha.opd (by rw [ho]; simp [Op.operands])]; exact hix) h5 y h6 h, k⟩
theorem ResL.mem {s' : St} (hM : s'.M = s.M) {ds es : List D} (h : ResL s ds es) : ResL s' ds es := by
 induction h with
 | done => exact .done
 | t _ ih => exact .t ih
 | nil n _ ih => exact .nil n ih
 | nil' _ ih => exact .nil' ih
 | own _ ih => exact .own ih
 | sl h1 h2 _ ih => exact .sl (by rw [hM]; exact h1) h2 ih
 | ref h1 _ _ ih1 ih2 => exact .ref (by rw [hM]; exact h1) ih1 ih2
 | rp _ ih => exact .rp ih
 | agg _ _ ih1 ih2 => exact .agg ih1 ih2
 | aggT _ _ ih1 ih2 => exact .aggT ih1 ih2
 | clo _ _ ih1 ih2 => exact .clo ih1 ih2
 | top _ ih => exact .top ih
 | raw h1 h2 h3 _ ih => exact .raw (by rw [hM]; exact h1) h2 h3 ih
 | rawA h1 h2 _ ih => exact .rawA (by rw [hM]; exact h1) h2 ih
 | rawU h1 h2 h3 _ ih => exact .rawU (by rw [hM]; exact h1) h2 h3 ih
 | rawS h1 h2 h3 _ ih => exact .rawS (by rw [hM]; exact h1) h2 h3 ih
 | ownU _ ih => exact .ownU ih
theorem Nq {t : Nat} {fo : Operand} {args : Array Operand} {tys : Array TypeId} {f : FuncId} {caps es : List D} {r : D} (hg : o.guard = none) (hd : o.dst = some t) (ht : t < c.n)
  (ho : o.op = .call { callee := .value fo, args := args, argTypes := tys }) (hf : opd s.fr fo = .clo f caps) (hes : ResL s (args.toList.map (opd s.fr) ++ caps) es) (hc : Fun P f es r) (hn : r.noImm = true)
  (k : QL P c ops rest ⟨(t, r) :: s.fr, s.M⟩ Q) : QL P c ops (o :: rest) s Q :=
 ⟨t, _, hd, fun s' ha Q h => by
  have e1 : opd s'.fr fo = opd s.fr fo := ha.opd (by rw [ho]; simp [Op.operands, Call.operands])
  have e2 : args.toList.map (opd s'.fr) = args.toList.map (opd s.fr) := ha.opds fun x hx => by
   rw [ho];simp only [Op.operands, Call.operands, Array.mem_append];exact .inr (by simpa using hx)
  exact Ba hg hd ht ho (by rw [e1]; exact hf) (by rw [e2]; exact hes.mem ha.1) hc hn h, k⟩
theorem AS {l : List Oper} {s' : St} (h : B6 s = some s') (k : QL P c ops l s' Q) : QL P c ops l s Q := by rw [CH h]; exact k
end
end Go.Eng
end
section
/- From a law's input, as the claim's form reads it, to data as the abstract machine reads it; and from the machine's answer to the claim. -/
namespace Go.Eng
open Go.RowKit
inductive Rd (P : Program) : TypeId → T → Prop
 | int {t k n} : P.underlying t = some (.int k) → (Lit.int k n).wf = true → Rd P t (.v (.int k n))
 | bool {t b} : P.underlying t = some .bool → Rd P t (.v (.bool b))
 | str {t} {s : ByteArray} : P.underlying t = some .string → s.size ≤ maxLen → Rd P t (.v (.string s))
 | slice {t e n} {xs : List T} : P.underlying t = some (.slice e) → n = P.cellsOf e → xs.length ≤ maxLen → (∀ x, x ∈ xs → Rd P e x) → Rd P t (.list n xs)
 | struct {t fs} {xs : List T} : P.underlying t = some (.struct fs) → xs.length = fs.toList.length → (∀ (i : Nat) f x, fs.toList[i]? = some f → xs[i]? = some x → Rd P f.type x) → Rd P t (.agg (xs.flatMap T.cells))
def layB (P : Program) : List Field → Nat → Option Nat
 | [], o => some o
 | f :: fs, o => if f.offset == o then layB P fs (o + P.cellsOf f.type) else none
def Er (P : Program) (S : List TypeId) : Bool := S.all fun t => match P.underlying t with
 | some (.int _) => P.cellsOf t == 1
 | some .bool => P.cellsOf t == 1
 | some .string => P.cellsOf t == 1
 | some (.slice e) => P.cellsOf t == 1 && S.contains e && P.cellsOf e != 0
 | some (.struct fs) => layB P fs.toList 0 == some (P.cellsOf t) && fs.toList.all fun f => S.contains f.type
 | _ => false
theorem Da {α β : Type} {f : α → Option β} : ∀ {l : List α} {r : List β}, l.mapM f = some r → r.length = l.length ∧ ∀ (i : Nat) x, l[i]? = some x → ∃ y, r[i]? = some y ∧ f x = some y
 | [], r, h => by simp at h; subst h; simp
 | x :: l, r, h => by
  rw [List.mapM_cons] at h
  cases hx : f x with
  | none => simp [hx] at h
  | some y =>
   cases hl : l.mapM f with
   | none => simp [hx, hl] at h
   | some ys =>
    simp [hx, hl] at h
    subst h
    obtain ⟨h1, h2⟩ := Da hl
    refine ⟨by simp [h1], fun i z hz => ?_⟩
    cases i with
    | zero => simp at hz; subst hz; exact ⟨y, by simp, hx⟩
    | succ i =>
     obtain ⟨u, h3, h4⟩ := h2 i z (by simpa using hz)
     exact ⟨u, by simpa using h3, h4⟩
theorem KH {w : World} {base n : Nat} {a : Addr} {cs : List Value} (h : w.cells? base a n = some cs) : cs.length = n ∧ ∀ j, j < n → w.cell? (a.add j) = cs[j]? := by
 unfold World.cells? at h;split at h
 ·obtain ⟨h1, h2⟩ := Da h
  simp only [List.length_range] at h1;refine ⟨h1, fun j hj => ?_⟩
  obtain ⟨y, h3, h4⟩ := h2 j j (by simp [hj])
  rw [h3, h4]
 ·cases h
theorem FL {α : Type} {p : Nat → α → Prop} : ∀ {n : Nat}, (∀ i, i < n → ∃ x, p i x) → ∃ l : List α, l.length = n ∧ ∀ i x, l[i]? = some x → p i x
 | 0, _ => ⟨[], rfl, by simp⟩
 | n + 1, h => by
  obtain ⟨l, h1, h2⟩ := FL (n := n) fun i hi => h i (by omega)
  obtain ⟨x, hx⟩ := h n (by omega)
  refine ⟨l ++ [x], by simp [h1], fun i y hy => ?_⟩;rw [List.getElem?_append] at hy;split at hy
  ·exact h2 i y hy
  ·rename_i hi
   have : i = n := by
    have := (List.getElem?_eq_some_iff.1 hy).1
    simp at this; omega
   subst this
   simp [h1] at hy
   subst hy;exact hx
theorem G9 {w : World} {F : Nat → Prop} : ∀ {n : Nat} {f : Nat → List Value} {xs : List T}, xs.length = n → (∀ i x, xs[i]? = some x → RelL w F (f i) x.cells) → RelL w F ((List.range n).flatMap f) (xs.flatMap T.cells)
 | 0, f, xs, h, _ => by
  have : xs = [] := OL h
  subst this; simpa using RelL.nil
 | n + 1, f, xs, h, hr => by
  have hx : xs = xs.take n ++ [xs[n]'(by omega)] := by
   conv => lhs; rw [← List.take_append_drop n xs]
   rw [List.drop_eq_getElem_cons (by omega), List.drop_of_length_le (by omega)]
  rw [hx, List.range_succ, List.flatMap_append, List.flatMap_append];refine RelL.append (G9 (by simp; omega) fun i x hi => ?_) ?_
  ·rw [List.getElem?_take] at hi
   split at hi
   ·exact hr i x hi
   ·cases hi
  ·simpa using hr n _ (List.getElem?_eq_getElem (by omega))
variable {H : Type} {enc : TypeId × Value → H} {P : Program} {w : World} {base : Nat} {held : Bool}
variable {sp : Nat → Bool} {fuel : Nat} {t : TypeId} {cs : List Value} {y : DataW H × List MemPlace}
theorem Ln {k : IntKind} (hu : P.underlying t = some (.int k)) (h : DataW.trod enc P w base sp held (fuel + 1) t cs = some y) : ∃ n, cs = [.int k n] ∧ (Lit.int k n).wf = true := by
 unfold DataW.trod at h;rw [hu] at h
 split at h <;> first
  | (cases h; done)
  | (rename_i heq; cases heq; done)
  | skip
 rename_i k1 k2 n heq
 cases heq;split at h
 ·rename_i hk; obtain ⟨rfl, h2⟩ := hk; exact ⟨n, rfl, h2⟩
 ·cases h
theorem KQ (hu : P.underlying t = some .bool) (h : DataW.trod enc P w base sp held (fuel + 1) t cs = some y) : ∃ b, cs = [.bool b] := by
 unfold DataW.trod at h;rw [hu] at h
 split at h <;> first
  | (cases h; done)
  | (rename_i heq; cases heq; done)
  | exact ⟨_, rfl⟩
theorem Ll (hu : P.underlying t = some .string) (h : DataW.trod enc P w base sp held (fuel + 1) t cs = some y) : ∃ b : ByteArray, cs = [.string b] ∧ b.size ≤ maxLen := by
 unfold DataW.trod at h;rw [hu] at h
 split at h <;> first
  | (cases h; done)
  | (rename_i heq; cases heq; done)
  | skip
 split at h
 ·exact ⟨_, rfl, by assumption⟩
 ·cases h
theorem trod_slice {e : TypeId} (hu : P.underlying t = some (.slice e)) (h : DataW.trod enc P w base sp held (fuel + 1) t cs = some y) : cs = [.slice none 0 0] ∨
  ∃ (a : Addr) (len cap : Nat), cs = [.slice (some a) len cap] ∧ len ≤ cap ∧ cap ≤ maxLen ∧ ∀ i, i < len → ∃ cs' y', w.cells? base (a.add (i * P.cellsOf e)) (P.cellsOf e) = some cs' ∧ DataW.trod enc P w base sp held fuel e cs' = some y' := by
 unfold DataW.trod at h;rw [hu] at h
 split at h <;> first
  | (cases h; done)
  | (rename_i heq; cases heq; done)
  | exact .inl rfl
  | skip
 rename_i e' a len cap heq
 cases heq;dsimp only at h;split at h
 ·rename_i hc
  cases hm : (List.range len).mapM (fun i => (w.cells? base (a.add (i * P.cellsOf e)) (P.cellsOf e)).bind (DataW.trod enc P w base sp held fuel e)) with
  | none => simp [hm] at h
  | some elems =>
   refine .inr ⟨a, len, cap, rfl, hc.2.1, hc.2.2, fun i hi => ?_⟩
   obtain ⟨y, h1, h2⟩ := (Da hm).2 i i (by simp [hi])
   cases hcs : w.cells? base (a.add (i * P.cellsOf e)) (P.cellsOf e) with
   | none => simp [hcs] at h2
   | some cs' => exact ⟨cs', y, rfl, by simpa [hcs] using h2⟩
 ·cases h
theorem Hx {fs : Array Field} (hu : P.underlying t = some (.struct fs)) (h : DataW.trod enc P w base sp held (fuel + 1) t cs = some y) : cs.length = P.cellsOf t ∧
  ∀ (i : Nat) f, fs.toList[i]? = some f → ∃ y', DataW.trod enc P w base sp held fuel f.type ((cs.drop f.offset).take (P.cellsOf f.type)) = some y' := by
 unfold DataW.trod at h;rw [hu] at h;dsimp only at h;split at h
 ·rename_i hl
  refine ⟨hl, fun i f hf => ?_⟩
  cases hm : fs.toList.mapM (fun f => DataW.trod enc P w base sp held fuel f.type ((cs.drop f.offset).take (P.cellsOf f.type))) with
  | none => simp [hm] at h
  | some xs =>
   obtain ⟨y, h1, h2⟩ := (Da hm).2 i f hf
   exact ⟨y, h2⟩
 ·cases h
theorem Kr {F : Nat → Prop} {w : World} {P : Program} {cs : List Value} : ∀ {fs : List Field} {o m : Nat}, layB P fs o = some m → m ≤ cs.length →
  (∀ (i : Nat) f, fs[i]? = some f → ∃ x : T, Rd P f.type x ∧ RelL w F ((cs.drop f.offset).take (P.cellsOf f.type)) x.cells) →
  ∃ xs : List T, xs.length = fs.length ∧ (∀ (i : Nat) f x, fs[i]? = some f → xs[i]? = some x → Rd P f.type x) ∧ o ≤ m ∧ RelL w F ((cs.drop o).take (m - o)) (xs.flatMap T.cells)
 | [], o, m, h, _, _ => by
  simp only [layB, Option.some.injEq] at h;subst h;exact ⟨[], rfl, by simp, OJ _, by simpa using RelL.nil⟩
 | f :: fs, o, m, h, hm, hf => by
  simp only [layB] at h;split at h
  ·rename_i ho
   simp only [beq_iff_eq] at ho
   obtain ⟨xs, h1, h2, h3, h4⟩ := Kr h hm fun i f' hi => hf (i + 1) f' (by simpa using hi)
   obtain ⟨x, h5, h6⟩ := hf 0 f rfl
   refine ⟨x :: xs, by simp [h1], fun i f' x' hi hx => ?_, by omega, ?_⟩
   ·cases i with
    | zero => simp at hi hx; subst hi; subst hx; exact h5
    | succ i => exact h2 i f' x' (by simpa using hi) (by simpa using hx)
   ·rw [ho] at h6
    rw [OM]
    have e : (cs.drop o).take (m - o) = (cs.drop o).take (P.cellsOf f.type) ++ (cs.drop (o + P.cellsOf f.type)).take (m - (o + P.cellsOf f.type)) := by
     rw [← List.drop_drop, show m - o = P.cellsOf f.type + (m - (o + P.cellsOf f.type)) from by omega, List.take_add]
    rw [e];exact h6.append h4
  ·cases h
theorem Lm {S : List TypeId} (hS : Er P S = true) : ∀ {fuel : Nat} {t : TypeId} {cs : List Value} {y : DataW H × List MemPlace}, t ∈ S → DataW.trod enc P w base sp held fuel t cs = some y →
  ∃ x : T, Rd P t x ∧ RelL w (fun b => b < w.heap.size) cs x.cells ∧ cs.length = P.cellsOf t := by
 intro fuel
 induction fuel with
 | zero => intro t cs y _ h; simp [DataW.trod] at h
 | succ fuel ih =>
  intro t cs y ht h
  have hS' := hS
  unfold Er at hS';rw [N1] at hS'
  have h1 := hS' t ht
  split at h1
  ·rename_i k hu
   obtain ⟨n, rfl, h2⟩ := Ln hu h
   exact ⟨.v (.int k n), .int hu h2, .v rfl .nil, by simpa using (beq_iff_eq.1 h1).symm⟩
  ·rename_i hu
   obtain ⟨b, rfl⟩ := KQ hu h
   exact ⟨.v (.bool b), .bool hu, .v rfl .nil, by simpa using (beq_iff_eq.1 h1).symm⟩
  ·rename_i hu
   obtain ⟨b, rfl, h2⟩ := Ll hu h
   exact ⟨.v (.string b), .str hu h2, .v rfl .nil, by simpa using (beq_iff_eq.1 h1).symm⟩
  ·rename_i e hu
   simp only [Nv, beq_iff_eq, bne_iff_ne, List.contains_iff_mem] at h1
   obtain ⟨⟨h2, h3⟩, h4⟩ := h1
   have hpos : 0 < P.cellsOf e := Nat.pos_of_ne_zero h4
   rcases trod_slice hu h with rfl | ⟨a, len, cap, rfl, h5, h6, h7⟩
   ·exact ⟨.list (P.cellsOf e) [], .slice hu rfl (OU _) (by simp), .none .nil, by simp [h2]⟩
   ·have hex : ∀ i, i < len → ∃ x : T × List Value, Rd P e x.1 ∧ RelL w (fun b => b < w.heap.size) x.2 x.1.cells ∧ x.2.length = P.cellsOf e ∧ ∀ j, j < P.cellsOf e → w.cell? ((a.add (i * P.cellsOf e)).add j) = x.2[j]? := fun i hi => by
     obtain ⟨cs', y', q1, q2⟩ := h7 i hi
     obtain ⟨x, q3, q4, q5⟩ := ih h3 q2
     obtain ⟨q6, q7⟩ := KH q1
     exact ⟨(x, cs'), q3, q4, q5, q7⟩
    obtain ⟨l, hl, hp⟩ := FL hex
    by_cases h0 : len = 0
    ·subst h0
     exact ⟨.list (P.cellsOf e) [], .slice hu rfl (OU _) (by simp), .none .nil, by simp [h2]⟩
    ·-- the block
     obtain ⟨x0, hx0⟩ : ∃ x, l[0]? = some x := ⟨_, List.getElem?_eq_getElem (by omega)⟩
     obtain ⟨r1, r2, r3, r4⟩ := hp 0 x0 hx0
     have hcell := r4 0 hpos
     simp only [Nat.zero_mul] at hcell
     have hadd0 : (a.add 0).add 0 = a := by simp [Addr.add]
     rw [hadd0] at hcell
     obtain ⟨v0, hv0⟩ : ∃ v, x0.2[0]? = some v := ⟨_, List.getElem?_eq_getElem (by omega)⟩
     rw [hv0] at hcell
     have hsp : a.spot = none := by
      unfold World.cell? at hcell;split at hcell
      ·cases hs : a.spot with
       | none => rfl
       | some _ => simp [hs] at hcell
      ·cases hcell
     obtain ⟨ab, ao, as_⟩ := a
     dsimp only at hsp;subst hsp
     have hblk := World.block_lt_of_cell? _ _ hcell
     obtain ⟨arr, et, fz, harr⟩ : ∃ arr et fz, w.heap[ab]? = some (.cells arr et fz) := by
      unfold World.cell? at hcell;split at hcell
      ·rename_i c et fz hc; exact ⟨c, et, fz, hc⟩
      ·cases hcell
     refine ⟨.list (P.cellsOf e) (l.map (·.1)), .slice hu rfl (by simp; omega) (fun x hx => ?_), ?_, by simp [h2]⟩
     ·obtain ⟨z, hz, rfl⟩ := List.mem_map.1 hx
      obtain ⟨i, hi, rfl⟩ := List.getElem_of_mem hz
      exact (hp i _ (List.getElem?_eq_getElem hi)).1
     ·have hrel := G9 (w := w) (F := fun b => b < w.heap.size) (n := len) (f := fun i => (l[i]?.map (·.2)).getD []) (xs := l.map (·.1)) (by simp [hl]) fun i x hi => by
       rw [List.getElem?_map] at hi
       cases hli : l[i]? with
       | none => simp [hli] at hi
       | some z =>
        simp [hli] at hi
        subst hi
        simpa using (hp i z hli).2.1
      have hlist := RelL.list (o := ao) (n := P.cellsOf e) (cap := cap) (F := fun b => b < w.heap.size) (xs := l.map (·.1)) hblk harr (fun k hk => ?_) (fun x hx => ?_) (by simp [hl]; omega) hrel .nil
      ·simpa [hl, T.cells] using hlist
      ·-- the cells
       have hlen : ∀ m, m ≤ len → ((List.range m).flatMap fun i => (l[i]?.map (·.2)).getD []).length = m * P.cellsOf e := by
        intro m hm
        induction m with
        | zero => simp
        | succ m ihm =>
         rw [List.range_succ, List.flatMap_append, Nu, ihm (by omega), Nat.succ_mul]
         have := (hp m _ (List.getElem?_eq_getElem (show m < l.length by omega))).2.2.1
         simp [List.getElem?_eq_getElem (show m < l.length by omega), this]
       rw [hlen len (OJ _)] at hk
       have hget : ∀ m, m ≤ len → ∀ k, k < m * P.cellsOf e → ((List.range m).flatMap fun i => (l[i]?.map (·.2)).getD [])[k]? = arr[ao + k]? := by
        intro m hm
        induction m with
        | zero => intro k hk; simp at hk
        | succ m ihm =>
         intro k hk;rw [List.range_succ, List.flatMap_append, List.getElem?_append, hlen m (by omega)];split
         ·exact ihm (by omega) k (by assumption)
         ·rename_i hkm
          rw [Nat.succ_mul] at hk
          have hml : m < l.length := by omega
          have q := (hp m _ (List.getElem?_eq_getElem hml)).2.2.2 (k - m * P.cellsOf e) (by omega)
          simp only [OM, List.flatMap_nil, OI, List.getElem?_eq_getElem hml, Option.map_some, Option.getD_some];rw [← q, As, As, B2 harr]
          congr 1
          omega
       exact (hget len (OJ _) k hk).symm
      ·obtain ⟨z, hz, rfl⟩ := List.mem_map.1 hx
       obtain ⟨i, hi, rfl⟩ := List.getElem_of_mem hz
       have q := hp i _ (List.getElem?_eq_getElem hi)
       rw [← q.2.1.length];exact q.2.2.1
  ·rename_i fs hu
   simp only [Nv, beq_iff_eq, N1, List.contains_iff_mem] at h1
   obtain ⟨h2, h3⟩ := h1
   obtain ⟨h4, h5⟩ := Hx hu h
   obtain ⟨xs, q1, q2, q3, q4⟩ := Kr (F := fun b => b < w.heap.size) (w := w) (cs := cs) h2 (by omega) fun i f hf => by
    obtain ⟨y', h6⟩ := h5 i f hf
    obtain ⟨x, h7, h8, _⟩ := ih (h3 f (List.mem_of_getElem? hf)) h6
    exact ⟨x, h7, h8⟩
   refine ⟨.agg (xs.flatMap T.cells), .struct hu q1 q2, ?_, h4⟩;rw [← h4, List.drop_zero, Nat.sub_zero, OH] at q4;exact q4
  ·cases h1
theorem MZ {S : List TypeId} (hS : Er P S = true) {t : TypeId} (ht : t ∈ S) {v : Value} {d : DataW H} {ps : List MemPlace} (hv : v.cells = #[v] ∨ ∃ cs, v = .agg cs) (hag : (∃ fs, P.underlying t = some (.struct fs)) ↔ ∃ cs, v = .agg cs)
  (h : DataW.Trod enc P w base sp held t v d ps) : ∃ x : T, Rd P t x ∧ RelD w (fun b => b < w.heap.size) (fun _ => none) [v] [.t x] [] := by
 obtain ⟨fuel, h⟩ := h
 obtain ⟨x, h1, h2, h3⟩ := Lm hS ht h
 refine ⟨x, h1, ?_⟩
 by_cases hst : ∃ cs, v = .agg cs
 ·obtain ⟨fs, hfs⟩ := hag.2 hst
  obtain ⟨cs, rfl⟩ := hst
  cases h1 with
  | struct _ _ _ => exact .tagg (by simpa [Value.cells, T.cells] using h2) .done
  | int hu _ => rw [hfs] at hu; cases hu
  | bool hu => rw [hfs] at hu; cases hu
  | str hu _ => rw [hfs] at hu; cases hu
  | slice hu _ _ _ => rw [hfs] at hu; cases hu
 ·have hc := hv.resolve_right hst
  rw [hc] at h2
  cases h1 with
  | struct hu _ _ => exact absurd (hag.1 ⟨_, hu⟩) hst
  | int hu _ => exact .t h2 .done
  | bool hu => exact .t h2 .done
  | str hu _ => exact .t h2 .done
  | slice hu _ _ _ => exact .t h2 .done
end Go.Eng
end
section
/- Further rules: a whole element stored anew. -/
namespace Go.Eng
open Go.RowKit
section
variable {P : Program} {c : Ctx} {s : St} {Q : Exit → St → Prop} {ops : Array Oper} {rest : List Oper} {o : Oper}
theorem ResL.slA {id len n : Nat} {xs : List T} {ds es : List D} (h : lookM s.M id = some (.L n xs)) (hl : xs.length = len) (k : ResL s ds es) : ResL s (.sl id 0 len :: ds) (.t (.list n xs) :: es) := by
 have := ResL.sl (off := 0) (len := len) h (by omega) k
 rw [List.drop_zero, Nw (by omega)] at this;exact this
def D.imm : D → Bool
 | .t _ | .rp _ _ => true
 | _ => false
theorem ResL.imms : ∀ {ds : List D}, ds.all D.imm = true → ResL s ds ds
 | [], _ => .done
 | .t _ :: ds, h => .t (ResL.imms (by simpa [D.imm] using h))
 | .rp _ _ :: ds, h => .rp (ResL.imms (by simpa [D.imm] using h))
theorem FE : ∀ {ds : List D}, ds.all D.imm = true → D.free.freeL ds = true
 | [], _ => rfl
 | .t _ :: ds, h => by simp only [D.free.freeL, D.free, FE (ds := ds) (by simpa [D.imm] using h), Bool.and_self]
 | .rp _ _ :: ds, h => by simp only [D.free.freeL, D.free, FE (ds := ds) (by simpa [D.imm] using h), Bool.and_self]
theorem C1 {Γ : Tys} (hΓ : Γ.ok P) {t : Nat} {x : Operand} {f : FuncId} {caps : List D} (hg : o.guard = none) (hd : o.dst = some t) (ht : t < c.n) (ho : o.op = .move x) (hx : opd s.fr x = .clo f caps) (hc : caps.all D.imm = true)
  (k : WO P c ops rest ⟨(t, .clo f caps) :: s.fr, s.M⟩ Q) : WO P c ops (o :: rest) s Q :=
 Nm hΓ hg hd ht (d := .clo f caps) (by rw [ho]; simp only [evV, hx, D.dup, D.free, FE hc, if_true]) k
theorem Le.known {t : Nat} {b : Bool} (v : Bool) (h1 : look s.fr t = .t (.bool b)) (h2 : b = v) : Le c s ⟨(t, .t (.bool v)) :: s.fr, s.M⟩ := by
 refine Le.of (fun u => .inl ?_) (fun u => .inl rfl);show (if t = u then _ else _) = _;split
 ·rename_i h; rw [← h, h1, h2]
 ·rfl
end
end Go.Eng
end
section
/- The abstract machine's rules for what slices.Grow does with a nil slice. -/
namespace Go.Eng
open Go.RowKit
section
variable {P : Program} {c : Ctx} {s : St} {Q : Exit → St → Prop} {ops : Array Oper} {rest : List Oper} {o : Oper}
theorem Le.nilOwn {u : Nat} (n : Nat) (h1 : look s.fr u = .nil) : Le c s ⟨(u, .own (.list n [])) :: s.fr, s.M⟩ := by
 rintro a w ⟨F, β, fb, mb, ow, hi⟩
 refine ⟨F, β, fb, mb, ow, { hi with fr := fun v => ?_ }⟩;show RelD w F β _ [if u = v then _ else _] _;split
 ·rename_i e
  subst e
  have h := hi.fr u
  rw [h1] at h;generalize a.tmps.getD u undef = x at h;generalize fb u = bs at h
  cases h with
  | nil h =>
   cases h;exact .own (.none .nil) .done
 ·exact hi.fr v
theorem NL {α β : Type} {f : α → β} {l : List α} : (l.map f).length = l.length := N0 ..
theorem Le.adoptE {u n m : Nat} {xs : List T} (id : Nat) (h1 : look s.fr u = .own (.list n xs)) (h2 : xs.length = m) :
  Le c s ⟨(u, .sl id 0 m) :: killF id s.fr, (id, .L n xs) :: killM id s.M⟩ := by
 subst h2; exact Le.adopt id h1
theorem K1 {α : Type} (f : α → T) (l : List α) {i : Int} (h0 : 0 ≤ i) (h1 : i < l.length) : (l.map f)[0 + i.toNat]? = some (f (l[i.toNat]'(by omega))) := by
 rw [Nat.zero_add]; exact FW f l h0 h1
end
end Go.Eng
end
section
/- Rules by which what is owned is made data that is only read, and by which a struct is moved out of its variable. -/
namespace Go.Eng
open Go.RowKit
def frz1 : D → Option T
 | .own (.list n l) => some (.list n l)
 | .t x => some x
 | _ => none
def K4 : List D → Option (List T)
 | [] => some []
 | d :: ds => match frz1 d with
  | some x => match K4 ds with
   | some xs => some (x :: xs)
   | none => none
  | none => none
def frz : D → Option D
 | .own (.list n l) => some (.t (.list n l))
 | .agg l => match K4 l with
  | some ts => some (.t (.agg ts))
  | none => none
 | _ => none
section
variable {P : Program} {c : Ctx} {s : St} {Q : Exit → St → Prop} {ops : Array Oper} {rest : List Oper} {o : Oper}
theorem frzL_rel {w : World} {F : Nat → Prop} {β : Ag} : ∀ {ds : List D} {vs : List Value} {bs : List Nat} {ts : List T}, RelD w F β vs ds bs → K4 ds = some ts → vs.all (·.oneCell') = true → RelL w (fun b => F b ∨ b ∈ bs) vs ts
 | [], vs, bs, ts, h, hf, _ => by
  cases hf;cases h;exact .nil
 | d :: ds, vs, bs, ts, h, hf, hv => by
  obtain ⟨v, vs', rfl⟩ : ∃ v vs', vs = v :: vs' := by
   have := h.length
   cases vs with
   | nil => simp at this
   | cons v vs => exact ⟨v, vs, rfl⟩
  obtain ⟨b1, b2, h1, h2, rfl⟩ := h.cons
  rw [OP, Nv] at hv;unfold K4 at hf;split at hf
  ·rename_i x hx
   split at hf
   ·rename_i xs hxs
    cases hf;refine RelL.cons' ?_ ((frzL_rel h2 hxs hv.2).mono (w := w) (w' := w) (fun b hb => ?_) fun _ _ => rfl)
    ·unfold frz1 at hx
     split at hx
     ·cases hx
      cases h1 with
      | own q1 q2 => cases q2; exact q1.rel fun b hb => .inr (by simp at hb ⊢; exact .inl hb)
     ·cases hx
      cases h1 with
      | t q1 q2 => exact q1.mono (w := w) (w' := w) (fun b hb => .inl hb) fun _ _ => rfl
      | tagg q1 q2 => simp [Value.oneCell'] at hv
     ·cases hx
    ·rcases hb with hb | hb
     ·exact .inl hb
     ·exact .inr (by simp [hb])
   ·cases hf
  ·cases hf
theorem relB_wider {w : World} {F F' : Nat → Prop} {β : Ag} {id : Nat} {k : Blk} {bs : List Nat} (h : RelB w F β id k bs) (hF : ∀ b, F b → F' b) : RelB w F' β id k bs := by
 cases k with
 | L n xs => exact h
 | box cells =>
  obtain ⟨b, arr, e, bs', h1, h2, h3, h4⟩ := h
  exact ⟨b, arr, e, bs', h1, h2, h3.mono (w := w) (w' := w) hF (fun _ _ => rfl) (fun _ _ => rfl) fun _ => rfl, h4⟩
 | raw b sz vs ts => exact h
 | rawV vs ts => exact h
 | ro vs ts => exact ⟨h.1.mono hF fun _ _ => rfl, h.2⟩
 | pin j b n c => exact h
 | obox pv cells =>
  rcases h with h | ⟨b, arr, e, bs', q1, q2, q3, q4, q5⟩
  ·exact .inl h
  ·exact .inr ⟨b, arr, e, bs', q1, q2, q3.mono (w := w) (w' := w) hF (fun _ _ => rfl) (fun _ _ => rfl) fun _ => rfl, q4, q5⟩
 | bld T e b l => exact h
 | row b cap n xs => exact h
theorem Le.freeze {u : Nat} {d : D} (h : frz (look s.fr u) = some d) : Le c s ⟨(u, d) :: s.fr, s.M⟩ := by
 classical
 rintro a w ⟨F, β, fb, mb, ow, hi⟩
 have hr := hi.fr u
 have key : RelD w (fun b => F b ∨ b ∈ fb u) β [a.tmps.getD u undef] [d] [] := by
  unfold frz at h;generalize hlk : look s.fr u = lk at h hr;generalize a.tmps.getD u undef = x at hr;generalize fb u = bs at hr;split at h
  ·cases h
   cases hr with
   | own q1 q2 => cases q2; exact .t (q1.rel fun b hb => .inr (by simpa using hb)) .done
  ·split at h
   ·rename_i ts hts
    cases h
    cases hr with
    | agg h0 q1 q2 => cases q2; exact .tagg ((frzL_rel q1 hts h0).mono (w := w) (w' := w) (fun b hb => by simpa using hb) fun _ _ => rfl) .done
   ·cases h
  ·cases h
 have hfb : ∀ b, b ∈ fb u → ow b = some (.inl u) := fun b hb => hi.ofr u b hb
 refine ⟨fun b => F b ∨ b ∈ fb u, β, fun v => if u = v then [] else fb v, mb, fun b => if b ∈ fb u then none else ow b, ?_⟩
 exact { hi with
  fr := fun v => by
   simp only [look];split
   ·rename_i e; subst e; exact key
   ·exact (hi.fr v).mono (w := w) (w' := w) (fun _ h => .inl h) (fun _ _ => rfl) (fun _ _ => rfl) fun _ => rfl
  mem := fun id => by
   have := hi.mem id
   cases hM : lookM s.M id with
   | none => rw [hM] at this; simp only [hM]; exact this
   | some k => rw [hM] at this; simp only [hM]; exact relB_wider this (fun _ h => .inl h)
  ofr := fun v b hb => by
   split at hb
   ·cases hb
   ·rename_i hv
    have h3 := hi.ofr v b hb
    rw [if_neg (fun h => ?_)]
    ·exact h3
    ·rw [hfb b h] at h3; cases h3; exact hv rfl
  omem := fun id b hb => by
   have h3 := hi.omem id b hb
   rw [if_neg (fun h => ?_)]
   ·exact h3
   ·rw [hfb b h] at h3; cases h3
  nfr := fun v => by
   split
   ·simp
   ·exact hi.nfr v
  own := fun b hb => by
   split at hb
   ·exact absurd rfl hb
   ·rename_i hn
    obtain ⟨q1, q2, q3⟩ := hi.own b hb
    exact ⟨fun h => h.elim q1 hn, q2, q3⟩
  fin := fun b hb => hb.elim (hi.fin b) fun h => (hi.own b (by rw [hfb b h]; simp)).2.1
  f0 := fun b hb => .inl (hi.f0 b hb)
  fnew := fun b hb => hb.elim (hi.fnew b) fun h => .inr (hi.own b (by rw [hfb b h]; simp)).2.2 }
theorem HA {w : World} {F : Nat → Prop} {β : Ag} : ∀ (vs : List Value), RelD w F β vs (List.replicate vs.length D.top) []
 | [] => .done
 | v :: vs => .top (HA vs)
theorem DJ {Γ : Tys} (hΓ : Γ.ok P) {ty t id : Nat} {x : Operand} {ti : TI} {cells : List D} (hg : o.guard = none) (hd : o.dst = some t) (ht : t < c.n) (ho : o.op = .load ty x)
  (h1 : A7 Γ ty = some ti) (h2 : ti.kind.isAgg = true) (hx : opd s.fr x = .ref id 0 0) (hM : lookM s.M id = some (.box cells)) (hl : cells.length = ti.size)
  (k : WO P c ops rest ⟨(t, .agg cells) :: s.fr, (id, .box (List.replicate cells.length .top)) :: s.M⟩ Q) : WO P c ops (o :: rest) s Q := by
 classical
 rintro a w ⟨F, β, fb, mb, ow, hi⟩
 have hm := hi.mem id
 rw [hM] at hm
 obtain ⟨b, arr, e, bs, q1, q2, q3, q4, q5⟩ := hm
 obtain ⟨bx, hrx, _⟩ := hi.opd x
 rw [hx] at hrx;generalize hev : a.eval x = xv at hrx
 have hlen := q3.length
 simp only [OD] at hlen
 cases hrx with
 | ref r1 r2 =>
  rw [q1] at r1;cases r1
  have hrun : (loadVar ty ⟨b, 0 * cells.length + 0, none⟩).run P w = .ok (.agg arr) w := by
   have := BV (w := w) (a := ⟨b, 0, none⟩) (cs := arr.toList) (hΓ.get h1) h2 (by simp [hlen, hl]) fun j v hj => by
    rw [As, B2 q2, Nat.zero_add]; simpa using hj
   simpa using this
  refine wpList_plain hg fun K hK => ?_
  unfold Oper.wp
  have hex : (execOp a.eval o).run P w = .ok (.value (.agg arr)) w := by
   simp only [Nat.zero_mul, Nat.add_zero] at hrun
   simp [execOp, ho, hev, Instr.loadAt, Instr.sureAddr, N8, hrun, N2]
  rw [hex, Oper.upon_value, hd]
  have hnd := hi.nmem id
  rw [q5] at hnd
  obtain ⟨hn1, hn2⟩ := N7.1 hnd
  have hbs : ∀ b', b' ∈ bs → ow b' = some (.inr id) := fun b' hb' => hi.omem id b' (by rw [q5]; simp [hb'])
  have hob : ow b = some (.inr id) := hi.omem id b (by rw [q5]; simp)
  refine hK _ _ (k _ _ ⟨F, β, fun u => if t = u then bs else fb u, fun i => if id = i then [b] else mb i, fun b' => if b' ∈ bs then some (.inl t) else ow b', ?_⟩)
  exact { hi with
   fr := fun u => by
    rw [Bs _ _ _ _ (by rw [hi.tmps]; exact ht)];simp only [look];split
    ·have := RelD.agg (vs := []) (ds := []) (bs' := []) q4 q3 .done
     simpa using this
    ·exact hi.fr u
   mem := fun i => by
    simp only [lookM]
    by_cases hid : id = i
    ·subst hid
     rw [if_pos rfl];simp only [if_true];refine ⟨b, arr, e, [], by rw [q1, List.length_replicate], q2, ?_, q4, rfl⟩;rw [← hlen]
     simpa using HA arr.toList
    ·rw [if_neg hid]
     have := hi.mem i
     cases hMi : lookM s.M i with
     | none => rw [hMi] at this; simp only [if_neg hid]; exact this
     | some kk => rw [hMi] at this; simp only [if_neg hid]; exact this
   ofr := fun u b' hb' => by
    split at hb'
    ·rename_i e; subst e; rw [if_pos hb']
    ·have h3 := hi.ofr u b' hb'
     rw [if_neg (fun h => ?_)]
     ·exact h3
     ·rw [hbs b' h] at h3; cases h3
   omem := fun i b' hb' => by
    split at hb'
    ·rename_i e; subst e
     rw [Oe] at hb';subst hb';rw [if_neg hn1]; exact hob
    ·rename_i hne
     have h3 := hi.omem i b' hb'
     rw [if_neg (fun h => ?_)]
     ·exact h3
     ·rw [hbs b' h] at h3; cases h3; exact hne rfl
   nfr := fun u => by
    split
    ·exact hn2
    ·exact hi.nfr u
   nmem := fun i => by
    split
    ·simp
    ·exact hi.nmem i
   own := fun b' hb' => by
    split at hb'
    ·rename_i h; exact hi.own b' (by rw [hbs b' h]; simp)
    ·exact hi.own b' hb'
   defers := (BT a _ _).trans hi.defers
   tmps := (B4 a _ _).trans hi.tmps }
theorem Le.keep (ks : List Nat) : Le c s ⟨C5 s.fr ks, s.M⟩ :=
 Le.of (fun t => by
  show look (C5 s.fr ks) t = _ ∨ _;unfold C5
  induction ks with
  | nil => exact .inr rfl
  | cons k ks ih =>
   rw [OV, look];split
   ·rename_i e; subst e; exact .inl rfl
   ·exact ih) (fun t => .inl rfl)
theorem W_keep {x : Code} (ks : List Nat) {s' : St} (h : B6 ⟨C5 s.fr ks, s.M⟩ = some s') (k : W P c x s' Q) : W P c x s Q := Ay (Le.keep ks) (FP h k)
theorem Nk (ks : List Nat) {s' : St} (h : B6 ⟨C5 s.fr ks, s.M⟩ = some s') (k : WO P c ops rest s' Q) : WO P c ops rest s Q := AI (Le.keep ks) (LQ h k)
theorem HS : (∀ p [Decidable p], (decide p = true) = p) ∧ (∀ p [Decidable p], (decide p = false) = ¬ p) ∧ (∀ b : Bool, ((!b) = true) = (b = false)) ∧ (∀ b : Bool, ((!b) = false) = (b = true)) ∧ ((!true) = false) ∧ ((!false) = true) ∧
  (∀ {α β : Type} (f : α → β) (l : List α), (l.map f).length = l.length) ∧ (∀ a b : Int, (¬ a < b) = (b ≤ a)) ∧ (∀ a b : Int, (¬ a ≤ b) = (b < a)) ∧ (∀ {α : Type} (a b : α), (a ≠ b) = ¬ a = b) ∧ (∀ p [Decidable p], (¬ ¬ p) = p) ∧
  (∀ b : Bool, (true = b) = (b = true)) ∧ (∀ b : Bool, (false = b) = (b = false)) ∧ (∀ a b : Bool, ((a == b) = true) = (a = b)) ∧ (∀ a b : Bool, ((a != b) = true) = (a ≠ b)) ∧ (∀ a b : Bool, ((a == b) = false) = (a ≠ b)) ∧ (∀ a b : Bool, ((a != b) = false) = (a = b)) := by
 refine ⟨fun p _ => by simp, fun p _ => by simp, by decide, by decide, rfl, rfl, fun f l => by simp, fun a b => by simp, fun a b => by simp, fun a b => rfl, fun p _ => by simp, by decide, by decide, by decide, by decide, by decide, by decide⟩
def AllEq : List (Nat × Nat) → Prop
 | [] => True
 | (a, b) :: l => a = b ∧ AllEq l
theorem AllEq.nil' : AllEq [] := trivial
theorem AllEq.cons' {a b : Nat} {l : List (Nat × Nat)} (h : a = b) (k : AllEq l) : AllEq ((a, b) :: l) := ⟨h, k⟩
def capF (s : St) : D → Option D
 | .t x => some (.t x)
 | .rp x o => some (.rp x o)
 | .ref id 0 off => match lookM s.M id with
  | some (.box cells) => match K4 cells with
   | some ts => some (.rp (.agg ts) off)
   | none => none
  | _ => none
 | _ => none
def MP (s : St) : List D → Option (List D)
 | [] => some []
 | d :: ds => match capF s d with
  | some e => match MP s ds with
   | some es => some (e :: es)
   | none => none
  | none => none
def resF1 (s : St) : D → Option (D × List (Nat × Nat))
 | .t x => some (.t x, [])
 | .rp x o => some (.rp x o, [])
 | .nil => some (.nil, [])
 | .own (.list n l) => some (.t (.list n l), [])
 | .sl id 0 len => match lookM s.M id with
  | some (.L n xs) => some (.t (.list n xs), [(xs.length, len)])
  | _ => none
 | .ref id 0 off => match lookM s.M id with
  | some (.box cells) => match K4 cells with
   | some ts => some (.rp (.agg ts) off, [])
   | none => none
  | _ => none
 | .agg l => match K4 l with
  | some ts => some (.t (.agg ts), [])
  | none => none
 | .clo f l => match MP s l with
  | some es => some (.clo f es, [])
  | none => none
 | _ => none
def G8 (s : St) : List D → Option (List D × List (Nat × Nat))
 | [] => some ([], [])
 | d :: ds => match resF1 s d with
  | some (e, cs) => match G8 s ds with
   | some (es, cs') => some (e :: es, cs ++ cs')
   | none => none
  | none => none
theorem AllEq.left {l l' : List (Nat × Nat)} : AllEq (l ++ l') → AllEq l := by
 induction l with
 | nil => intro _; trivial
 | cons p l ih => obtain ⟨a, b⟩ := p; intro h; exact ⟨h.1, ih h.2⟩
theorem AllEq.right {l l' : List (Nat × Nat)} : AllEq (l ++ l') → AllEq l' := by
 induction l with
 | nil => intro h; exact h
 | cons p l ih => obtain ⟨a, b⟩ := p; intro h; exact ih h.2
theorem frzL_res : ∀ {ds : List D} {ts : List T}, K4 ds = some ts → ResL s ds (ts.map .t)
 | [], ts, h => by cases h; exact .done
 | d :: ds, ts, h => by
  unfold K4 at h;split at h
  ·rename_i x hx
   split at h
   ·rename_i xs hxs
    cases h
    have ih := frzL_res hxs
    unfold frz1 at hx;split at hx
    ·cases hx; exact .own ih
    ·cases hx; exact .t ih
    ·cases hx
   ·cases h
  ·cases h
theorem capsF_res : ∀ {ds es : List D}, MP s ds = some es → ResL s ds es
 | [], es, h => by cases h; exact .done
 | d :: ds, es, h => by
  unfold MP at h;split at h
  ·rename_i x hx
   split at h
   ·rename_i xs hxs
    cases h
    have ih := capsF_res hxs
    unfold capF at hx;split at hx
    ·cases hx; exact .t ih
    ·cases hx; exact .rp ih
    ·split at hx
     ·rename_i hM
      split at hx
      ·rename_i ts hts; cases hx; exact .ref hM (frzL_res hts) ih
      ·cases hx
     ·cases hx
    ·cases hx
   ·cases h
  ·cases h
theorem CF : ∀ {ds es : List D} {cs : List (Nat × Nat)}, G8 s ds = some (es, cs) → AllEq cs → ResL s ds es
 | [], es, cs, h, _ => by cases h; exact .done
 | d :: ds, es, cs, h, hc => by
  unfold G8 at h;split at h
  ·rename_i x c1 hx
   split at h
   ·rename_i xs c2 hxs
    cases h
    have ih := CF hxs hc.right
    have hc1 := hc.left
    unfold resF1 at hx;split at hx
    ·cases hx; exact .t ih
    ·cases hx; exact .rp ih
    ·cases hx; exact .nil' ih
    ·cases hx; exact .own ih
    ·split at hx
     ·rename_i hM; cases hx; exact .slA hM hc1.1 ih
     ·cases hx
    ·split at hx
     ·rename_i hM
      split at hx
      ·rename_i ts hts; cases hx; exact .ref hM (frzL_res hts) ih
      ·cases hx
     ·cases hx
    ·split at hx
     ·rename_i ts hts; cases hx; exact .aggT (frzL_res hts) ih
     ·cases hx
    ·split at hx
     ·rename_i es hes; cases hx; exact .clo (capsF_res hes) ih
     ·cases hx
    ·cases hx
   ·cases h
  ·cases h
theorem AJ {t : Nat} {fo : Operand} {args : Array Operand} {tys : Array TypeId} {f : FuncId} {caps es : List D} {cs : List (Nat × Nat)} (h : ∃ r : D, Fun P f es r ∧ r.noImm = true ∧ WO P c ops rest ⟨(t, r) :: s.fr, s.M⟩ Q)
  (hg : o.guard = none := by exact rfl) (hd : o.dst = some t := by exact rfl) (ht : t < c.n := by exact AA rfl) (ho : o.op = .call { callee := .value fo, args := args, argTypes := tys } := by exact rfl) (hf : opd s.fr fo = .clo f caps := by exact rfl)
  (hes : G8 s (args.toList.map (opd s.fr) ++ caps) = some (es, cs) := by exact rfl) (hcs : AllEq cs := by repeat (first | exact AllEq.nil' | refine AllEq.cons' (by first | rfl | (simp; done) | (simp; omega) | omega) ?_)) : WO P c ops (o :: rest) s Q := by
 obtain ⟨r, hc, hn, k⟩ := h
 exact Ba hg hd ht ho hf (CF hes hcs) hc hn k
theorem BU {Q : St → Prop} {t : Nat} {fo : Operand} {args : Array Operand} {tys : Array TypeId} {f : FuncId} {caps es : List D} {cs : List (Nat × Nat)} (h : ∃ r : D, Fun P f es r ∧ r.noImm = true ∧ QL P c ops rest ⟨(t, r) :: s.fr, s.M⟩ Q)
  (hg : o.guard = none := by exact rfl) (hd : o.dst = some t := by exact rfl) (ht : t < c.n := by exact AA rfl) (ho : o.op = .call { callee := .value fo, args := args, argTypes := tys } := by exact rfl) (hf : opd s.fr fo = .clo f caps := by exact rfl)
  (hes : G8 s (args.toList.map (opd s.fr) ++ caps) = some (es, cs) := by exact rfl) (hcs : AllEq cs := by repeat (first | exact AllEq.nil' | refine AllEq.cons' (by first | rfl | (simp; done) | (simp; omega) | omega) ?_)) : QL P c ops (o :: rest) s Q := by
 obtain ⟨r, hc, hn, k⟩ := h
 exact Nq hg hd ht ho hf (CF hes hcs) hc hn k
end
end Go.Eng
end
section
/- A slice that is written out of data that is only read, and is itself only read. -/
namespace Go.Eng
open Go.RowKit
section
variable {P : Program} {c : Ctx} {s : St} {Q : Exit → St → Prop} {ops : Array Oper} {rest : List Oper} {o : Oper}
def PartsF (fr : List (Nat × D)) (n : Nat) : List Operand → List T → Prop
 | [], [] => True
 | x :: xs, y :: ys => (opd fr x = .t y ∧ y.cells.length = n) ∧ PartsF fr n xs ys
 | _, _ => False
theorem PartsF.nil' {fr : List (Nat × D)} {n : Nat} : PartsF fr n [] [] := trivial
theorem PartsF.cons' {fr : List (Nat × D)} {n : Nat} {x : Operand} {xs : List Operand} {y : T} {ys : List T} (h1 : opd fr x = .t y) (h2 : y.cells.length = n) (h : PartsF fr n xs ys) : PartsF fr n (x :: xs) (y :: ys) := ⟨⟨h1, h2⟩, h⟩
theorem HB {w : World} {F : Nat → Prop} {β : Ag} {v : Value} {y : T} {bs : List Nat} (h : RelD w F β [v] [.t y] bs) : RelL w F v.cells.toList y.cells := by
 cases h with
 | t h1 _ =>
  have h2 := relL_one' h1
  have : v.cells = #[v] := by
   cases v <;> simp_all [Value.oneCell', Value.cells]
  rw [this]
  cases h1 <;> simpa [T.cells] using (by constructor <;> assumption)
 | tagg h1 _ => simpa [Value.cells, T.cells] using h1
theorem HF {a : Act} {w : World} {F β fb mb ow} (hi : Conc c s a w F β fb mb ow) {n : Nat} : ∀ {xs : List Operand} {ys : List T}, PartsF s.fr n xs ys →
  RelL w F (xs.flatMap fun x => (a.eval x).cells.toList) (ys.flatMap T.cells) ∧ (∀ y, y ∈ ys → y.cells.length = n) ∧ (∀ x, x ∈ xs → (a.eval x).cells.size = n) ∧ ys.length = xs.length
 | [], [], _ => ⟨.nil, by simp, by simp, rfl⟩
 | [], _ :: _, h => h.elim
 | _ :: _, [], h => h.elim
 | x :: xs, y :: ys, h => by
  obtain ⟨⟨h1, h2⟩, h3⟩ := h
  obtain ⟨b, hr, _⟩ := hi.opd x
  rw [h1] at hr
  have h4 := HB hr
  obtain ⟨h5, h6, h7, h8⟩ := HF hi h3
  refine ⟨h4.append h5, fun z hz => ?_, fun z hz => ?_, by simp [h8]⟩
  ·rcases N6.1 hz with rfl | hz
   ·exact h2
   ·exact h6 z hz
  ·rcases N6.1 hz with rfl | hz
   ·have := h4.length
    rw [h2] at this
    simpa using this
   ·exact h7 z hz
theorem Ka {Γ : Tys} (hΓ : Γ.ok P) {ty e len : Nat} {parts : Array (Nat × Operand)} {ti te : TI} (ho : o.op = .buildSlice ty len parts)
  (h1 : A7 Γ ty = some ti) (h2 : ti.kind = .slice e) (h3 : A7 Γ e = some te) (hp : parts.toList.map (·.1) = List.range len) (hl : len * te.size ≤ 16777216) (hzs : te.zero.length = te.size) {a : Act} (w : World)
  (r5 : ∀ x, x ∈ parts.toList.map (·.2) → (a.eval x).cells.size = te.size) :
  (execOp a.eval o).run P w = .ok (.value (.slice (some ⟨w.heap.size, 0, none⟩) len len)) (w.alloc (.cells ((parts.toList.map (·.2)).flatMap fun x => (a.eval x).cells.toList).toArray e)) := by
 obtain ⟨⟨i, zv, q1, q2, q3, q4, q5⟩, _⟩ := hΓ.get h3
 have hu := (hΓ.get h1).2
 rw [h2] at hu
 have hlen : parts.toList.length = len := by have := congrArg List.length hp; simpa using this
 have hvs : ∀ v, v ∈ (parts.toList.map (·.2)).map a.eval → v.cells.size = te.size := fun v hv => by
  obtain ⟨x, hx, rfl⟩ := List.mem_map.1 hv
  exact r5 x hx
 have hzip : (parts.map fun x => (x.1, a.eval x.2)).toList = (List.range' 0 ((parts.toList.map (·.2)).map a.eval).length).zip ((parts.toList.map (·.2)).map a.eval) := by
  rw [Array.toList_map, N0, N0, hlen, ← List.range_eq_range', ← hp];exact Ed a.eval parts.toList
 have hrep : ((parts.toList.map (·.2)).map a.eval).flatMap (fun v => v.cells.toList) = (parts.toList.map (·.2)).flatMap fun x => (a.eval x).cells.toList := by
  rw [List.flatMap_map]
 have hzv : zv.cells.size = te.size := by rw [← hzs, ← q5]; simp
 have hfill := GY te.size ((parts.toList.map (·.2)).map a.eval) 0 [] (madeCells zv.cells (len * te.size)).toList (by simp) (by simp [size_madeCells, hlen]) hvs
 rw [← hzip, hrep] at hfill;simp only [OY, Array.toArray_toList] at hfill
 have h24 : (2 : Nat) ^ 24 = 16777216 := by decide
 have hnot : ¬ (len * te.size > 2 ^ 24) := by omega
 by_cases h0 : len * te.size = 0
 ·have hmz : madeCells zv.cells (len * te.size) = #[] := by rw [h0]; simp [madeCells]
  rw [hmz] at hfill
  have hr0 : Array.range 0 = #[] := by apply Array.ext <;> simp
  simp only [execOp, ho, Instr.buildSlice, N8, run_underlying hu.2, N2, Ae (hΓ.get h3), h0, hr0]
  simp at hfill ⊢
  simp [hr0, hfill, newRow]
 ·have hmz : (Array.range (len * te.size)).map (zv.cells[· % zv.cells.size]!) = madeCells zv.cells (len * te.size) := rfl
  simp only [execOp, ho, Instr.buildSlice, N8, run_underlying hu.2, N2, Ae (hΓ.get h3), if_neg hnot, if_neg h0, Sem.run_ite, OS]
  simp [zeroValue, typeInfo, q1, q4, madeCells] at hfill ⊢
  simp [hfill, newRow]
theorem LX {Γ : Tys} (hΓ : Γ.ok P) {ty e t len : Nat} {parts : Array (Nat × Operand)} {ti te : TI} (ys : List T) (hg : o.guard = none) (hd : o.dst = some t) (ht : t < c.n) (ho : o.op = .buildSlice ty len parts)
  (h1 : A7 Γ ty = some ti) (h2 : ti.kind = .slice e) (h3 : A7 Γ e = some te) (hp : parts.toList.map (·.1) = List.range len) (hl : len * te.size ≤ 16777216)
  (hy : PartsF s.fr te.size (parts.toList.map (·.2)) ys) (hzs : te.zero.length = te.size)
  (kk : WO P c ops rest ⟨(t, .t (.list te.size ys)) :: s.fr, s.M⟩ Q) : WO P c ops (o :: rest) s Q := by
 rintro a w ⟨F, β, fb, mb, ow, hi⟩
 obtain ⟨r1, r4, r5, r6⟩ := HF hi hy
 have hrun := Ka hΓ ho h1 h2 h3 hp hl hzs w r5
 have hlen : parts.toList.length = len := by have := congrArg List.length hp; simpa using this
 have hyl : ys.length = len := by rw [r6, N0, hlen]
 refine wpList_plain hg fun K hK => ?_
 unfold Oper.wp;rw [hrun, Oper.upon_value, hd]
 have hb : Below w.heap.size w (w.alloc (.cells ((parts.toList.map (·.2)).flatMap fun x => (a.eval x).cells.toList).toArray e)) := (Below.refl _ w).alloc (OJ _) _
 have hsz : (w.alloc (.cells ((parts.toList.map (·.2)).flatMap fun x => (a.eval x).cells.toList).toArray e)).heap.size = w.heap.size + 1 := by show (w.heap.push _).size = _; simp
 refine hK _ _ (kk _ _ ⟨fun b => F b ∨ b = w.heap.size, β, _, mb, _, hi.called ht hb (fun _ h => .inl h) (fun b h => ?_) ?_ List.nodup_nil (by simp)⟩)
 ·rcases h with h | rfl
  ·exact .inl h
  ·exact .inr ⟨OJ _, by rw [hsz]; omega⟩
 ·refine .t ?_ .done
  have := RelL.list (w := w.alloc (.cells ((parts.toList.map (·.2)).flatMap fun x => (a.eval x).cells.toList).toArray e)) (F := fun b => F b ∨ b = w.heap.size) (b := w.heap.size) (o := 0) (cap := len) (n := te.size) (xs := ys) (fz := (0, 0)) (vs := []) (ts := [])
   (.inr rfl) (heap_alloc_new w _) (cs := (parts.toList.map (·.2)).flatMap fun x => (a.eval x).cells.toList) (fun k hk => by simp) r4 (by omega) (r1.mono (fun b hb => .inl hb) fun b hb => Below.heap_alloc w _ b (hi.fin b hb)) .nil
  rwa [hyl] at this
def L4 {α : Type} (S : α → St) (inv : α → Prop) (Q : Exit → St → Prop) : Exit → St → Prop
 | .normal, s => ∃ x, Sub (S x).fr s.fr ∧ SubM (S x).M s.M ∧ inv x
 | e, s => Q e s
theorem NN {α : Type} {S : α → St} {inv : α → Prop} (x : α) (h1 : Sub (S x).fr s.fr) (h2 : SubM (S x).M s.M) (h3 : inv x) : L4 S inv Q .normal s := ⟨x, h1, h2, h3⟩
theorem D1 {α : Type} {S : α → St} {inv : α → Prop} (h : Q .ret s) : L4 S inv Q .ret s := h
theorem FQ {α : Type} {x : Code} (ks km : List Nat) (fr : α → List (Nat × D)) (M : α → List (Nat × Blk)) (inv : α → Prop)
  (h : W P c x s (L4 (fun a => ⟨fr a ++ C5 s.fr ks, M a ++ keepM s.M km⟩) inv Q)) (k : ∀ a, inv a → Q .normal ⟨fr a ++ C5 s.fr ks, M a ++ keepM s.M km⟩) : W P c x s Q := by
 intro a w hi;refine Code.wp_mono ?_ (h a w hi)
 rintro e a' w' ⟨s', hi', hq⟩
 cases e with
 | normal =>
  obtain ⟨z, h1, h2, h3⟩ := hq
  exact ⟨_, Le.sub h1 h2 a' w' hi', k z h3⟩
 | _ => exact ⟨s', hi', hq⟩
theorem nodup1 (a : Nat) : [a].Nodup := by simp
end
end Go.Eng
end
section
/- From a law's walk to the given statement: what was given is read into plain data, and reads behind the call as it did. -/
namespace Go.Eng
open Go.ChangeShapes Go.WideShapes Go.ChangeAt Go.RowKit
def RdL (P : Program) : List TypeId → List T → Prop
 | [], [] => True
 | t :: ts, x :: xs => Rd P t x ∧ RdL P ts xs
 | _, _ => False
theorem FT {H : Type} {enc : TypeId × Value → H} {P : Program} {w : World} {base : Nat} {held : Bool} {sp : Nat → Bool} {S : List TypeId} (hS : Er P S = true) : ∀ {ts : List TypeId} {vs : List Value} {ds : List (DataW H)} {ps : List MemPlace},
  DataW.TrodAll enc P w base sp held ts vs ds ps → (∀ (j : Nat) t v, ts[j]? = some t → vs[j]? = some v → (v.cells = #[v] ∨ ∃ cs, v = .agg cs) ∧ ((∃ fs, P.underlying t = some (.struct fs)) ↔ ∃ cs, v = .agg cs)) → (∀ t, t ∈ ts → t ∈ S) →
  ∃ xs : List T, RdL P ts xs ∧ RelD w (fun b => b < w.heap.size) (fun _ => none) vs (xs.map D.t) []
 | [], vs, ds, ps, h, _, _ => by
  obtain ⟨rfl, _, _⟩ := trodAll_nil h
  exact ⟨[], trivial, .done⟩
 | t :: ts, vs, ds, ps, h, hv, hts => by
  obtain ⟨v, vs', d, ds', p, q, rfl, rfl, rfl, hd, hrest⟩ := trodAll_cons h
  obtain ⟨h1, h2⟩ := hv 0 t v rfl rfl
  obtain ⟨x, hx, hrel⟩ := MZ hS (hts t (OG ..)) h1 h2 hd
  obtain ⟨xs, hxs, hrels⟩ := FT hS hrest (fun j t v ht hv' => hv (j + 1) t v ht hv') (fun t ht => hts t (OE _ ht))
  exact ⟨x :: xs, ⟨hx, hxs⟩, hrel.cons' hrels⟩
theorem Dk {H : Type} {enc : TypeId × Value → H} {P : Program} (hl : laidOutB P = true) {W W' : World} (hb : Below W.heap.size W W') : ∀ {ts : List TypeId} {vs : List Value} {ds : List (DataW H)} {ps : List MemPlace},
  DataW.TrodAll enc P W 0 (fun _ => true) true ts vs ds ps → (∀ t, t ∈ ts → P.readableRec t = true ∧ t < P.types.size) → (∀ x, x ∈ ps → x.block < W.heap.size) →
  DataW.TrodAll enc P W' 0 (fun b => decide (b < W.heap.size)) true ts vs ds ps
 | [], vs, ds, ps, h, _, _ => by
  obtain ⟨rfl, rfl, rfl⟩ := trodAll_nil h
  trivial
 | t :: ts, vs, ds, ps, h, hr, hlt => by
  obtain ⟨v, vs', d, ds', p, q, rfl, rfl, rfl, hd, hrest⟩ := trodAll_cons h
  obtain ⟨h1, h2⟩ := hr t (OG ..)
  exact ⟨p, q, Below.trod hl h1 h2 hd hb (fun x hx => hlt x (Oc _ hx)), Dk hl hb hrest (fun t ht => hr t (OE _ ht)) (fun x hx => hlt x (List.mem_append_right _ hx)), rfl⟩
theorem Ef {H : Type} {enc : TypeId × Value → H} {P : Program} {w : World} {base : Nat} {held : Bool} {sp : Nat → Bool} : ∀ {ts : List TypeId} {vs : List Value} {ds : List (DataW H)} {ps : List MemPlace},
  DataW.TrodAll enc P w base sp held ts vs ds ps → ds.length = ts.length
 | [], vs, ds, ps, h => by obtain ⟨_, rfl, _⟩ := trodAll_nil h; rfl
 | t :: ts, vs, ds, ps, h => by
  obtain ⟨v, vs', d, ds', p, q, rfl, rfl, rfl, hd, hrest⟩ := trodAll_cons h
  simp [Ef hrest]
theorem HK {P : Program} {S : List TypeId} (hS : Er P S = true) {w : World} {base : Nat} {t : TypeId} {v : Value} (ht : t ∈ S) (h : Value.okWide P w .any base t v) :
  (v.cells = #[v] ∨ ∃ cs, v = .agg cs) ∧ ((∃ fs, P.underlying t = some (.struct fs)) ↔ ∃ cs, v = .agg cs) := by
 unfold Er at hS;rw [N1] at hS
 have h1 := hS t ht
 split at h1
 ·rename_i k hu
  simp only [Value.okWide, hu, Cell.okWide] at h
  cases v <;> simp_all [Cell.ok, Value.cells]
 ·rename_i hu
  simp only [Value.okWide, hu, Cell.okWide] at h
  cases v <;> simp_all [Cell.ok, Value.cells]
 ·rename_i hu
  simp only [Value.okWide, hu, Cell.okWide] at h
  cases v <;> simp_all [Cell.ok, Value.cells]
 ·rename_i e hu
  obtain ⟨a, len, cap, rfl⟩ := okWide_slice hu h
  simp [hu, Value.cells]
 ·rename_i fs hu
  obtain ⟨cs, rfl, _⟩ := okWide_struct hu h
  exact ⟨.inr ⟨_, rfl⟩, ⟨fun _ => ⟨_, rfl⟩, fun _ => ⟨_, hu⟩⟩⟩
 ·cases h1
theorem rd_str {P : Program} {t : TypeId} {x : T} (hu : P.underlying t = some .string) (h : Rd P t x) : ∃ b : ByteArray, x = .v (.string b) ∧ b.size ≤ maxLen := by
 cases h with
 | str _ h => exact ⟨_, rfl, h⟩
 | slice h _ _ _ => rw [hu] at h; cases h
 | int h _ => rw [hu] at h; cases h
 | bool h => rw [hu] at h; cases h
 | struct h _ _ => rw [hu] at h; cases h
end Go.Eng
end
section
/- Functions that write into what they are given, which is owned: rules for memory whose place is known, and what such a function does. -/
namespace Go.Eng
open Go.RowKit
def MarkF (P : Program) (f : FuncId) (x : T) (k r : Int) (y : T) : Prop :=
 BJ P f ∧ ∀ (w : World) (v : Value) (bs : List Nat), (match x with | .agg _ => ∃ arr, v = .agg arr | _ => v.cells = #[v]) → OwnL w v.cells.toList x.cells bs → bs.Nodup → (∀ b, b ∈ bs → b < w.heap.size) →
  Calls P f #[v, .int .i64 k] w fun e w' => e = .returned (.int .i64 r) ∧ ∃ bs', OwnL w' v.cells.toList y.cells bs' ∧ bs'.Nodup ∧ (∀ b, b ∈ bs' → b ∈ bs ∨ (w.heap.size ≤ b ∧ b < w'.heap.size)) ∧
   w'.os = w.os ∧ w'.tape = w.tape ∧ w'.output = w.output ∧ w.heap.size ≤ w'.heap.size ∧ ∀ b, b < w.heap.size → b ∉ bs → w'.heap[b]? = w.heap[b]?
section
variable {P : Program} {c : Ctx} {s : St} {Q : Exit → St → Prop} {ops : Array Oper} {rest : List Oper} {o : Oper}
theorem A3 {a : Act} {w : World} {F β fb mb ow} (hi : Conc c s a w F β fb mb ow) {x : Operand} {u : Value} (hx : opd s.fr x = .t (.v u)) : a.eval x = u := by
 obtain ⟨bs, hr, _⟩ := hi.opd x
 rw [hx] at hr;exact Am hr
theorem Gm {t ty n cap : Nat} {ad : Option Addr} {x : Operand} (hg : o.guard = none) (hd : o.dst = some t) (ht : t < c.n) (ho : o.op = .call { callee := .builtin .len, args := #[x], argTypes := #[ty] })
  (hu : ∃ e, P.underlying ty = some (.slice e)) (hx : opd s.fr x = .t (.v (.slice ad n cap))) (k : WO P c ops rest ⟨(t, .t (.int n)) :: s.fr, s.M⟩ Q) : WO P c ops (o :: rest) s Q := by
 refine BC hg hd ht _ (fun a w F β fb mb ow hi => ?_) k
 obtain ⟨e, hu⟩ := hu
 refine ⟨.int .i64 n, ?_, .t (.v rfl .nil) .done⟩
 simp [execOp, ho, resolve, invoke, builtin, A3 hi hx, Builtin.len_, run_underlying hu]
 rfl
theorem D8 {Γ : Tys} (hΓ : Γ.ok P) {ty e t b n cap : Nat} {x ix : Operand} {ti te : TI} {i : Int} (hg : o.guard = none) (hd : o.dst = some t) (ht : t < c.n) (ho : o.op = .indexAddr ty x ix)
  (h1 : A7 Γ ty = some ti) (h2 : ti.kind = .slice e) (h3 : A7 Γ e = some te) (hx : opd s.fr x = .t (.v (.slice (some ⟨b, 0, none⟩) n cap))) (hix : opd s.fr ix = .t (.int i)) (h5 : 0 ≤ i) (h6 : i < n)
  (k : WO P c ops rest ⟨(t, .t (.v (.pointer (some ⟨b, i.toNat * te.size, none⟩)))) :: s.fr, s.M⟩ Q) : WO P c ops (o :: rest) s Q := by
 refine BC hg hd ht _ (fun a w F β fb mb ow hi => ?_) k;refine ⟨.pointer (some ⟨b, 0 + i.toNat * te.size, none⟩), ?_, by rw [Nat.zero_add]; exact .t (.v rfl .nil) .done⟩;simp only [execOp, ho, A3 hi hx, A3 hi hix, N8, CO (hΓ.get h1) h2 (hΓ.get h3) h5 h6, N2];rfl
theorem Cn {Γ : Tys} (hΓ : Γ.ok P) {ty t b off f j : Nat} {x : Operand} {ti : TI} {offs : List Nat} (hg : o.guard = none) (hd : o.dst = some t) (ht : t < c.n) (ho : o.op = .fieldAddr ty x j)
  (h1 : A7 Γ ty = some ti) (h2 : ti.kind = .agg offs) (h3 : offs[j]? = some f) (hx : opd s.fr x = .t (.v (.pointer (some ⟨b, off, none⟩))))
  (k : WO P c ops rest ⟨(t, .t (.v (.pointer (some ⟨b, off + f, none⟩)))) :: s.fr, s.M⟩ Q) : WO P c ops (o :: rest) s Q := by
 refine BC hg hd ht _ (fun a w F β fb mb ow hi => ?_) k;refine ⟨.pointer (some ⟨b, off + f, none⟩), ?_, .t (.v rfl .nil) .done⟩;simp only [execOp, ho, A3 hi hx, N8, DC (hΓ.get h1) h2 h3, N2];rfl
theorem Hy {α : Type} {l ds : List α} {off n : Nat} (h : off + ds.length ≤ n) (hn : n ≤ l.length) : (splice l off ds).take n = splice (l.take n) off ds := by
 unfold splice
 have e1 : (l.take n).take off = l.take off := by rw [List.take_take, Nat.min_eq_left (by omega)]
 rw [e1, List.take_append, Nw (by simp; omega)]
 congr 1
 simp only [Nu, OO];rw [List.drop_take, Nat.min_eq_left (by omega)]
 first | done | (congr 1; done) | (congr 1; omega)
theorem Jj {α : Type} {l : List α} {off : Nat} {d : α} (h : off < l.length) : splice l off [d] = l.set off d := by
 unfold splice;rw [List.set_eq_take_append_cons_drop, if_pos h]
 simp
theorem OwnL.setS {w : World} {vs ts bs} (h : OwnL w vs ts bs) {j : Nat} {u0 u : Value} (ht : ts[j]? = some (.v u0)) (hu : u.oneCell' = true) : OwnL w (vs.set j u) (ts.set j (.v u)) bs := by
 induction h generalizing j with
 | nil => simp at ht
 | v h1 h2 ih =>
  cases j with
  | zero => exact .v hu h2
  | succ j => exact .v h1 (ih (by simpa using ht))
 | none h ih =>
  cases j with
  | zero => simp at ht
  | succ j => exact .none (ih (by simpa using ht))
 | list h1 h2 h3 h4 h5 h6 h7 h8 ih1 ih2 =>
  cases j with
  | zero => simp at ht
  | succ j => exact .list h1 h2 h3 h4 h5 h6 h7 (ih2 (by simpa using ht))
 | sub h1 h2 h3 h4 h5 h6 h7 h8 h9 ih =>
  cases j with
  | zero => simp at ht
  | succ j => exact .sub h1 h2 h3 h4 h5 h6 h7 h8 (ih (by simpa using ht))
theorem B3 {Γ : Tys} (hΓ : Γ.ok P) {ty b sz id off : Nat} {x y : Operand} {ti : TI} {vs : List Value} {ts : List T} {u0 u : Value} (hg : o.guard = none) (hd : o.dst = none) (ho : o.op = .store ty x y)
  (h1 : A7 Γ ty = some ti) (h2 : ti.size = 1) (hx : opd s.fr x = .t (.v (.pointer (some ⟨b, off, none⟩)))) (hM : lookM s.M id = some (.raw b sz vs ts)) (ht : ts[off]? = some (.v u0)) (hy : opd s.fr y = .t (.v u)) (hu : u.cells = #[u]) (hone : u.oneCell' = true)
  (k : WO P c ops rest ⟨s.fr, (id, .raw b sz (vs.set off u) (ts.set off (.v u))) :: s.M⟩ Q) : WO P c ops (o :: rest) s Q := by
 rintro a w ⟨F, β, fb, mb, ow, hi⟩
 have hm := hi.mem id
 rw [hM] at hm
 obtain ⟨arr, e, bs, q1, q2, q3, q4, q5⟩ := hm
 have hlen := q4.length
 have hoff := (List.getElem?_eq_some_iff.1 ht).1
 have hva : vs.length ≤ arr.size := by
  have := congrArg List.length q3
  simp only [OO, OD] at this;omega
 have hob : ow b = some (.inr id) := hi.omem id b (by rw [q5]; simp)
 have hnd := hi.nmem id
 rw [q5] at hnd
 obtain ⟨hn1, hn2⟩ := N7.1 hnd
 have hev := A3 hi hx
 have hevy := A3 hi hy
 refine wpList_plain hg fun K hK => ?_
 unfold Oper.wp
 have hrun : (execOp a.eval o).run P w = .ok .skip (w.setRow b (splice arr.toList off (a.eval y).cells.toList).toArray) := by
  have := En (hΓ.get h1) (off := off) (v := a.eval y) q1 (by rw [hevy, hu, h2]; rfl) (by rw [hevy, hu]; simpa using hone) (by rw [hevy, hu]; simp; omega)
  simp only [execOp, ho, hev, N8, this, N2];rfl
 rw [hrun, Oper.upon_skip, hd]
 have hkeep : ∀ b', b' ≠ b → (w.setRow b (splice arr.toList off (a.eval y).cells.toList).toArray).heap[b']? = w.heap[b']? := fun b' h => setRow_other w b b' _ h
 refine hK _ _ (k _ _ ?_)
 refine hi.renew id (Anew.same id β) (fun _ => False) (b :: bs) (.raw b sz (vs.set off u) (ts.set off (.v u))) none rfl (by simp) rfl rfl rfl (by simp)
  (fun b' hb' h => hkeep b' fun e => (h _ (e ▸ hob)).2 rfl) (fun v _ => .inl ⟨rfl, by simp⟩) (by simp [lookM]) ?_ hnd ?_ ?_
 ·refine ⟨_, e, bs, setRow_heap w b arr _ e _ q1, ?_, ?_, ?_, rfl⟩
  ·rw [hevy, hu, ← q2]
   have := CU (l := arr.toList) (off := off) (ds := [u]) (by simp; omega)
   simpa using this
  ·rw [hevy, hu, List.length_set]
   show (splice arr.toList off [u]).take vs.length = _;rw [Hy (by simp; omega) (by simpa using hva), q3, Jj (by omega)]
  ·exact (q4.setS ht hone).mono fun b' hb' => hkeep b' fun e => hn1 (e ▸ hb')
 ·intro b' hb'
  exact .inr ⟨_, hi.omem id b' (by rw [q5]; exact hb'), .inr rfl⟩
 ·intro j hj
  simp only [lookM, if_neg (Ne.symm hj)];exact .inr ⟨by simp, by cases lookM s.M j <;> rfl⟩
end
end Go.Eng
end
section
/- Calls of functions that write into what they are given; and how a walk shows what such a function does. -/
namespace Go.Eng
open Go.RowKit
theorem OwnL.at {w : World} : ∀ {vs ts bs} (j : Nat) {u : Value} {x : T}, OwnL w vs ts bs → vs[j]? = some u → ts[j]? = some x → ∃ b1 b2 b3, bs = b1 ++ b2 ++ b3 ∧ OwnL w [u] [x] b2 ∧
  ∀ (w' : World) y b2', (∀ b, b ∈ b1 ++ b3 → w'.heap[b]? = w.heap[b]?) → OwnL w' [u] [y] b2' → OwnL w' vs (ts.set j y) (b1 ++ b2' ++ b3)
 | [], _, _, _, _, _, h, hv, _ => by simp at hv
 | _ :: _, [], _, _, _, _, h, _, ht => by simp at ht
 | vv :: vs, tt :: ts, _, 0, u, x, h, hv, ht => by
  obtain ⟨b1, b2, h1, h2, rfl⟩ := h.cons
  simp at hv ht
  subst hv; subst ht;exact ⟨[], b1, b2, by simp, h1, fun w' y b2' hk hy => by simpa using OwnL.cons' hy (h2.mono fun b hb => hk b (by simp [hb]))⟩
 | vv :: vs, tt :: ts, _, j + 1, u, x, h, hv, ht => by
  obtain ⟨b1, b2, h1, h2, rfl⟩ := h.cons
  obtain ⟨c1, c2, c3, rfl, h3, h4⟩ := OwnL.at j h2 (by simpa using hv) (by simpa using ht)
  refine ⟨b1 ++ c1, c2, c3, by simp, h3, fun w' y b2' hk hy => ?_⟩
  have h5 := h4 w' y b2' (fun b hb => hk b (by rcases N3.1 hb with hb | hb <;> simp [hb])) hy
  have := OwnL.cons' (h1.mono (w' := w') fun b hb => hk b (by simp [hb])) h5
  simpa [List.set] using this
def T.flat : T → Bool
 | .agg _ => false
 | _ => true
theorem T.flat_cells {z : T} (h : z.flat = true) : z.cells = [z] := by
 cases z <;> first | rfl | cases h
section
variable {P : Program} {c : Ctx} {s : St} {Q : Exit → St → Prop} {ops : Array Oper} {rest : List Oper} {o : Oper}
def Kh : Blk → Option (List Value × List T)
 | .raw _ _ vs ts => some (vs, ts)
 | .rawV vs ts => some (vs, ts)
 | _ => none
def setV (j : Nat) (y : T) : Blk → Blk
 | .raw b sz vs ts => .raw b sz vs (ts.set j y)
 | .rawV vs ts => .rawV vs (ts.set j y)
 | k => k
theorem G2 {a : Act} {w : World} {F β fb mb ow} (hi : Conc c s a w F β fb mb ow) {fo x y : Operand} {tys : Array TypeId} {f : FuncId} (ho : o.op = .call { callee := .value fo, args := #[x, y], argTypes := tys }) (hf : opd s.fr fo = .clo f []) (hc : BJ P f) :
  (execOp a.eval o).run P w = .ok (.enter f #[a.eval x, a.eval y]) w := by
 obtain ⟨bf, hrf, h1⟩ := hi.opd fo
 rw [hf] at hrf
 obtain ⟨arr, bs', hv, hr1, rfl⟩ := BA hrf
 have ha : arr = #[] := by
  have := hr1.length
  cases arr with
  | mk l => cases l with
   | nil => rfl
   | cons _ _ => simp at this
 subst ha
 simp [execOp, ho, resolve, hv, Deferred.ofValue, invoke, A9 hc]
theorem JY {t id j : Nat} {fo x y : Operand} {tys : Array TypeId} {f : FuncId} {k r : Int} {u : Value} {z y0 : T} {blk : Blk} {vs : List Value} {ts : List T} (hg : o.guard = none) (hd : o.dst = some t) (ht : t < c.n)
  (ho : o.op = .call { callee := .value fo, args := #[x, y], argTypes := tys }) (hf : opd s.fr fo = .clo f []) (hx : opd s.fr x = .t (.v u)) (hy : opd s.fr y = .t (.int k)) (hM : lookM s.M id = some blk) (hb : Kh blk = some (vs, ts)) (hu : vs[j]? = some u) (hx0 : ts[j]? = some z) (hz : z.flat = true) (hz' : y0.flat = true)
  (hm : MarkF P f z k r y0)
  (kk : WO P c ops rest ⟨(t, .t (.int r)) :: s.fr, (id, setV j y0 blk) :: s.M⟩ Q) : WO P c ops (o :: rest) s Q := by
 rintro a w ⟨F, β, fb, mb, ow, hi⟩
 have hmm := hi.mem id
 rw [hM] at hmm
 have hrun := G2 hi ho hf hm.1
 rw [A3 hi hx, A3 hi hy] at hrun
 -- what is owned
 have key : ∃ pre bs, mb id = pre ++ bs ∧ OwnL w vs ts bs ∧ ∀ (w' : World) ts' bs', (∀ b, b ∈ pre → w'.heap[b]? = w.heap[b]?) → OwnL w' vs ts' bs' → (∀ j, setV j y0 blk = setV j y0 blk) → (ts' = ts.set j y0) → RelB w' F β id (setV j y0 blk) (pre ++ bs') := by
  cases blk with
  | L _ _ => simp [Kh] at hb
  | box _ => simp [Kh] at hb
  | ro _ _ => simp [Kh] at hb
  | pin _ _ _ _ => simp [Kh] at hb
  | obox _ _ => simp [Kh] at hb
  | bld _ _ _ _ => simp [Kh] at hb
  | row _ _ _ _ => simp [Kh] at hb
  | raw b sz vs0 ts0 =>
   simp [Kh] at hb
   obtain ⟨rfl, rfl⟩ := hb
   obtain ⟨arr, e, bs, q1, q2, q3, q4, q5⟩ := hmm
   exact ⟨[b], bs, by simp [q5], q4, fun w' ts' bs' hk hO _ e1 => by subst e1; exact ⟨arr, e, bs', (hk b (by simp)).trans q1, q2, q3, hO, rfl⟩⟩
  | rawV vs0 ts0 =>
   simp [Kh] at hb
   obtain ⟨rfl, rfl⟩ := hb
   exact ⟨[], mb id, rfl, hmm, fun w' ts' bs' hk hO _ e1 => by subst e1; exact hO⟩
 obtain ⟨pre, bs, e1, hO, hback⟩ := key
 obtain ⟨b1, b2, b3, e2, h2, h3⟩ := hO.at j hu hx0
 have hnd := hi.nmem id
 have hin : ∀ b, b ∈ mb id → b < w.heap.size := fun b h => (hi.own b (by rw [hi.omem id b h]; simp)).2.1
 have hone : u.cells = #[u] := by
  have := h2.one
  cases u <;> simp_all [Value.oneCell', Value.cells]
 have hn2 : b2.Nodup := by
  rw [e1, e2] at hnd;exact ((N5.1 ((N5.1 ((N5.1 hnd).2.1)).1)).2.1)
 refine wpList_plain hg fun K hK => ?_
 unfold Oper.wp;rw [hrun, Oper.upon_enter];refine (hm.2 w u b2 (by cases z <;> first | exact hone | cases hz) (by rw [hone, T.flat_cells hz]; exact h2) hn2 (fun b hb => hin b (by rw [e1, e2]; simp [hb]))).mono ?_
 rintro e w' ⟨rfl, bs', r1, r2, r3, r4, r5, r6, r7, r8⟩
 rw [hone, T.flat_cells hz'] at r1
 have r1 : OwnL w' [u] [y0] bs' := r1
 dsimp only;rw [hd]
 have hkeep : ∀ b, b ∈ mb id → b ∉ b2 → w'.heap[b]? = w.heap[b]? := fun b hb hn => r8 b (hin b hb) hn
 have hnd2 := hnd
 rw [e1, e2] at hnd2
 have hdis : ∀ b, b ∈ pre ++ (b1 ++ b3) → b ∉ b2 ∧ b ∈ mb id := fun b hb => by
  rw [e1, e2];rw [N5] at hnd2
  obtain ⟨n1, n2, n3⟩ := hnd2
  rw [N5] at n2
  obtain ⟨n4, n5, n6⟩ := n2
  rw [N5] at n4
  obtain ⟨n7, n8, n9⟩ := n4
  rcases N3.1 hb with hb | hb
  ·exact ⟨fun h => n3 b hb b (by simp [h]) rfl, by simp [hb]⟩
  ·rcases N3.1 hb with hb | hb
   ·exact ⟨fun h => n9 b hb b h rfl, by simp [hb]⟩
   ·exact ⟨fun h => n6 b (by simp [h]) b hb rfl, by simp [hb]⟩
 have hO' := h3 w' y0 bs' (fun b hb => hkeep b (hdis b (List.mem_append_right _ hb)).2 (hdis b (List.mem_append_right _ hb)).1) r1
 have hB := hback w' _ _ (fun b hb => hkeep b (hdis b (Oc _ hb)).2 (hdis b (Oc _ hb)).1) hO' (fun _ => rfl) rfl
 have hold : ∀ b, b ∈ bs' → b ∈ mb id ∨ (w.heap.size ≤ b ∧ b < w'.heap.size) := fun b hb => (r3 b hb).imp (fun h => by rw [e1, e2]; simp [h]) fun h => h
 refine hK _ _ (kk _ _ ?_)
 refine hi.renew id (Anew.same id β) (fun _ => False) (pre ++ (b1 ++ bs' ++ b3)) (setV j y0 blk) (some (t, .int .i64 r, .t (.int r))) rfl ?_ r4 r5 r6 r7
  (fun b hb h => r8 b hb fun h2' => (h _ (hi.omem id b (by rw [e1, e2]; simp [h2']))).2 rfl) ?_ (by simp [lookM]) hB ?_ ?_ ?_
 ·rintro t' v d h
  cases h;exact ⟨ht, .t (.v rfl .nil) .done, by simp [look]⟩
 ·intro v hv
  have := hv _ _ _ rfl
  exact .inl ⟨by simp [look, Ne.symm this], by simp⟩
 ·have hsub : List.Sublist (pre ++ (b1 ++ b3)) (pre ++ (b1 ++ b2 ++ b3)) := by
   refine List.Sublist.append (List.Sublist.refl _) ?_;rw [OA];exact List.Sublist.append (List.Sublist.refl _) (List.sublist_append_right _ _)
  have n0 := hnd2.sublist hsub
  have := Cg (b1 := pre ++ b1) (b3 := b3) (bs := pre ++ (b1 ++ b3)) (bs' := bs') (by simp) n0 r2 (fun b hb h => by
   rcases r3 b h with h | h
   ·exact (hdis b hb).1 h
   ·have := hin b (hdis b hb).2; omega)
  simpa using this
 ·intro b hb
  rcases N3.1 hb with h | h
  ·exact .inr ⟨_, hi.omem id b (by rw [e1]; simp [h]), .inr rfl⟩
  ·rcases N3.1 h with h | h
   ·rcases N3.1 h with h | h
    ·exact .inr ⟨_, hi.omem id b (by rw [e1, e2]; simp [h]), .inr rfl⟩
    ·rcases hold b h with h | h
     ·exact .inr ⟨_, hi.omem id b h, .inr rfl⟩
     ·exact .inl h
   ·exact .inr ⟨_, hi.omem id b (by rw [e1, e2]; simp [h]), .inr rfl⟩
 ·intro i' hi'
  simp only [lookM, if_neg (Ne.symm hi')];exact .inr ⟨by simp, by cases lookM s.M i' <;> rfl⟩
theorem JZ {t id j : Nat} {fo x y : Operand} {tys : Array TypeId} {f : FuncId} {k r : Int} {u : Value} {m m' : Nat} {zs zs' : List T} {blk : Blk} {vs : List Value} {ts : List T} (hg : o.guard = none) (hd : o.dst = some t) (ht : t < c.n)
  (ho : o.op = .call { callee := .value fo, args := #[x, y], argTypes := tys }) (hf : opd s.fr fo = .clo f []) (hx : opd s.fr x = .t (.v u)) (hy : opd s.fr y = .t (.int k)) (hM : lookM s.M id = some blk) (hb : Kh blk = some (vs, ts)) (hu : vs[j]? = some u) (hx0 : ts[j]? = some (.list m zs))
  (hm : MarkF P f (.list m zs) k r (.list m' zs'))
  (kk : WO P c ops rest ⟨(t, .t (.int r)) :: s.fr, (id, setV j (.list m' zs') blk) :: s.M⟩ Q) : WO P c ops (o :: rest) s Q :=
 JY hg hd ht ho hf hx hy hM hb hu hx0 rfl rfl hm kk
def KP (fn : Func) (r : Int) (id : Nat) (p : Blk → Prop) : Exit → St → Prop
 | .normal, s | .ret, s => ∃ u, fn.results.toList = [.tmp u] ∧ look s.fr u = .t (.int r) ∧ ∃ blk, lookM s.M id = some blk ∧ p blk
 | _, _ => False
theorem GM {f : FuncId} {fn : Func} {code : Code} (hf : P.funcs[f]? = some fn) (hb : fn.body = some code) (hname : (fn.name == "runtime.NumGoroutine") = false) {N : Nat} (hN : 2 + (fn.ntmps - 2) = N) {d : D} {k r : Int} {blk : Blk} {p : Blk → Prop}
  (hwalk : ∀ w0 G F0, W P ⟨w0, G, F0, N⟩ code ⟨[(0, d), (1, .t (.int k))], [(N, blk)]⟩ (KP fn r N p)) (w : World) (v : Value) (bs : List Nat) (hv : RelD w (fun _ => False) (fun _ => none) [v] [d] []) (hB : RelB w (fun _ => False) (fun _ => none) N blk bs)
  (hnd : bs.Nodup) (hlt : ∀ b, b ∈ bs → b < w.heap.size) :
  Calls P f #[v, .int .i64 k] w fun e w' => e = .returned (.int .i64 r) ∧ ∃ blk' F' β' bs', p blk' ∧ RelB w' F' β' N blk' bs' ∧ bs'.Nodup ∧ (∀ b, b ∈ bs' → b ∈ bs ∨ (w.heap.size ≤ b ∧ b < w'.heap.size)) ∧
   w'.os = w.os ∧ w'.tape = w.tape ∧ w'.output = w.output ∧ w.heap.size ≤ w'.heap.size ∧ ∀ b, b < w.heap.size → b ∉ bs → w'.heap[b]? = w.heap[b]? := by
 classical
 refine calls_of_wp hf hb ?_
 have h0 : Is ⟨w, fun b => b ∈ bs, fun _ => False, N⟩ ⟨[(0, d), (1, .t (.int k))], [(N, blk)]⟩ { tmps := #[v, .int .i64 k] ++ Array.replicate (fn.ntmps - 2) undef, defers := [] } w := by
  refine ⟨fun _ => False, fun _ => none, fun _ => [], fun id => if id = N then bs else [], fun b => if b ∈ bs then some (.inr N) else none, ?_⟩
  exact {
   fr := fun t => by
    match t with
    | 0 => simpa [look, Array.getD, show 0 < 2 + (fn.ntmps - 2) from by omega] using hv
    | 1 => simpa [look, Array.getD, show 1 < 2 + (fn.ntmps - 2) from by omega] using (RelD.t (.v rfl .nil) .done : RelD w (fun _ => False) (fun _ => none) [.int .i64 k] [.t (.int k)] [])
    | t + 2 => simp only [look]; exact .top .done
   mem := fun id => by
    simp only [lookM]
    by_cases h : N = id
    ·subst h; simp only [if_true]; exact hB
    ·rw [if_neg h]; simp only [if_neg (Ne.symm h)]
   ofr := by simp
   omem := fun id b hb => by
    split at hb
    ·rename_i e; rw [if_pos hb, e]
    ·cases hb
   nfr := by simp
   nmem := fun id => by split <;> simp [hnd]
   own := fun b hb => by
    split at hb
    ·rename_i h; exact ⟨by simp, hlt b h, .inr h⟩
    ·exact absurd rfl hb
   fin := by simp
   f0 := by simp
   fnew := by simp
   f0in := by simp
   gin := hlt
   os := rfl
   tape := rfl
   output := rfl
   size := OJ _
   keep := fun _ _ _ => rfl
   defers := rfl
   tmps := by simp [← hN] }
 have h1 : ({ tmps := #[v, .int .i64 k] ++ Array.replicate (fn.ntmps - (#[v, Value.int .i64 k] : Array Value).size) undef, defers := [] } : Act) = { tmps := #[v, .int .i64 k] ++ Array.replicate (fn.ntmps - 2) undef, defers := [] } := rfl
 refine Code.wp_mono ?_ (hwalk w _ _ _ _ h0)
 rintro e a' w' ⟨s', ⟨F', β, fb, mb, ow, hi⟩, hq⟩
 have key : (∃ u, fn.results.toList = [.tmp u] ∧ look s'.fr u = .t (.int r) ∧ ∃ blk, lookM s'.M N = some blk ∧ p blk) → a'.defers = [] ∧ ∃ v, (results fn a'.tmps).run P w' = .ok v w' ∧
   (Ending.returned v = .returned (.int .i64 r) ∧ ∃ blk' F' β' bs', p blk' ∧ RelB w' F' β' N blk' bs' ∧ bs'.Nodup ∧ (∀ b, b ∈ bs' → b ∈ bs ∨ (w.heap.size ≤ b ∧ b < w'.heap.size)) ∧
   w'.os = w.os ∧ w'.tape = w.tape ∧ w'.output = w.output ∧ w.heap.size ≤ w'.heap.size ∧ ∀ b, b < w.heap.size → b ∉ bs → w'.heap[b]? = w.heap[b]?) := by
  rintro ⟨u, h2, h3, blk', h4, h5⟩
  have hr := hi.fr u
  rw [h3] at hr
  have e1 := Am hr
  have hm := hi.mem N
  rw [h4] at hm;refine ⟨hi.defers, .int .i64 r, ?_, rfl, blk', F', β, mb N, h5, hm, hi.nmem N, fun b hb => ?_, hi.os, hi.tape, hi.output, hi.size, fun b hb hn => hi.keep b hb hn⟩
  ·have := CP (P := P) fn a'.tmps (vs := [.int .i64 r]) (w := w') (by rw [h2]; simp [Fm, e1])
   simpa using this
  ·obtain ⟨_, h7, h8⟩ := hi.own b (by rw [hi.omem N b hb]; simp)
   exact h8.symm.imp (fun h => h) fun h => ⟨h, h7⟩
 cases e with
 | normal => exact key hq
 | ret => exact key hq
 | _ => exact hq.elim
theorem RelL.nilP {w : World} {F : Nat → Prop} {u : Value} {n : Nat} (h : ∃ bs, OwnL w [u] [.list n []] bs) : RelL w F [u] [.list n []] := by
 obtain ⟨bs, h⟩ := h
 generalize hx : T.list n [] = x at h
 cases h with
 | v h1 h2 => cases hx
 | none h => cases h; cases hx; exact .none .nil
 | list h1 h2 h3 h4 h5 h6 h7 h8 =>
  cases h8
  injection hx with hx1 hx2
  subst hx1; subst hx2;exact .none .nil
 | sub _ _ _ _ _ _ _ _ _ => cases hx
theorem MarkF.slice {f : FuncId} {fn : Func} {code : Code} (hf : P.funcs[f]? = some fn) (hb : fn.body = some code) (hname : (fn.name == "runtime.NumGoroutine") = false) {N : Nat} (hN : 2 + (fn.ntmps - 2) = N) {n : Nat} {xs ys : List T} {k r : Int}
  (hyn : ∀ y, y ∈ ys → y.cells.length = n) (hlen : ys.length = xs.length) (hnil : xs = [] → Fun P f [.t (.list n []), .t (.int k)] (.t (.int r)))
  (hwalk : ∀ b cap vs w0 G F0, W P ⟨w0, G, F0, N⟩ code ⟨[(0, .t (.v (.slice (some ⟨b, 0, none⟩) xs.length cap))), (1, .t (.int k))], [(N, .raw b (cap * n) vs (xs.flatMap T.cells))]⟩
   (KP fn r N fun blk => ∃ vs', blk = .raw b (cap * n) vs' (ys.flatMap T.cells))) : MarkF P f (.list n xs) k r (.list n ys) := by
 refine ⟨⟨fn, hf, by rw [hb]; rfl, hname⟩, fun w v bs hv hO hnd hlt => ?_⟩;dsimp only at hv;rw [hv] at hO
 have hO : OwnL w [v] [.list n xs] bs := hO
 by_cases hx : xs = []
 ·subst hx
  have hy : ys = [] := by cases ys with
   | nil => rfl
   | cons _ _ => simp at hlen
  subst hy;refine ((hnil rfl).2 w (fun _ => False) #[v, .int .i64 k] (by simp) (by simpa using RelD.t (RelL.nilP ⟨bs, hO⟩) (RelD.t (.v rfl .nil) .done))).mono ?_
  rintro e w' ⟨v', F', bs', rfl, hbe, _, _, hr, _, _⟩
  have e1 := Am hr
  subst e1;refine ⟨rfl, bs, ?_, hnd, fun b hb => .inl hb, hbe.os, hbe.tape, hbe.output, hbe.size, fun b hb _ => hbe.block b hb⟩;rw [hv]
  exact hO.mono fun b hb => hbe.block b (hlt b hb)
 ·generalize hxe : T.list n xs = x at hO
  cases hO with
  | v h1 h2 => cases hxe
  | none h => injection hxe with h1 h2; exact absurd h2 hx
  | list h1 h2 h3 h4 h5 h6 h7 h8 =>
   rename_i b cap n' cs xs' arr e b1 b2
   injection hxe with g1 g2
   subst g1; subst g2;cases h8;rw [OI] at hnd hlt
   have hcl : cs.length = xs.length * n := by rw [h7.length, Ap h4]
   refine (GM hf hb hname hN (hwalk b cap cs) w _ (b :: b1) (.t (.v rfl .nil) .done) ⟨arr, e, b1, h1, h2, by rw [hcl]; exact h3, h7, rfl⟩ hnd hlt).mono ?_
   rintro e' w' ⟨rfl, blk', F', β', bs', ⟨vs', rfl⟩, hB, q1, q2, q3, q4, q5, q6, q7⟩
   obtain ⟨arr', e2, b3, p1, p2, p3, p4, rfl⟩ := hB
   refine ⟨rfl, b :: b3, ?_, q1, fun b' hb' => by rw [OI]; exact q2 b' hb', q3, q4, q5, q6, fun b' hb' hn => q7 b' hb' (by simpa using hn)⟩;rw [hv]
   have hvl : vs'.length = ys.length * n := by rw [p4.length, Ap hyn]
   have := OwnL.list (vs := []) (ts := []) (bs' := []) (xs := ys) (cap := cap) (n := n) p1 p2 (by rw [← hvl]; exact p3) hyn (by omega) h6 p4 .nil
   rw [hlen, OI] at this;exact this
  | sub _ _ _ _ _ _ _ _ _ => cases hxe
theorem MarkF.struct {f : FuncId} {fn : Func} {code : Code} (hf : P.funcs[f]? = some fn) (hb : fn.body = some code) (hname : (fn.name == "runtime.NumGoroutine") = false) {N : Nat} (hN : 2 + (fn.ntmps - 2) = N) {l l' : List T} {k r : Int}
  (hwalk : ∀ vs : List Value, vs.length = l.length → vs.all (·.oneCell') = true → ∀ w0 G F0, W P ⟨w0, G, F0, N⟩ code ⟨[(0, .agg (vs.map fun u => .t (.v u))), (1, .t (.int k))], [(N, .rawV vs l)]⟩
   (KP fn r N fun blk => blk = .rawV vs l')) : MarkF P f (.agg l) k r (.agg l') := by
 refine ⟨⟨fn, hf, by rw [hb]; rfl, hname⟩, fun w v bs hv hO hnd hlt => ?_⟩
 obtain ⟨arr, rfl⟩ := hv
 have hO : OwnL w arr.toList l bs := by simpa [Value.cells, T.cells] using hO
 have hone := hO.one
 have hrel : RelD w (fun _ => False) (fun _ => none) arr.toList (arr.toList.map fun u => D.t (.v u)) [] := by
  have : ∀ vs : List Value, vs.all (·.oneCell') = true → RelD w (fun _ => False) (fun _ => none) vs (vs.map fun u => D.t (.v u)) [] := by
   intro vs
   induction vs with
   | nil => intro _; exact .done
   | cons u vs ih => intro h; rw [OP, Nv] at h; exact .t (.v h.1 .nil) (ih h.2)
  exact this _ hone
 refine (GM hf hb hname hN (hwalk arr.toList hO.length hone) w (.agg arr) bs (by simpa using RelD.agg hone hrel .done) hO hnd hlt).mono ?_
 rintro e' w' ⟨rfl, blk', F', β', bs', rfl, hB, q⟩
 have hB : OwnL w' arr.toList l' bs' := hB
 exact ⟨rfl, bs', by simpa [Value.cells, T.cells] using hB, q⟩
end
end Go.Eng
end
section
/- What is owned is told cell by cell, so that it can be read, and handed to a function that writes it. -/
namespace Go.Eng
open Go.RowKit Go.Lib
section
variable {P : Program} {c : Ctx} {s : St} {Q : Exit → St → Prop} {ops : Array Oper} {rest : List Oper} {o : Oper}
theorem Conc.expose {a : Act} {w : World} {F β fb mb ow} (hi : Conc c s a w F β fb mb ow) {u id : Nat} {d : D} {us : List Value} {ts : List T} (hd : RelD w F β [a.tmps.getD u undef] [d] []) (hO : OwnL w us ts (fb u)) :
  Is c ⟨(u, d) :: s.fr, (id, .rawV us ts) :: s.M⟩ a w := by
 classical
 have hfb : ∀ b, b ∈ fb u → ow b = some (.inl u) := fun b hb => hi.ofr u b hb
 refine ⟨F, β, fun v => if u = v then [] else fb v, fun i => if id = i then fb u else mb i, fun b => if b ∈ fb u then some (.inr id) else ow b, ?_⟩
 exact { hi with
  fr := fun v => by
   simp only [look];split
   ·rename_i e; subst e; exact hd
   ·exact hi.fr v
  mem := fun i => by
   simp only [lookM]
   by_cases h : id = i
   ·rw [if_pos h]; simp only [if_pos h]; exact hO
   ·rw [if_neg h]; simp only [if_neg h]; exact hi.mem i
  ofr := fun v b hb => by
   split at hb
   ·cases hb
   ·rename_i hv
    have h3 := hi.ofr v b hb
    rw [if_neg (fun h => ?_)]
    ·exact h3
    ·rw [hfb b h] at h3; cases h3; exact hv rfl
  omem := fun i b hb => by
   split at hb
   ·rename_i e; rw [if_pos hb, e]
   ·have h3 := hi.omem i b hb
    rw [if_neg (fun h => ?_)]
    ·exact h3
    ·rw [hfb b h] at h3; cases h3
  nfr := fun v => by
   split
   ·simp
   ·exact hi.nfr v
  nmem := fun i => by
   split
   ·exact hi.nfr u
   ·exact hi.nmem i
  own := fun b hb => by
   split at hb
   ·rename_i h; exact hi.own b (by rw [hfb b h]; simp)
   ·exact hi.own b hb }
theorem KO {l : List Oper} {u : Nat} (id : Nat) {cells : List D} (ts : List T) (h1 : look s.fr u = .agg cells) (h2 : AbsL cells ts)
  (k : ∀ us : List Value, us.length = ts.length → WO P c ops l ⟨(u, .agg (us.map fun v => .t (.v v))) :: s.fr, (id, .rawV us ts) :: s.M⟩ Q) : WO P c ops l s Q := by
 rintro a w ⟨F, β, fb, mb, ow, hi⟩
 have hr := hi.fr u
 rw [h1] at hr;generalize hbs : fb u = bs at hr;generalize hx : a.tmps.getD u undef = x at hr
 cases hr with
 | agg q0 q1 q2 =>
  cases q2
  rename_i arr b1
  rw [OI] at hbs
  have hO := absL q1 h2
  have hrel : ∀ vs : List Value, vs.all (·.oneCell') = true → RelD w F β vs (vs.map fun v => D.t (.v v)) [] := by
   intro vs
   induction vs with
   | nil => intro _; exact .done
   | cons v vs ih => intro h; rw [OP, Nv] at h; exact .t (.v h.1 .nil) (ih h.2)
  refine k arr.toList hO.length a w (hi.expose (id := id) ?_ (by rw [hbs]; exact hO));rw [hx]
  simpa using RelD.agg q0 (hrel _ q0) .done
theorem MW {t id : Nat} {fo x y : Operand} {tys : Array TypeId} {f : FuncId} {k r : Int} {us : List Value} {l l' : List T} (hg : o.guard = none) (hd : o.dst = some t) (ht : t < c.n)
  (ho : o.op = .call { callee := .value fo, args := #[x, y], argTypes := tys }) (hf : opd s.fr fo = .clo f []) (hx : opd s.fr x = .agg (us.map fun v => .t (.v v))) (hy : opd s.fr y = .t (.int k)) (hM : lookM s.M id = some (.rawV us l))
  (hm : MarkF P f (.agg l) k r (.agg l'))
  (kk : WO P c ops rest ⟨(t, .t (.int r)) :: s.fr, (id, .rawV us l') :: s.M⟩ Q) : WO P c ops (o :: rest) s Q := by
 rintro a w ⟨F, β, fb, mb, ow, hi⟩
 have hmm := hi.mem id
 rw [hM] at hmm
 have hO : OwnL w us l (mb id) := hmm
 have hrun := G2 hi ho hf hm.1
 obtain ⟨bx, hrx, _⟩ := hi.opd x
 rw [hx] at hrx;generalize hev : a.eval x = xv at hrx hrun
 cases hrx with
 | @agg arr _ _ _ b1 b2 q0 q1 q2 =>
  have e1 := Ea q1
  rw [A3 hi hy] at hrun
  have hin : ∀ b, b ∈ mb id → b < w.heap.size := fun b h => (hi.own b (by rw [hi.omem id b h]; simp)).2.1
  refine wpList_plain hg fun K hK => ?_
  unfold Oper.wp;rw [hrun, Oper.upon_enter];refine (hm.2 w (.agg arr) (mb id) ⟨arr, rfl⟩ (by simp only [Value.cells, T.cells]; rw [e1]; exact hO) (hi.nmem id) hin).mono ?_
  rintro e w' ⟨rfl, bs', r1, r2, r3, r4, r5, r6, r7, r8⟩
  simp only [Value.cells, T.cells] at r1;rw [e1] at r1;dsimp only;rw [hd];refine hK _ _ (kk _ _ ?_)
  refine hi.renew id (Anew.same id β) (fun _ => False) bs' (.rawV us l') (some (t, .int .i64 r, .t (.int r))) rfl ?_ r4 r5 r6 r7
   (fun b hb h => r8 b hb fun h2' => (h _ (hi.omem id b h2')).2 rfl) ?_ (by simp [lookM]) r1 r2 ?_ ?_
  ·rintro t' v d h
   cases h;exact ⟨ht, .t (.v rfl .nil) .done, by simp [look]⟩
  ·intro v hv
   have := hv _ _ _ rfl
   exact .inl ⟨by simp [look, Ne.symm this], by simp⟩
  ·intro b hb
   rcases r3 b hb with h | h
   ·exact .inr ⟨_, hi.omem id b h, .inr rfl⟩
   ·exact .inl h
  ·intro i' hi'
   simp only [lookM, if_neg (Ne.symm hi')];exact .inr ⟨by simp, by cases lookM s.M i' <;> rfl⟩
theorem CZ {fn : Func} {r r' : Int} {id u b sz : Nat} {vs : List Value} {ts ts' : List T} {e : Exit} (he : e = .normal ∨ e = .ret) (h1 : fn.results.toList = [.tmp u]) (h2 : look s.fr u = .t (.int r')) (h4 : lookM s.M id = some (.raw b sz vs ts)) (h3 : r' = r) (h5 : ts = ts') :
  KP fn r id (fun blk => ∃ vs', blk = .raw b sz vs' ts') e s := by
 subst h3; subst h5
 rcases he with rfl | rfl <;> exact ⟨u, h1, h2, _, h4, vs, rfl⟩
theorem Hs {fn : Func} {r r' : Int} {id u : Nat} {vs : List Value} {ts ts' : List T} {e : Exit} (he : e = .normal ∨ e = .ret) (h1 : fn.results.toList = [.tmp u]) (h2 : look s.fr u = .t (.int r')) (h4 : lookM s.M id = some (.rawV vs ts)) (h3 : r' = r) (h5 : ts = ts') :
  KP fn r id (fun blk => blk = .rawV vs ts') e s := by
 subst h3; subst h5
 rcases he with rfl | rfl <;> exact ⟨u, h1, h2, _, h4, rfl⟩
theorem ML {α : Type} {done rest : List α} {x : α} {i : Nat} (h : done.length = i) : (done ++ x :: rest)[i]? = some x := by
 subst h; simp
theorem Ls {α : Type} {done rest : List α} {x y : α} {i : Nat} (h : done.length = i) : (done ++ x :: rest).set i y = (done ++ [y]) ++ rest := by
 subst h; simp
theorem Al {t u : Nat} {d : D} (hg : o.guard = none) (hd : o.dst = some t) (ht : t < c.n) (ho : o.op = .assign (.tmp u) ∨ o.op = .move (.tmp u)) (hu : look s.fr u = d) (hne : (t == u) = false)
  (kk : WO P c ops rest ⟨(t, d) :: (u, .top) :: s.fr, s.M⟩ Q) : WO P c ops (o :: rest) s Q := by
 have hne' : ¬ t = u := by simpa using hne
 rintro a w ⟨F, β, fb, mb, ow, hi⟩
 have hr := hi.fr u
 rw [hu] at hr
 have hrun : (execOp a.eval o).run P w = .ok (.value (a.tmps.getD u undef)) w := by
  rcases ho with ho | ho <;> simp [execOp, ho, Act.eval, N8]
 refine wpList_plain hg fun K hK => ?_
 unfold Oper.wp;rw [hrun, Oper.upon_value, hd];refine hK _ _ (kk _ _ ⟨F, β, fun x => if t = x then fb u else if u = x then [] else fb x, mb, fun b => if b ∈ fb u then some (.inl t) else ow b, ?_⟩)
 have hob : ∀ b, b ∈ fb u → ow b = some (.inl u) := fun b hb => hi.ofr u b hb
 exact { hi with
  fr := fun x => by
   rw [Bs _ _ _ _ (by rw [hi.tmps]; exact ht)];simp only [look];split
   ·exact hr
   ·split
    ·exact .top .done
    ·exact hi.fr x
  ofr := fun x b hb => by
   split at hb
   ·rename_i e; subst e; rw [if_pos hb]
   ·split at hb
    ·cases hb
    ·rename_i h1 h2
     have h3 := hi.ofr x b hb
     rw [if_neg (fun h => ?_)]
     ·exact h3
     ·rw [hob b h] at h3; cases h3; exact h2 rfl
  omem := fun id b hb => by
   have h3 := hi.omem id b hb
   rw [if_neg (fun h => ?_)]
   ·exact h3
   ·rw [hob b h] at h3; cases h3
  nfr := fun x => by
   split
   ·exact hi.nfr u
   ·split
    ·simp
    ·exact hi.nfr x
  own := fun b hb => by
   split at hb
   ·rename_i h; exact hi.own b (by rw [hob b h]; simp)
   ·exact hi.own b hb
  defers := (BT a _ _).trans hi.defers
  tmps := (B4 a _ _).trans hi.tmps }
end
end Go.Eng
end
section
/- Statements of open order that end with operations whose place is fixed: those may make and write memory. And functions that are handed what they may write, and hand it back. -/
namespace Go.Eng
open Go.RowKit
def bindsOn (o : Oper) (k : Nat) : Bool := o.after.any fun e => Region.binds .any e && e.on == k
theorem B8 {o : Oper} {k : Nat} (h : bindsOn o k = true) : ∃ e, e ∈ o.after ∧ Region.binds .any e = true ∧ e.on = k := by
 unfold bindsOn at h;rw [Array.any_eq_true] at h
 obtain ⟨i, hi, h5⟩ := h
 simp only [Nv, beq_iff_eq] at h5;exact ⟨o.after[i], Array.getElem_mem hi, h5.1, h5.2⟩
def Bw (ops : Array Oper) (m : Nat) : Bool := (List.range ops.size).all fun k => match ops[k]? with
 | none => false
 | some ok => (ok.after.all fun e => !Region.binds .any e || Nat.blt e.on k) && (Nat.ble m k || (List.range m).all fun j => !(Nat.blt k j) || match ops[j]? with
  | some oj => bindsOn oj k || ok.apart ops oj
  | none => false)
def EG (ops : Array Oper) (m : Nat) : Bool := ((List.range m).all fun k => (List.range (m + 1)).any fun j => Nat.blt k j && match ops[j]? with | some oj => bindsOn oj k | none => false) &&
 (List.range ops.size).all fun p => Nat.ble p m || match ops[p]? with | some op => bindsOn op (p - 1) | none => false
section
variable {P : Program} {c : Ctx} {s : St} {Q : Exit → St → Prop} {ops : Array Oper} {rest : List Oper} {o : Oper}
theorem Cf {m : Nat} (h : Bw ops m = true) {k : Nat} {ok : Oper} (hk : ops[k]? = some ok) : ∀ e, e ∈ ok.after → Region.binds .any e = true → e.on < k := by
 have hks : k < ops.size := (Array.getElem?_eq_some_iff.1 hk).1
 unfold Bw at h;rw [N1] at h
 have h1 := h k (OZ.2 hks)
 rw [hk] at h1;simp only [Nv] at h1;intro e he hb
 have h2 := h1.1
 rw [Array.all_eq_true_iff_forall_mem] at h2
 have := h2 e he
 simpa [hb] using this
theorem orderT_spec {m : Nat} (h : Bw ops m = true) {k : Nat} {ok : Oper} (hk : ops[k]? = some ok) (hkm : k < m) : ∀ j oj, ops[j]? = some oj → j < m → k < j → (∃ e, e ∈ oj.after ∧ Region.binds .any e = true ∧ e.on = k) ∨ ok.apart ops oj = true := by
 have hks : k < ops.size := (Array.getElem?_eq_some_iff.1 hk).1
 unfold Bw at h;rw [N1] at h
 have h1 := h k (OZ.2 hks)
 rw [hk] at h1;simp only [Nv, Bool.or_eq_true] at h1;intro j oj hj hjm hkj
 have h3 := h1.2.resolve_left (by simp; omega)
 rw [N1] at h3
 have h4 := h3 j (OZ.2 hjm)
 rw [hj] at h4
 have hb : Nat.blt k j = true := by simpa using hkj
 simp only [hb, Bool.not_true, Oi, Bool.or_eq_true] at h4
 rcases h4 with h4 | h4
 ·exact .inl (B8 h4)
 ·exact .inr h4
theorem Ei {m : Nat} (h : EG ops m = true) {k : Nat} (hk : k < m) : ∃ j oj, k < j ∧ j ≤ m ∧ ops[j]? = some oj ∧ ∃ e, e ∈ oj.after ∧ Region.binds .any e = true ∧ e.on = k := by
 unfold EG at h;rw [Nv, N1] at h
 have h1 := h.1 k (OZ.2 hk)
 rw [Oj] at h1
 obtain ⟨j, hj, h2⟩ := h1
 rw [Nv] at h2
 cases hoj : ops[j]? with
 | none => rw [hoj] at h2; cases h2.2
 | some oj =>
  rw [hoj] at h2
  have := OZ.1 hj
  exact ⟨j, oj, by simpa using h2.1, by omega, hoj, B8 h2.2⟩
theorem Dq {m : Nat} (h : EG ops m = true) {p : Nat} {op : Oper} (hp : ops[p]? = some op) (hm : m < p) : ∃ e, e ∈ op.after ∧ Region.binds .any e = true ∧ e.on = p - 1 := by
 have hks : p < ops.size := (Array.getElem?_eq_some_iff.1 hp).1
 unfold EG at h;rw [Nv, N1 (l := List.range ops.size)] at h
 have h1 := h.2 p (OZ.2 hks)
 rw [hp] at h1;rw [Bool.or_eq_true] at h1;exact B8 (h1.resolve_left (by simp; omega))
theorem GF {listed : Array Bool} (hsz : listed.size = ops.size) {i : Nat} {oi : Oper} (hoi : ops[i]? = some oi) (h1 : listed.getD i false = false) (h2 : ∀ e, e ∈ oi.after → Region.binds .any e = true → listed.getD e.on false = true) : i ∈ Region.ready .any ops listed := by
 have hi : i < ops.size := (Array.getElem?_eq_some_iff.1 hoi).1
 unfold Region.ready;refine List.mem_filter.2 ⟨OZ.2 hi, ?_⟩
 have h3 : listed.getD i true = false := by
  rw [Ny] at h1 ⊢;rw [Array.getElem?_eq_getElem (by omega)] at h1 ⊢;exact h1
 rw [hoi, h3];simp only [Bool.not_false, Bool.true_and, Option.map_some, Option.getD_some];rw [Array.all_eq_true_iff_forall_mem];intro e he
 cases hb : Region.binds .any e with
 | false => simp
 | true => simp only [Bool.not_true, Oi]; exact h2 e he hb
theorem DY {listed : Array Bool} (hsz : listed.size = ops.size) {i : Nat} (h : i ∈ Region.ready .any ops listed) : ∃ oi, ops[i]? = some oi ∧ listed.getD i false = false ∧ ∀ e, e ∈ oi.after → Region.binds .any e = true → listed.getD e.on false = true := by
 unfold Region.ready at h
 obtain ⟨hir1, hir2⟩ := List.mem_filter.1 h
 have hil : i < ops.size := OZ.1 hir1
 have hoi : ops[i]? = some ops[i] := by simp [hil]
 rw [hoi] at hir2;simp only [Nv, ON, Option.map_some, Option.getD_some] at hir2
 obtain ⟨hun, haf⟩ := hir2
 rw [Array.all_eq_true_iff_forall_mem] at haf;refine ⟨_, hoi, ?_, fun e he hb => by have := haf e he; simpa [hb] using this⟩;rw [Ny] at hun ⊢;rw [Array.getElem?_eq_getElem (by omega)] at hun ⊢;exact hun
theorem GU {listed : Array Bool} {i : Nat} (hi : i < listed.size) (j : Nat) : (listed.setIfInBounds i true).getD j false = (listed.getD j false || j == i) := by
 by_cases hji : j = i
 ·subst hji
  rw [Ny, Array.getElem?_setIfInBounds_self]
  simp [hi]
 ·have : (j == i) = false := by simp [hji]
  rw [Ny, Array.getElem?_setIfInBounds_ne (Ne.symm hji), Ny, this, Ob]
theorem F7 {Qx : Exit → Act → World → Prop} {m : Nat} (hB : Bw ops m = true) (hT : EG ops m = true) : ∀ (l : List Oper) (k : Nat) (listed : Array Bool) (a : Act) (w : World), m ≤ k → k + l.length = ops.size → (∀ j, l[j]? = ops[k + j]?) →
  listed.size = ops.size → (∀ j, j < ops.size → listed.getD j false = decide (j < k)) → wpList P ops Qx l a w → wpAny P .any ops Qx l.length listed a w
 | [], k, listed, a, w, hmk, hl, hops, hsz, hli, h => by
  refine ⟨?_, h⟩
  refine List.eq_nil_iff_forall_not_mem.2 fun i hi => ?_
  obtain ⟨oi, h1, h2, _⟩ := DY hsz hi
  have := (Array.getElem?_eq_some_iff.1 h1).1
  rw [hli i this] at h2;simp only [N4] at hl
  simp at h2; omega
 | o :: l, k, listed, a, w, hmk, hl, hops, hsz, hli, h => by
  have hok : ops[k]? = some o := by have := hops 0; simpa using this.symm
  have hk : k < ops.size := (Array.getElem?_eq_some_iff.1 hok).1
  have hrk : k ∈ Region.ready .any ops listed := GF hsz hok (by rw [hli k hk]; simp) fun e he hb => by
   have := Cf hB hok e he hb
   rw [hli _ (by omega)]; simpa using this
  rw [Nx];refine ⟨fun hn => (by rw [hn] at hrk; cases hrk), fun i hi => ?_⟩
  obtain ⟨oi, h1, h2, h3⟩ := DY hsz hi
  have hin := (Array.getElem?_eq_some_iff.1 h1).1
  have hik : i = k := by
   rw [hli i hin] at h2
   have h2' : k ≤ i := by simpa using h2
   refine Classical.byContradiction fun hne => ?_
   obtain ⟨e, he, hb, hon⟩ := Dq hT h1 (by omega)
   have := h3 e he hb
   rw [hon, hli _ (by omega)] at this
   simp at this; omega
  subst hik;unfold wpOp;rw [hok];dsimp only
  have ih := fun a w h => F7 (Qx := Qx) hB hT l (i + 1) (listed.setIfInBounds i true) a w (by omega) (by simp only [Nx] at hl; omega) (fun j => by have := hops (j + 1); simpa [Nat.add_assoc, Nat.add_comm 1 j] using this) (by simp [hsz]) (fun j hj => by
   rw [GU (by omega), hli j hj]
   by_cases hji : j = i
   ·subst hji; simp
   ·have : (j == i) = false := by simp [hji]
    rw [this, Ob]
    congr 1
    exact propext ⟨fun h => by omega, fun h => by omega⟩) h
  unfold wpList at h;split at h
  ·rename_i hw
   rw [if_pos hw]
   exact h.imp (fun h => Oper.wp_mono ih h) fun h => h
  ·rename_i hw
   rw [if_neg hw];exact ih _ _ h
theorem KN {id : Nat} {l1 l2 : List Oper} {ops : Array Oper} (hm : P.follows .mixedOrders = true) (he : ops = (l1 ++ l2).toArray) (hB : Bw ops l1.length = true) (hT : EG ops l1.length = true) (h : QL P c ops l1 s (fun s' => WO P c ops l2 s' Q)) : W P c (.region id ops true) s Q := by
 intro a w hi
 obtain ⟨r, sf, q1, q2, q3, q4⟩ := h.steps
 refine wp_region_any hm ?_
 have hops : ∀ j, j < l1.length → ops[j]? = l1[j]? := fun j hj => by subst he; rw [List.getElem?_toArray, List.getElem?_append_left hj]
 have hops2 : ∀ j, l2[j]? = ops[l1.length + j]? := fun j => by subst he; rw [List.getElem?_toArray, List.getElem?_append_right (Nat.le_add_right _ _), Nat.add_sub_cancel_left]
 have hsize : ops.size = l1.length + l2.length := by subst he; simp
 -- the state once X is done
 have key : ∀ (n : Nat) (listed : Array Bool) (a : Act) (w : World), listed.size = ops.size → n + listed.toList.count true = l1.length →
   (∀ j, l1.length ≤ j → listed.getD j false = false) →
   (∀ j oj, l1[j]? = some oj → listed.getD j false = true → ∀ e, e ∈ oj.after → Region.binds .any e = true → listed.getD e.on false = true) →
   (∃ s', s'.M = s.M ∧ (∀ u, look s'.fr u = lk r (look s.fr) (fun j => listed.getD j false) l1.length u) ∧ Is c s' a w) →
   wpAny P .any ops (Hu c Q) (n + l2.length) listed a w := by
  intro n
  induction n with
  | zero =>
   intro listed a w hsz hcnt htl hcl ⟨s', hM, hlook, hs'⟩
   have hall : ∀ j, j < l1.length → listed.getD j false = true := by
    intro j hj
    refine Classical.byContradiction fun hf => ?_
    have hf' : listed.getD j false = false := by simpa using hf
    -- one of the first is not done, so fewer are
    have h1 : listed.toList.count true ≤ (listed.toList.take l1.length).count true := by
     conv => lhs; rw [← List.take_append_drop l1.length listed.toList, List.count_append]
     have : (listed.toList.drop l1.length).count true = 0 := List.count_eq_zero.2 fun hm => by
      obtain ⟨j, hj, hjt⟩ := List.getElem_of_mem hm
      rw [List.getElem_drop] at hjt;rw [OT, OD (xs := listed)] at hj
      have h5 := htl (l1.length + j) (by omega)
      rw [Ny, Array.getElem?_eq_getElem (by omega)] at h5;rw [Array.getElem_toList] at hjt;rw [hjt] at h5; cases h5
     omega
    have h2 : (listed.toList.take l1.length).length = l1.length := by have := OD (xs := listed); rw [OO]; omega
    have h3 := List.count_le_length (a := true) (l := listed.toList.take l1.length)
    have h4 : (listed.toList.take l1.length).count true = (listed.toList.take l1.length).length := by omega
    rw [List.count_eq_length] at h4
    have hjs : j < listed.size := by omega
    have := h4 (listed[j]) (by rw [List.mem_take_iff_getElem]; exact ⟨j, by simp; omega, by simp⟩)
    rw [Ny, Array.getElem?_eq_getElem hjs] at hf';rw [← this] at hf'; cases hf'
   rw [Nat.zero_add];refine F7 hB hT l2 l1.length listed a w (OJ _) hsize.symm hops2 hsz (fun j hj => ?_) ?_
   ·by_cases hjl : j < l1.length
    ·rw [hall j hjl]; simp [hjl]
    ·rw [htl j (by omega)]; simp [hjl]
   ·refine q1 a w (Le.of (s := s') (fun u => .inl ?_) (fun u => .inl (by rw [q2, hM])) _ _ hs')
    rw [q3, hlook]
    exact Br fun j hj _ => (hall j hj).symm
  | succ n ih =>
   intro listed a w hsz hcnt htl hcl ⟨s', hM, hlook, hs'⟩
   -- one of the first is not done
   have hsome : ∃ i, i < l1.length ∧ listed.getD i false = false := by
    refine Classical.byContradiction fun hno => ?_
    have hall : ∀ j, j < l1.length → listed.getD j false = true := fun j hj => by
     refine Classical.byContradiction fun hf => hno ⟨j, hj, by simpa using hf⟩
    have h1 : l1.length ≤ (listed.toList.take l1.length).count true := by
     have h2 : (listed.toList.take l1.length).length = l1.length := by have := OD (xs := listed); rw [OO]; omega
     have : (listed.toList.take l1.length).count true = (listed.toList.take l1.length).length := List.count_eq_length.2 fun b hb => by
      obtain ⟨j, hj, rfl⟩ := List.mem_take_iff_getElem.1 hb
      rw [OD (xs := listed)] at hj
      have h5 := hall j (by omega)
      rw [Ny, Array.getElem?_eq_getElem (by omega)] at h5
      simpa using h5.symm
     omega
    have h3 : (listed.toList.take l1.length).count true ≤ listed.toList.count true := (List.take_sublist _ _).count_le _
    omega
   have hleast : ∃ i, i < l1.length ∧ listed.getD i false = false ∧ ∀ j, j < i → listed.getD j false = true := by
    obtain ⟨i0, hi0, hu0⟩ := hsome
    clear hcnt
    induction i0 using Nat.strongRecOn with
    | _ n ihn =>
     by_cases hx : ∃ j, j < n ∧ listed.getD j false = false
     ·obtain ⟨j, hj, hf⟩ := hx
      exact ihn j hj (by omega) hf
     ·refine ⟨n, hi0, hu0, fun j hj => ?_⟩
      cases hf : listed.getD j false with
      | true => rfl
      | false => exact absurd ⟨j, hj, hf⟩ hx
   have hready : Region.ready .any ops listed ≠ [] := by
    obtain ⟨i, hi1, hi2, hi3⟩ := hleast
    have hoi : ops[i]? = some l1[i] := by rw [hops i hi1]; simp
    intro hnil
    have : i ∈ Region.ready .any ops listed := GF hsz hoi hi2 fun e he hb => hi3 _ (Cf hB hoi e he hb)
    rw [hnil] at this; cases this
   rw [Nat.succ_add];refine ⟨fun h => absurd h hready, fun i hir => ?_⟩
   -- operation i, now
   obtain ⟨oi, hoi0, hun', hafter⟩ := DY hsz hir
   have hil : i < l1.length := by
    refine Classical.byContradiction fun hni => ?_
    by_cases hie : i = l1.length
    ·subst hie
     have hall : ∀ d j, j + d = l1.length → d ≠ 0 → listed.getD j false = true := by
      intro d
      induction d using Nat.strongRecOn with
      | _ d ihd =>
       intro j hjd hd
       obtain ⟨j2, oj2, p1, p2, p3, e, p4, p5, p6⟩ := Ei hT (k := j) (by omega)
       by_cases hj2 : j2 = l1.length
       ·subst hj2
        rw [hoi0] at p3; cases p3;rw [← p6]; exact hafter e p4 p5
       ·rw [← p6]
        exact hcl j2 oj2 (by rw [← hops j2 (by omega)]; exact p3) (ihd (l1.length - j2) (by omega) j2 (by omega) (by omega)) e p4 p5
     obtain ⟨j, hj, hf⟩ := hsome
     rw [hall (l1.length - j) j (by omega) (by omega)] at hf; cases hf
    ·obtain ⟨e, p4, p5, p6⟩ := Dq hT hoi0 (by omega)
     have := hafter e p4 p5
     rw [p6, htl _ (by omega)] at this; cases this
   have hoi : ops[i]? = some l1[i] := by rw [hops i hil]; simp
   rw [hoi] at hoi0; cases hoi0
   have hli : l1[i]? = some l1[i] := List.getElem?_eq_getElem hil
   obtain ⟨hdst, hstep⟩ := q4 i l1[i] hli
   -- the writers of what it looks at are as in the text
   have hwr : ∀ u, u ∈ l1[i].looksAt ops → ∀ j, j < l1.length → (r j).1 = u → listed.getD j false = decide (j < i) := by
    intro u hu j hj hru
    have hoj : ops[j]? = some l1[j] := by rw [hops j hj]; simp
    obtain ⟨hdj, _⟩ := q4 j l1[j] (List.getElem?_eq_getElem hj)
    by_cases hji : j < i
    ·simp only [hji, decide_true]
     rcases orderT_spec hB hoj hj i _ hoi hil hji with ⟨e, he, hb, hon⟩ | hap
     ·rw [← hon]; exact hafter e he hb
     ·exact absurd (hru ▸ hu) ((Oper.apart_spec hap).1 _ hdj)
    ·by_cases hje : j = i
     ·subst hje; simpa using hun'
     ·have hij : i < j := by omega
      have hdec : decide (j < i) = false := by simp; omega
      rw [hdec]
      cases hX : listed.getD j false with
      | false => rfl
      | true =>
       rcases orderT_spec hB hoi hil j _ hoj hj hij with ⟨e, he, hb, hon⟩ | hap
       ·have := hcl j _ (List.getElem?_eq_getElem hj) hX e he hb
        rw [hon, hun'] at this;cases this
       ·exact absurd (hru ▸ hu) ((Oper.apart_spec hap).2.2 _ hdj)
   have hst := hstep s' hM fun u hu => by
    rw [hlook, ← EV (r := r) (base := look s.fr) (show i ≤ l1.length by omega)]
    exact Br fun j hj hru => hwr u hu j hj hru
   have hno : ∀ j, j < l1.length → i < j → listed.getD j false = true → (r j).1 ≠ (r i).1 := by
    intro j hj hij hX he
    have hoj : ops[j]? = some l1[j] := by rw [hops j hj]; simp
    obtain ⟨hdj, _⟩ := q4 j l1[j] (List.getElem?_eq_getElem hj)
    rcases orderT_spec hB hoi hil j _ hoj hj hij with ⟨e, he', hb, hon⟩ | hap
    ·have := hcl j _ (List.getElem?_eq_getElem hj) hX e he' hb
     rw [hon, hun'] at this;cases this
    ·exact (Oper.apart_spec hap).2.1 _ hdst (by rw [hdj, he])
   unfold wpOp;rw [hoi];dsimp only
   have hset : ∀ j, (listed.setIfInBounds i true).getD j false = (listed.getD j false || j == i) := GU (by omega)
   have hfin := hst.wp (K := wpAny P .any ops (Hu c Q) (n + l2.length) (listed.setIfInBounds i true)) (Q' := Hu c Q) hs' fun a' w' h' => by
    refine ih _ a' w' (by simp [hsz]) ?_ ?_ ?_ ⟨⟨((r i).1, (r i).2) :: s'.fr, s'.M⟩, hM, fun u => ?_, h'⟩
    ·have hl2 : listed.toList[i]? = some false := by
      rw [Array.getElem?_toList, Array.getElem?_eq_getElem (by omega)];rw [Ny, Array.getElem?_eq_getElem (by omega)] at hun'
      simpa using hun'
     rw [Array.toList_setIfInBounds, FK hl2];omega
    ·intro j hj
     rw [hset, htl j hj]
     simp; omega
    ·intro j oj hj hX e he hb
     rw [hset] at hX ⊢
     by_cases hji : j = i
     ·subst hji
      have : oj = l1[j] := by rw [hli] at hj; exact (Option.some.inj hj).symm
      subst this;rw [hafter e he hb]; rfl
     ·have : (j == i) = false := by simp [hji]
      rw [this, Ob] at hX;rw [hcl j oj hj hX e he hb]; rfl
    ·simp only [look]
     rw [show (fun j => (listed.setIfInBounds i true).getD j false) = (fun j => listed.getD j false || j == i) from funext hset];rw [Ko hil hno, hlook]
   by_cases hw : Region.wanted l1[i] (yielded ops a.tmps) = true
   ·rw [if_pos hw] at hfin ⊢
    exact .inl hfin
   ·rw [if_neg hw] at hfin ⊢
    exact hfin
 have h0 := key l1.length (Array.replicate ops.size false) a { w with drawn := w.drawn + 1 } (by simp) (by simp [List.count_replicate]) (fun j hj => by
   rw [Ny, Array.getElem?_replicate]
   split <;> rfl) (by
   intro j oj hj hX;rw [Ny, Array.getElem?_replicate] at hX
   split at hX <;> simp at hX) ⟨s, rfl, fun u => by
   have : lk r (look s.fr) (fun j => (Array.replicate ops.size false).getD j false) l1.length u = lk r (look s.fr) (fun j => decide (j < 0)) l1.length u := Br fun j hj _ => by
    rw [Ny, Array.getElem?_replicate]
    split <;> simp
   rw [this, EV (OU _)]
   rfl, by
   obtain ⟨F, β, fb, mb, ow, hi'⟩ := hi
   exact ⟨F, β, fb, mb, ow, hi'.drew⟩⟩
 rw [hsize];rw [hsize] at h0;exact h0
theorem D7 {id : Nat} {ops : Array Oper} (m : Nat) (hm : P.follows .mixedOrders = true) (hl : (ops.toList.take m).length = m) (hB : Bw ops m = true) (hT : EG ops m = true) (h : QL P c ops (ops.toList.take m) s (fun s' => WO P c ops (ops.toList.drop m) s' Q)) : W P c (.region id ops true) s Q :=
 KN (l1 := ops.toList.take m) (l2 := ops.toList.drop m) hm (by simp) (by rw [hl]; exact hB) (by rw [hl]; exact hT) h
end
end Go.Eng
end
