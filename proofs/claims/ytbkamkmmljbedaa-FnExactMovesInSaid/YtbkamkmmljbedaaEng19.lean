/- What is owned is told cell by cell, so that it can be read, and handed to a function that writes it. -/
import Derived.Test.YtbkamkmmljbedaaEng18
import Derived.Lib.SliceRun
set_option linter.unusedVariables false
set_option linter.unusedSimpArgs false
namespace Go.Eng
open Go.RowKit Go.Lib

section
variable {P : Program} {c : Ctx} {s : St} {Q : Exit → St → Prop} {ops : Array Oper} {rest : List Oper} {o : Oper}

theorem Conc.expose {a : Act} {w : World} {F β fb mb ow} (hi : Conc c s a w F β fb mb ow) {u id : Nat} {d : D} {us : List Value} {ts : List T} (hd : RelD w F β [a.tmps.getD u undef] [d] []) (hO : OwnL w us ts (fb u)) :
    Is c ⟨(u, d) :: s.fr, (id, .rawV us ts) :: s.M⟩ a w := by
  classical
  have hfb : ∀ b, b ∈ fb u → ow b = some (.inl u) := fun b hb => hi.ofr u b hb
  refine ⟨F, β, fun v => if u = v then [] else fb v, fun i => if id = i then fb u else mb i, fun b => if b ∈ fb u then some (.inr id) else ow b, ?_⟩
  exact { hi with
    fr := fun v => by
      simp only [look]
      split
      · rename_i e; subst e; exact hd
      · exact hi.fr v
    mem := fun i => by
      simp only [lookM]
      by_cases h : id = i
      · rw [if_pos h]; simp only [if_pos h]; exact hO
      · rw [if_neg h]; simp only [if_neg h]; exact hi.mem i
    ofr := fun v b hb => by
      split at hb
      · cases hb
      · rename_i hv
        have h3 := hi.ofr v b hb
        rw [if_neg (fun h => ?_)]
        · exact h3
        · rw [hfb b h] at h3; cases h3; exact hv rfl
    omem := fun i b hb => by
      split at hb
      · rename_i e; rw [if_pos hb, e]
      · have h3 := hi.omem i b hb
        rw [if_neg (fun h => ?_)]
        · exact h3
        · rw [hfb b h] at h3; cases h3
    nfr := fun v => by
      split
      · simp
      · exact hi.nfr v
    nmem := fun i => by
      split
      · exact hi.nfr u
      · exact hi.nmem i
    own := fun b hb => by
      split at hb
      · rename_i h; exact hi.own b (by rw [hfb b h]; simp)
      · exact hi.own b hb }

/-- A struct that owns its parts. -/
theorem WO_exposeA {l : List Oper} {u : Nat} (id : Nat) {cells : List D} (ts : List T) (h1 : look s.fr u = .agg cells) (h2 : AbsL cells ts)
    (k : ∀ us : List Value, us.length = ts.length → WO P c ops l ⟨(u, .agg (us.map fun v => .t (.v v))) :: s.fr, (id, .rawV us ts) :: s.M⟩ Q) : WO P c ops l s Q := by
  rintro a w ⟨F, β, fb, mb, ow, hi⟩
  have hr := hi.fr u
  rw [h1] at hr
  generalize hbs : fb u = bs at hr
  generalize hx : a.tmps.getD u undef = x at hr
  cases hr with
  | agg q0 q1 q2 =>
    cases q2
    rename_i arr b1
    rw [List.append_nil] at hbs
    have hO := absL q1 h2
    have hrel : ∀ vs : List Value, vs.all (·.oneCell') = true → RelD w F β vs (vs.map fun v => D.t (.v v)) [] := by
      intro vs
      induction vs with
      | nil => intro _; exact .done
      | cons v vs ih => intro h; rw [List.all_cons, Bool.and_eq_true] at h; exact .t (.v h.1 .nil) (ih h.2)
    refine k arr.toList hO.length a w (hi.expose (id := id) ?_ (by rw [hbs]; exact hO))
    rw [hx]
    simpa using RelD.agg q0 (hrel _ q0) .done

/-- A slice that owns its elements. -/
theorem WO_exposeS {l : List Oper} {u n : Nat} {xs : List T} (id : Nat) (h1 : look s.fr u = .own (.list n xs))
    (k : ∀ v : Value, WO P c ops l ⟨(u, .t (.v v)) :: s.fr, (id, .rawV [v] [.list n xs]) :: s.M⟩ Q) : WO P c ops l s Q := by
  rintro a w ⟨F, β, fb, mb, ow, hi⟩
  have hr := hi.fr u
  rw [h1] at hr
  generalize hbs : fb u = bs at hr
  generalize hx : a.tmps.getD u undef = x at hr
  cases hr with
  | own q1 q2 =>
    cases q2
    rw [List.append_nil] at hbs
    have hone := q1.one
    rw [List.all_cons, Bool.and_eq_true] at hone
    exact k x a w (hi.expose (id := id) (by rw [hx]; exact .t (.v hone.1 .nil) .done) (by rw [hbs]; exact q1))

/-- A call that writes what a struct leads to. -/
theorem WO_markS {t id : Nat} {fo x y : Operand} {tys : Array TypeId} {f : FuncId} {k r : Int} {us : List Value} {l l' : List T} (hg : o.guard = none) (hd : o.dst = some t) (ht : t < c.n)
    (ho : o.op = .call { callee := .value fo, args := #[x, y], argTypes := tys }) (hf : opd s.fr fo = .clo f []) (hx : opd s.fr x = .agg (us.map fun v => .t (.v v))) (hy : opd s.fr y = .t (.int k)) (hM : lookM s.M id = some (.rawV us l))
    (hm : MarkF P f (.agg l) k r (.agg l'))
    (kk : WO P c ops rest ⟨(t, .t (.int r)) :: s.fr, (id, .rawV us l') :: s.M⟩ Q) : WO P c ops (o :: rest) s Q := by
  rintro a w ⟨F, β, fb, mb, ow, hi⟩
  have hmm := hi.mem id
  rw [hM] at hmm
  have hO : OwnL w us l (mb id) := hmm
  have hrun := run_enter hi ho hf hm.1
  obtain ⟨bx, hrx, _⟩ := hi.opd x
  rw [hx] at hrx
  generalize hev : a.eval x = xv at hrx hrun
  cases hrx with
  | @agg arr _ _ _ b1 b2 q0 q1 q2 =>
    have e1 := exact_vs q1
    rw [eval_v hi hy] at hrun
    have hin : ∀ b, b ∈ mb id → b < w.heap.size := fun b h => (hi.own b (by rw [hi.omem id b h]; simp)).2.1
    refine wpList_plain hg fun K hK => ?_
    unfold Oper.wp
    rw [hrun, Oper.upon_enter]
    refine (hm.2 w (.agg arr) (mb id) ⟨arr, rfl⟩ (by simp only [Value.cells, T.cells]; rw [e1]; exact hO) (hi.nmem id) hin).mono ?_
    rintro e w' ⟨rfl, bs', r1, r2, r3, r4, r5, r6, r7, r8⟩
    simp only [Value.cells, T.cells] at r1
    rw [e1] at r1
    dsimp only
    rw [hd]
    refine hK _ _ (kk _ _ ?_)
    refine hi.renew id (Anew.same id β) (fun _ => False) bs' (.rawV us l') (some (t, .int .i64 r, .t (.int r))) rfl ?_ r4 r5 r6 r7
      (fun b hb h => r8 b hb fun h2' => (h _ (hi.omem id b h2')).2 rfl) ?_ (by simp [lookM]) r1 r2 ?_ ?_
    · rintro t' v d h
      cases h
      exact ⟨ht, .t (.v rfl .nil) .done, by simp [look]⟩
    · intro v hv
      have := hv _ _ _ rfl
      exact .inl ⟨by simp [look, Ne.symm this], by simp⟩
    · intro b hb
      rcases r3 b hb with h | h
      · exact .inr ⟨_, hi.omem id b h, .inr rfl⟩
      · exact .inl h
    · intro i' hi'
      simp only [lookM, if_neg (Ne.symm hi')]
      exact .inr ⟨by simp, by cases lookM s.M i' <;> rfl⟩


/-- A slice that is read, held against nil. -/
theorem WO_nilEq {t ty ty' e n : Nat} {x y : Operand} {l : List T} (hg : o.guard = none) (hd : o.dst = some t) (ht : t < c.n) (ho : o.op = .binOp .eql ty x y ty') (hu : P.underlying ty = some (.slice e)) (hx : opd s.fr x = .t (.list n l)) (hy : opd s.fr y = .nil)
    (k : ∀ b : Bool, (b = true → l = []) → WO P c ops rest ⟨(t, .t (.bool b)) :: s.fr, s.M⟩ Q) : WO P c ops (o :: rest) s Q := by
  intro a w hi0
  have hi00 := hi0
  obtain ⟨F, β, fb, mb, ow, hi⟩ := hi00
  obtain ⟨bs, hr, _⟩ := hi.opd x
  rw [hx] at hr
  generalize hev : a.eval x = xv at hr
  have key : ∃ ad m q, xv = .slice ad m q ∧ (ad.isNone = true → l = []) := by
    cases hr with
    | t hr _ =>
      cases hr with
      | none _ => exact ⟨_, _, _, rfl, fun _ => rfl⟩
      | list _ _ _ _ _ _ _ => exact ⟨_, _, _, rfl, fun h => by cases h⟩
  obtain ⟨ad, m, q, rfl, hl⟩ := key
  refine wpList_plain hg fun K hK => ?_
  unfold Oper.wp
  have hrun : (execOp a.eval o).run P w = .ok (.value (.bool ad.isNone)) w := by
    simp only [execOp, ho, hev, eval_nil hi hy, Sem.run_bind, run_eql_slice_nil w ty e ad m q 0 0 hu]
    simp [eqGuard, run_eql_slice_nil w ty e ad m q 0 0 hu]
  rw [hrun, Oper.upon_value, hd]
  exact hK _ _ (k ad.isNone hl _ _ ⟨F, β, _, mb, ow, hi.put ht (.t (.v rfl .nil) .done)⟩)

theorem EndsM_slice {fn : Func} {r r' : Int} {id u b sz : Nat} {vs : List Value} {ts ts' : List T} {e : Exit} (he : e = .normal ∨ e = .ret) (h1 : fn.results.toList = [.tmp u]) (h2 : look s.fr u = .t (.int r')) (h4 : lookM s.M id = some (.raw b sz vs ts)) (h3 : r' = r) (h5 : ts = ts') :
    EndsM fn r id (fun blk => ∃ vs', blk = .raw b sz vs' ts') e s := by
  subst h3; subst h5
  rcases he with rfl | rfl <;> exact ⟨u, h1, h2, _, h4, vs, rfl⟩
theorem EndsM_struct {fn : Func} {r r' : Int} {id u : Nat} {vs : List Value} {ts ts' : List T} {e : Exit} (he : e = .normal ∨ e = .ret) (h1 : fn.results.toList = [.tmp u]) (h2 : look s.fr u = .t (.int r')) (h4 : lookM s.M id = some (.rawV vs ts)) (h3 : r' = r) (h5 : ts = ts') :
    EndsM fn r id (fun blk => blk = .rawV vs ts') e s := by
  subst h3; subst h5
  rcases he with rfl | rfl <;> exact ⟨u, h1, h2, _, h4, rfl⟩

/-- The element at hand, behind those that are done. -/
theorem get_done {α : Type} {done rest : List α} {x : α} {i : Nat} (h : done.length = i) : (done ++ x :: rest)[i]? = some x := by
  subst h; simp
theorem set_done {α : Type} {done rest : List α} {x y : α} {i : Nat} (h : done.length = i) : (done ++ x :: rest).set i y = (done ++ [y]) ++ rest := by
  subst h; simp

/-- What is in a slot, moved with all that it owns. -/
theorem WO_moveAll {t u : Nat} {d : D} (hg : o.guard = none) (hd : o.dst = some t) (ht : t < c.n) (ho : o.op = .assign (.tmp u) ∨ o.op = .move (.tmp u)) (hu : look s.fr u = d) (hne : (t == u) = false)
    (kk : WO P c ops rest ⟨(t, d) :: (u, .top) :: s.fr, s.M⟩ Q) : WO P c ops (o :: rest) s Q := by
  have hne' : ¬ t = u := by simpa using hne
  rintro a w ⟨F, β, fb, mb, ow, hi⟩
  have hr := hi.fr u
  rw [hu] at hr
  have hrun : (execOp a.eval o).run P w = .ok (.value (a.tmps.getD u undef)) w := by
    rcases ho with ho | ho <;> simp [execOp, ho, Act.eval, Sem.run_bind]
  refine wpList_plain hg fun K hK => ?_
  unfold Oper.wp
  rw [hrun, Oper.upon_value, hd]
  refine hK _ _ (kk _ _ ⟨F, β, fun x => if t = x then fb u else if u = x then [] else fb x, mb, fun b => if b ∈ fb u then some (.inl t) else ow b, ?_⟩)
  have hob : ∀ b, b ∈ fb u → ow b = some (.inl u) := fun b hb => hi.ofr u b hb
  exact { hi with
    fr := fun x => by
      rw [getD_put _ _ _ _ (by rw [hi.tmps]; exact ht)]
      simp only [look]
      split
      · exact hr
      · split
        · exact .top .done
        · exact hi.fr x
    ofr := fun x b hb => by
      split at hb
      · rename_i e; subst e; rw [if_pos hb]
      · split at hb
        · cases hb
        · rename_i h1 h2
          have h3 := hi.ofr x b hb
          rw [if_neg (fun h => ?_)]
          · exact h3
          · rw [hob b h] at h3; cases h3; exact h2 rfl
    omem := fun id b hb => by
      have h3 := hi.omem id b hb
      rw [if_neg (fun h => ?_)]
      · exact h3
      · rw [hob b h] at h3; cases h3
    nfr := fun x => by
      split
      · exact hi.nfr u
      · split
        · simp
        · exact hi.nfr x
    own := fun b hb => by
      split at hb
      · rename_i h; exact hi.own b (by rw [hob b h]; simp)
      · exact hi.own b hb
    defers := (defers_put a _ _).trans hi.defers
    tmps := (size_put a _ _).trans hi.tmps }

end
end Go.Eng
