/- The abstract machine's rules for calls, and for whole functions. -/
import Derived.Test.YtbkamkmmljbedaaEng6
set_option linter.unusedVariables false
set_option linter.unusedSimpArgs false
namespace Go.Eng
open Go.RowKit

/-- It is a function of the program's own text. -/
def Callable (P : Program) (f : FuncId) : Prop := ∃ fn, P.funcs[f]? = some fn ∧ fn.body.isNone = false ∧ (fn.name == "runtime.NumGoroutine") = false

/-- A function that reads what it is given, and answers what it is said to, in new memory. -/
def Fun (P : Program) (f : FuncId) (ds : List D) (r : D) : Prop := Callable P f ∧ Pure P f ds r

/-- What is handed to a function that reads it: as it can be read in all the memory that there is. -/
inductive ResL (s : St) : List D → List D → Prop
  | done : ResL s [] []
  | t {x ds es} : ResL s ds es → ResL s (.t x :: ds) (.t x :: es)
  | nil {ds es} (n : Nat) : ResL s ds es → ResL s (.nil :: ds) (.t (.list n []) :: es)
  | nil' {ds es} : ResL s ds es → ResL s (.nil :: ds) (.nil :: es)
  | own {n l ds es} : ResL s ds es → ResL s (.own (.list n l) :: ds) (.t (.list n l) :: es)
  | sl {id off len n xs ds es} : lookM s.M id = some (.L n xs) → off + len ≤ xs.length → ResL s ds es → ResL s (.sl id off len :: ds) (.t (.list n ((xs.drop off).take len)) :: es)
  | ref {id off cells ts ds es} : lookM s.M id = some (.box cells) → ResL s cells (ts.map D.t) → ResL s ds es → ResL s (.ref id 0 off :: ds) (.rp (.agg ts) off :: es)
  | rp {x off ds es} : ResL s ds es → ResL s (.rp x off :: ds) (.rp x off :: es)
  | agg {l l' ds es} : ResL s l l' → ResL s ds es → ResL s (.agg l :: ds) (.agg l' :: es)
  | aggT {l ts ds es} : ResL s l (ts.map D.t) → ResL s ds es → ResL s (.agg l :: ds) (.t (.agg ts) :: es)
  | clo {f l l' ds es} : ResL s l l' → ResL s ds es → ResL s (.clo f l :: ds) (.clo f l' :: es)
  | top {d ds es} : ResL s ds es → ResL s (d :: ds) (.top :: es)
  | raw {id j m : Nat} {u : Value} {zs : List T} {vs : List Value} {ts : List T} {ds es : List D} : lookM s.M id = some (.rawV vs ts) → vs[j]? = some u → ts[j]? = some (T.list m zs) → ResL s ds es → ResL s (.t (.v u) :: ds) (.t (.list m zs) :: es)
  | rawA {id : Nat} {vs : List Value} {ts : List T} {cells ds es : List D} : lookM s.M id = some (.rawV vs ts) → cells = vs.map (fun u => D.t (.v u)) → ResL s ds es → ResL s (.agg cells :: ds) (.t (.agg ts) :: es)

/-- Nothing in it is data that is only read. -/
def D.noImm : D → Bool
  | .t (.v _) => true
  | .own _ => true
  | .nil => true
  | .top => true
  | .agg l | .tup l => noImmL l
  | _ => false
where noImmL : List D → Bool
  | [] => true
  | d :: l => d.noImm && noImmL l

/-- It names no memory of the call's own by an id. -/
def D.closed : D → Bool
  | .t _ | .own _ | .nil | .top | .rp _ _ => true
  | .agg l | .tup l | .clo _ l => closedL l
  | _ => false
where closedL : List D → Bool
  | [] => true
  | d :: l => d.closed && closedL l

theorem RelD.noImm {w : World} {F F' : Nat → Prop} {β β' : Place} {vs ds bs} (h : RelD w F β vs ds bs) (hh : D.noImm.noImmL ds = true) : RelD w F' β' vs ds bs := by
  induction h with
  | done => exact .done
  | agg h0 _ _ ih1 ih2 => simp only [D.noImm.noImmL, D.noImm, Bool.and_eq_true] at hh; exact .agg h0 (ih1 hh.1) (ih2 hh.2)
  | clo _ _ ih1 ih2 => simp [D.noImm.noImmL, D.noImm] at hh
  | tup _ _ ih1 ih2 => simp only [D.noImm.noImmL, D.noImm, Bool.and_eq_true] at hh; exact .tup (ih1 hh.1) (ih2 hh.2)
  | t h1 _ ih =>
    simp only [D.noImm.noImmL, Bool.and_eq_true] at hh
    cases h1 with
    | v h2 h3 => exact .t (.v h2 .nil) (ih hh.2)
    | none _ => simp [D.noImm] at hh
    | list _ _ _ _ _ _ _ => simp [D.noImm] at hh
  | tagg h1 _ ih => simp [D.noImm.noImmL, D.noImm] at hh
  | nil _ ih => simp only [D.noImm.noImmL, Bool.and_eq_true] at hh; exact .nil (ih hh.2)
  | ref h1 _ ih => simp [D.noImm.noImmL, D.noImm] at hh
  | sl h1 h2 h3 h4 _ ih => simp [D.noImm.noImmL, D.noImm] at hh
  | slnil h1 _ ih => simp [D.noImm.noImmL, D.noImm] at hh
  | rp h1 h2 h3 h4 _ ih => simp [D.noImm.noImmL, D.noImm] at hh
  | own h1 _ ih => simp only [D.noImm.noImmL, Bool.and_eq_true] at hh; exact .own h1 (ih hh.2)
  | top _ ih => simp only [D.noImm.noImmL, Bool.and_eq_true] at hh; exact .top (ih hh.2)

theorem RelD.closed {w : World} {F : Nat → Prop} {β β' : Place} {vs ds bs} (h : RelD w F β vs ds bs) (hh : D.closed.closedL ds = true) : RelD w F β' vs ds bs := by
  induction h with
  | done => exact .done
  | agg h0 _ _ ih1 ih2 => simp only [D.closed.closedL, D.closed, Bool.and_eq_true] at hh; exact .agg h0 (ih1 hh.1) (ih2 hh.2)
  | clo _ _ ih1 ih2 => simp only [D.closed.closedL, D.closed, Bool.and_eq_true] at hh; exact .clo (ih1 hh.1) (ih2 hh.2)
  | tup _ _ ih1 ih2 => simp only [D.closed.closedL, D.closed, Bool.and_eq_true] at hh; exact .tup (ih1 hh.1) (ih2 hh.2)
  | t h1 _ ih => simp only [D.closed.closedL, Bool.and_eq_true] at hh; exact .t h1 (ih hh.2)
  | tagg h1 _ ih => simp only [D.closed.closedL, Bool.and_eq_true] at hh; exact .tagg h1 (ih hh.2)
  | nil _ ih => simp only [D.closed.closedL, Bool.and_eq_true] at hh; exact .nil (ih hh.2)
  | ref h1 _ ih => simp [D.closed.closedL, D.closed] at hh
  | sl h1 h2 h3 h4 _ ih => simp [D.closed.closedL, D.closed] at hh
  | slnil h1 _ ih => simp [D.closed.closedL, D.closed] at hh
  | rp h1 h2 h3 h4 _ ih => simp only [D.closed.closedL, Bool.and_eq_true] at hh; exact .rp h1 h2 h3 h4 (ih hh.2)
  | own h1 _ ih => simp only [D.closed.closedL, Bool.and_eq_true] at hh; exact .own h1 (ih hh.2)
  | top _ ih => simp only [D.closed.closedL, Bool.and_eq_true] at hh; exact .top (ih hh.2)

section
variable {P : Program} {c : Ctx} {s : St} {Q : Exit → St → Prop} {ops : Array Oper} {rest : List Oper} {o : Oper}

/-- From a list of things that are each known as data, the data. -/
theorem relL_of_ts {w : World} {F : Nat → Prop} {β : Place} : ∀ {vs ts bs}, RelD w F β vs (ts.map D.t) bs → vs.all (·.oneCell') = true → RelL w F vs ts
  | [], [], _, _, _ => .nil
  | [], _ :: _, _, h, _ => by cases h
  | _ :: _, [], _, h, _ => by cases h
  | v :: vs, t :: ts, _, h, h1 => by
    rw [List.all_cons, Bool.and_eq_true] at h1
    cases h with
    | t h2 h3 => exact RelL.cons' h2 (relL_of_ts h3 h1.2)
    | tagg h2 h3 => simp [Value.oneCell'] at h1

theorem exact_vs {w : World} {F : Nat → Prop} {β : Place} : ∀ {us vs : List Value} {bs : List Nat}, RelD w F β vs (us.map fun u => D.t (.v u)) bs → vs = us
  | [], _, _, h => by cases h; rfl
  | u :: us, vs, _, h => by
    rw [List.map_cons] at h
    cases h with
    | t h1 h2 => rw [exact_vs h2, relL_one h1]

theorem ResL.sound {a : Act} {w : World} {F β fb mb ow} (hi : Conc c s a w F β fb mb ow) {ds es : List D} (h : ResL s ds es) : ∀ {vs bs}, RelD w F β vs ds bs → (∀ b, b ∈ bs → b < w.heap.size) →
    RelD w (fun b => b < w.heap.size) (fun _ => none) vs es [] := by
  have hFa : ∀ b, F b → b < w.heap.size := hi.fin
  induction h with
  | done => intro vs bs hr _; cases hr; exact .done
  | t _ ih =>
    intro vs bs hr hb
    cases hr with
    | t h1 h2 => exact .t (h1.mono hFa fun _ _ => rfl) (ih h2 hb)
    | tagg h1 h2 => exact .tagg (h1.mono hFa fun _ _ => rfl) (ih h2 hb)
  | nil n _ ih =>
    intro vs bs hr hb
    cases hr with
    | nil h2 => exact .t (.none .nil) (ih h2 hb)
  | nil' _ ih =>
    intro vs bs hr hb
    cases hr with
    | nil h2 => exact .nil (ih h2 hb)
  | own _ ih =>
    intro vs bs hr hb
    cases hr with
    | own h1 h2 => exact .t (h1.rel fun b h => hb b (by simp [h])) (ih h2 fun b h => hb b (by simp [h]))
  | @sl id off len n xs ds es hM hle _ ih =>
    intro vs bs hr hb
    have hm := hi.mem id
    rw [hM] at hm
    have hlen : ((xs.drop off).take len).length = len := by simp; omega
    cases hr with
    | slnil q1 q2 =>
      refine .t ?_ (ih q2 hb)
      rw [List.take_zero]
      exact .none .nil
    | @sl _ _ _ ad b n' cap k _ _ _ q1 q2 q3 q4 q5 =>
      refine .t ?_ (ih q5 hb)
      rcases hm with ⟨h, _⟩ | ⟨b1, cap1, arr, e, bs1, h1, h2, h3, h4, h5, h6, h7, h8⟩
      · rw [h] at q1; cases q1
      · rw [h1] at q1
        cases q1
        by_cases h0 : k = 0
        · have hl0 : len = 0 := by omega
          subst hl0
          rw [List.take_zero]
          exact .none .nil
        · have := q4 h0
          subst this
          have hrel := h7.rel (F := fun b => b < w.heap.size) fun b' hb' => (hi.own b' (by rw [hi.omem id b' (by rw [h8]; simp [hb'])]; simp)).2.1
          have h9 := (hrel.drop (off * n)).take (len * n)
          rw [flat_drop h4, flat_take fun z hz => h4 z (List.mem_of_mem_drop hz)] at h9
          have h10 := RelL.list (o := off * n) (cap := k) (xs := (xs.drop off).take len) (n := n) (fz := (0, 0)) (F := fun b => b < w.heap.size) (hi.own b (by rw [hi.omem id b (by rw [h8]; simp)]; simp)).2.1 h2 (fun j hj => by
            simp only [List.length_take, List.length_drop, Array.length_toList] at hj
            simp only [List.getElem?_take, List.getElem?_drop]
            rw [if_pos (by omega), if_pos (by omega)]
            simp) (fun z hz => h4 z (List.mem_of_mem_drop (List.mem_of_mem_take hz))) (by rw [hlen]; exact q2) h9 .nil
          rw [hlen] at h10
          exact h10
  | @ref id off cells ts ds es hM _ _ ih1 ih2 =>
    intro vs bs hr hb
    have hm := hi.mem id
    rw [hM] at hm
    obtain ⟨b, arr, e, bs', h1, h2, h3, h4, h5⟩ := hm
    cases hr with
    | ref q1 q2 =>
      rw [h1] at q1
      cases q1
      have hin : ∀ b', b' ∈ mb id → b' < w.heap.size := fun b' hb' => (hi.own b' (by rw [hi.omem id b' hb']; simp)).2.1
      have h6 := ih1 h3 fun b' hb' => hin b' (by rw [h5]; simp [hb'])
      rw [Nat.zero_mul]
      exact .rp (o := 0) (cs := arr.toList) (hin b (by rw [h5]; simp)) h2 (by simp) (relL_of_ts h6 h4) (ih2 q2 hb)
  | rp _ ih =>
    intro vs bs hr hb
    cases hr with
    | rp q1 q2 q3 q4 q5 => exact .rp (hFa _ q1) q2 q3 (q4.mono hFa fun _ _ => rfl) (ih q5 hb)
  | agg _ _ ih1 ih2 =>
    intro vs bs hr hb
    cases hr with
    | agg h0 h1 h2 => exact .agg h0 (ih1 h1 fun b h => hb b (by simp [h])) (ih2 h2 fun b h => hb b (by simp [h]))
  | aggT _ _ ih1 ih2 =>
    intro vs bs hr hb
    cases hr with
    | agg h0 h1 h2 => exact .tagg (relL_of_ts (ih1 h1 fun b h => hb b (by simp [h])) h0) (ih2 h2 fun b h => hb b (by simp [h]))
  | clo _ _ ih1 ih2 =>
    intro vs bs hr hb
    cases hr with
    | clo h1 h2 => exact .clo (ih1 h1 fun b h => hb b (by simp [h])) (ih2 h2 fun b h => hb b (by simp [h]))
  | @raw id j m u zs us ts ds es hM hu ht _ ih =>
    intro vs bs hr hb
    have hm := hi.mem id
    rw [hM] at hm
    have hrel := OwnL.rel (F := fun b => b < w.heap.size) hm fun b hb' => (hi.own b (by rw [hi.omem id b hb']; simp)).2.1
    obtain ⟨v', h1, h2⟩ := hrel.get j ht
    rw [hu] at h1
    cases h1
    cases hr with
    | t q1 q2 =>
      have e := relL_one q1
      subst e
      exact .t h2 (ih q2 hb)
  | @rawA id us ts cells ds es hM hc _ ih =>
    intro vs bs hr hb
    subst hc
    have hm := hi.mem id
    rw [hM] at hm
    have hrel := OwnL.rel (F := fun b => b < w.heap.size) hm fun b hb' => (hi.own b (by rw [hi.omem id b hb']; simp)).2.1
    cases hr with
    | agg h0 h1 h2 =>
      rw [← exact_vs h1] at hrel
      exact .tagg hrel (ih h2 fun b h => hb b (by simp [h]))
  | top _ ih =>
    intro vs bs hr hb
    cases vs with
    | nil => cases hr
    | cons v vs =>
      obtain ⟨b1, b2, _, h2, rfl⟩ := hr.cons
      exact .top (ih h2 fun b h => hb b (by simp [h]))

/-- Behind a call. -/
theorem Conc.called {a : Act} {w w' : World} {F F2 : Nat → Prop} {β fb mb ow} (hi : Conc c s a w F β fb mb ow) {t : Nat} (ht : t < c.n) {v : Value} {r : D} {bs : List Nat} (hb : Below w.heap.size w w') (hF : ∀ b, F b → F2 b)
    (hF2 : ∀ b, F2 b → F b ∨ (w.heap.size ≤ b ∧ b < w'.heap.size)) (hr : RelD w' F2 β [v] [r] bs) (hnd : bs.Nodup) (hbs : ∀ b, b ∈ bs → w.heap.size ≤ b ∧ b < w'.heap.size ∧ ¬ F2 b) :
    Conc c ⟨(t, r) :: s.fr, s.M⟩ (a.put (some t) v) w' F2 β (fun u => if t = u then bs else fb u) mb (fun b => if b ∈ bs then some (.inl t) else ow b) := by
  have hFw : ∀ b, F b → w'.heap[b]? = w.heap[b]? := fun b h => hb.block b (hi.fin b h)
  have how : ∀ b, ow b ≠ none → w'.heap[b]? = w.heap[b]? := fun b h => hb.block b (hi.own b h).2.1
  have hnot : ∀ b, ow b ≠ none → b ∉ bs := fun b h h' => by have := (hi.own b h).2.1; have := (hbs b h').1; omega
  exact { hi with
    fr := fun u => by
      rw [getD_put _ _ _ _ (by rw [hi.tmps]; exact ht)]
      simp only [look]
      split
      · exact hr
      · exact (hi.fr u).mono hF hFw (fun b h => how b (by rw [hi.ofr u b h]; simp)) fun _ => rfl
    mem := fun id => by
      have := hi.mem id
      cases h : lookM s.M id with
      | none => rw [h] at this; exact this
      | some k =>
        rw [h] at this
        have h2 := RelB.mono this hFw fun b h => how b (by rw [hi.omem id b h]; simp)
        cases k with
        | L n xs => exact h2
        | box cells =>
          obtain ⟨b, arr, e, bs', q1, q2, q3, q4, q5⟩ := h2
          exact ⟨b, arr, e, bs', q1, q2, q3.mono hF (fun _ _ => rfl) (fun _ _ => rfl) fun _ => rfl, q4, q5⟩
        | raw b sz vs ts => exact h2
        | rawV vs ts => exact h2
        | ro vs ts => exact ⟨h2.1.mono hF (fun _ _ => rfl), h2.2⟩
    ofr := fun u b h => by
      split at h
      · rename_i e; subst e; rw [if_pos h]
      · have h1 := hi.ofr u b h
        rw [if_neg (hnot b (by rw [h1]; simp))]; exact h1
    omem := fun id b h => by
      have h1 := hi.omem id b h
      rw [if_neg (hnot b (by rw [h1]; simp))]; exact h1
    nfr := fun u => by
      split
      · exact hnd
      · exact hi.nfr u
    own := fun b h => by
      split at h
      · rename_i h1
        obtain ⟨h2, h3, h4⟩ := hbs b h1
        exact ⟨h4, h3, .inl (Nat.le_trans hi.size h2)⟩
      · obtain ⟨h2, h3, h4⟩ := hi.own b h
        refine ⟨fun h5 => ?_, Nat.lt_of_lt_of_le h3 hb.size, h4⟩
        rcases hF2 b h5 with h6 | h6
        · exact h2 h6
        · omega
    fin := fun b h => by
      rcases hF2 b h with h6 | h6
      · exact Nat.lt_of_lt_of_le (hi.fin b h6) hb.size
      · exact h6.2
    f0 := fun b h => hF b (hi.f0 b h)
    fnew := fun b h => by
      rcases hF2 b h with h6 | h6
      · exact hi.fnew b h6
      · exact .inr (.inl (Nat.le_trans hi.size h6.1))
    os := hb.os.trans hi.os
    tape := hb.tape.trans hi.tape
    output := hb.output.trans hi.output
    size := Nat.le_trans hi.size hb.size
    keep := fun b h hg => (hb.block b (Nat.lt_of_lt_of_le h hi.size)).trans (hi.keep b h hg)
    defers := (defers_put a _ v).trans hi.defers
    tmps := (size_put a _ v).trans hi.tmps }

theorem run_callFunc {f : FuncId} (h : Callable P f) (args : Array Value) (w : World) : (callFunc f args).run P w = .ok (.enter f args) w := by
  obtain ⟨fn, h1, h2, h3⟩ := h
  have h4 : ¬ fn.name = "runtime.NumGoroutine" := by simpa using h3
  have h5 : ¬ fn.body = none := by cases hb : fn.body <;> simp_all
  simp [callFunc, h1, h4, h5]

theorem relD_ops {a : Act} {w : World} {F β fb mb ow} (h : Conc c s a w F β fb mb ow) : ∀ l : List Operand, ∃ bs, RelD w F β (l.map a.eval) (l.map (opd s.fr)) bs ∧ ∀ b, b ∈ bs → b < w.heap.size
  | [] => ⟨[], .done, by simp⟩
  | x :: l => by
    obtain ⟨bs, hr, h1⟩ := h.opd x
    obtain ⟨bs', hr', h2⟩ := relD_ops h l
    refine ⟨bs ++ bs', RelD.cons' hr hr', fun b hb => ?_⟩
    rcases List.mem_append.1 hb with hb | hb
    · rcases h1 with rfl | ⟨t, _, rfl⟩
      · cases hb
      · exact (h.own b (by rw [h.ofr t b hb]; simp)).2.1
    · exact h2 b hb

theorem relD_append' {w : World} {F : Nat → Prop} {β : Place} {v : Value} {f : FuncId} {l : List D} {bs : List Nat} (h : RelD w F β [v] [.clo f l] bs) : ∃ arr bs', v = .func (.func f) #[] arr ∧ RelD w F β arr.toList l bs' ∧ bs' = bs := by
  cases h with
  | clo h1 h2 => cases h2; exact ⟨_, _, rfl, h1, by simp⟩

/-- A call of a function that reads what it is given; its answer is new memory. -/
theorem WO_call {t : Nat} {fo : Operand} {args : Array Operand} {tys : Array TypeId} {f : FuncId} {caps es : List D} {r : D} (hg : o.guard = none) (hd : o.dst = some t) (ht : t < c.n)
    (ho : o.op = .call { callee := .value fo, args := args, argTypes := tys }) (hf : opd s.fr fo = .clo f caps) (hes : ResL s (args.toList.map (opd s.fr) ++ caps) es) (hc : Fun P f es r) (hn : r.noImm = true)
    (k : WO P c ops rest ⟨(t, r) :: s.fr, s.M⟩ Q) : WO P c ops (o :: rest) s Q := by
  rintro a w ⟨F, β, fb, mb, ow, hi⟩
  obtain ⟨bf, hrf, h1⟩ := hi.opd fo
  rw [hf] at hrf
  obtain ⟨arr, bs', hv, hr1, rfl⟩ := relD_append' hrf
  obtain ⟨bs, hr2, h2⟩ := relD_ops hi args.toList
  have hall := hr2.append hr1
  have hsound := hes.sound hi hall fun b hb => by
    rcases List.mem_append.1 hb with hb | hb
    · exact h2 b hb
    · rcases h1 with rfl | ⟨u, _, rfl⟩
      · cases hb
      · exact (hi.own b (by rw [hi.ofr u b hb]; simp)).2.1
  have hrun : (execOp a.eval o).run P w = .ok (.enter f (args.map a.eval ++ arr)) w := by
    simp [execOp, ho, resolve, hv, Deferred.ofValue, invoke, run_callFunc hc.1]
  refine wpList_plain hg fun K hK => ?_
  unfold Oper.wp
  rw [hrun, Oper.upon_enter]
  refine (hc.2 w (fun b => b < w.heap.size) (args.map a.eval ++ arr) (fun b h => h) (by simpa using hsound)).mono ?_
  rintro e w' ⟨v, F', bs2, rfl, hb, _, _, hr, hnd, hbs⟩
  dsimp only
  rw [hd]
  refine hK _ _ (k _ _ ⟨F, β, _, mb, _, hi.called ht hb (fun _ h => h) (fun _ h => .inl h) (hr.noImm (by simp [D.noImm.noImmL, hn])) hnd fun b h => ?_⟩)
  obtain ⟨h3, h4, h5⟩ := hbs b h
  exact ⟨h3, h4, fun h6 => by have := hi.fin b h6; omega⟩

/-- A call whose answer may be a part of what it is given, which is data that is only read. -/
theorem WO_callF {t : Nat} {fo : Operand} {args : Array Operand} {tys : Array TypeId} {f : FuncId} {caps es : List D} {r : D} (hg : o.guard = none) (hd : o.dst = some t) (ht : t < c.n)
    (ho : o.op = .call { callee := .value fo, args := args, argTypes := tys }) (hf : opd s.fr fo = .clo f caps) (hes : args.toList.map (opd s.fr) ++ caps = es) (hcl : D.closed.closedL es = true) (hfr : D.free.freeL es = true)
    (hc : Fun P f es r) (hn : r.closed = true)
    (k : WO P c ops rest ⟨(t, r) :: s.fr, s.M⟩ Q) : WO P c ops (o :: rest) s Q := by
  rintro a w ⟨F, β, fb, mb, ow, hi⟩
  obtain ⟨bf, hrf, h1⟩ := hi.opd fo
  rw [hf] at hrf
  obtain ⟨arr, bs', hv, hr1, rfl⟩ := relD_append' hrf
  obtain ⟨bs, hr2, h2⟩ := relD_ops hi args.toList
  have hall := hr2.append hr1
  rw [hes] at hall
  have hb0 := hall.free hfr
  rw [hb0] at hall
  have hrun : (execOp a.eval o).run P w = .ok (.enter f (args.map a.eval ++ arr)) w := by
    simp [execOp, ho, resolve, hv, Deferred.ofValue, invoke, run_callFunc hc.1]
  refine wpList_plain hg fun K hK => ?_
  unfold Oper.wp
  rw [hrun, Oper.upon_enter]
  refine (hc.2 w F (args.map a.eval ++ arr) hi.fin (by simpa using hall.closed (β' := fun _ => none) hcl)).mono ?_
  rintro e w' ⟨v, F', bs2, rfl, hb, hF, hF', hr, hnd, hbs⟩
  dsimp only
  rw [hd]
  exact hK _ _ (k _ _ ⟨F', β, _, mb, _, hi.called ht hb hF hF' (hr.closed (by simp [D.closed.closedL, hn])) hnd hbs⟩)

/-! ### Whole functions -/

theorem RelD.get0 {w : World} {F : Nat → Prop} {β} : ∀ {vs ds} (k : Nat) {d}, RelD w F β vs ds [] → ds[k]? = some d → ∃ v, vs[k]? = some v ∧ RelD w F β [v] [d] []
  | [], [], _, _, _, e => by simp at e
  | [], _ :: _, _, _, h, _ => by cases h
  | _ :: _, [], _, _, h, _ => by cases h
  | x0 :: _, _ :: _, k, _, h, e => by
    obtain ⟨b1, b2, h1, h2, h3⟩ := h.cons
    have hb1 : b1 = [] := by cases b1 with
      | nil => exact rfl
      | cons _ _ => simp at h3
    subst hb1
    have hb2 : b2 = [] := by simpa using h3.symm
    subst hb2
    cases k with
    | zero => simp at e; subst e; exact ⟨x0, rfl, h1⟩
    | succ k =>
      obtain ⟨v, h3, h4⟩ := RelD.get0 k h2 (by simpa using e)
      exact ⟨v, by simpa using h3, h4⟩

/-- What a result reads. -/
def resRun (tmps : Array Value) : ResultVar → Sem Value
  | .tmp t => Pure.pure (tmps.getD t undef)
  | .cell t ty => do loadVar ty (← asAddr (tmps.getD t undef))

theorem results_run (fn : Func) (tmps : Array Value) {vs : List Value} {w : World} (h : (fn.results.toList.mapM (resRun tmps)).run P w = .ok vs w) :
    (results fn tmps).run P w = .ok (match vs with | [v] => v | vs => .tuple vs.toArray) w := by
  have e : results fn tmps = (do let vs ← fn.results.mapM (resRun tmps); pure (if h : vs.size = 1 then vs[0] else .tuple vs)) := by
    unfold results
    congr 1
  rw [e, Array.mapM_eq_mapM_toList]
  simp only [Sem.run_bind, Sem.run_map, h, Result.andThen_ok, Sem.run_pure]
  match vs with
  | [] => rfl
  | [v] => rfl
  | _ :: _ :: _ => rfl

/-- The results of a function, and whose they are. -/
def RetOk (Γ : Tys) (s : St) : List ResultVar → List D → List (Nat ⊕ Nat) → Prop
  | [], [], [] => True
  | .tmp t :: rs, d :: ds, y :: ys => look s.fr t = d ∧ y = .inl t ∧ RetOk Γ s rs ds ys
  | .cell t ty :: rs, d :: ds, y :: ys => (∃ id cells ti, look s.fr t = .ref id 0 0 ∧ lookM s.M id = some (.box cells) ∧ tyOf Γ ty = some ti ∧ ti.kind.isAgg = true ∧ cells.length = ti.size ∧ d = .agg cells ∧ y = .inr id) ∧ RetOk Γ s rs ds ys
  | _, _, _ => False

/-- One result, or several. -/
def tupD : List D → D
  | [d] => d
  | l => .tup l

theorem ret_vals {Γ : Tys} (hΓ : Γ.ok P) {a : Act} {w : World} {F β fb mb ow} (hi : Conc c s a w F β fb mb ow) : ∀ {rs : List ResultVar} {ds : List D} {ys : List (Nat ⊕ Nat)}, RetOk Γ s rs ds ys → ys.Nodup →
    ∃ vs bs, (rs.mapM (resRun a.tmps)).run P w = .ok vs w ∧ RelD w F β vs ds bs ∧ bs.Nodup ∧
      ∀ b, b ∈ bs → ∃ y, ow b = some y ∧ y ∈ ys
  | [], [], [], _, _ => ⟨[], [], by simp, .done, by simp, by simp⟩
  | [], _ :: _, _, h, _ => by cases ‹List (Nat ⊕ Nat)› <;> exact h.elim
  | [], [], _ :: _, h, _ => h.elim
  | .tmp t :: rs, [], _, h, _ => by cases ‹List (Nat ⊕ Nat)› <;> exact h.elim
  | .tmp t :: rs, _ :: _, [], h, _ => h.elim
  | .cell t ty :: rs, [], _, h, _ => by cases ‹List (Nat ⊕ Nat)› <;> exact h.elim
  | .cell t ty :: rs, _ :: _, [], h, _ => h.elim
  | .tmp t :: rs, d :: ds, y :: ys, ⟨h1, h2, h3⟩, hn => by
    obtain ⟨hy, hn'⟩ := List.nodup_cons.1 hn
    obtain ⟨vs, bs, q1, q2, q3, q4⟩ := ret_vals hΓ hi h3 hn'
    have hr := hi.fr t
    rw [h1] at hr
    subst h2
    refine ⟨_ :: vs, fb t ++ bs, ?_, RelD.cons' hr q2, ?_, fun b hb => ?_⟩
    · rw [List.mapM_cons]
      simp only [resRun, Sem.run_bind, Sem.run_pure, Result.andThen_ok]
      rw [q1]
      rfl
    · refine List.nodup_append.2 ⟨hi.nfr t, q3, fun p hp q hq e => ?_⟩
      subst e
      obtain ⟨y, h5, h6⟩ := q4 p hq
      rw [hi.ofr t p hp] at h5
      cases h5
      exact hy h6
    · rcases List.mem_append.1 hb with hb | hb
      · exact ⟨_, hi.ofr t b hb, by simp⟩
      · obtain ⟨y, h5, h6⟩ := q4 b hb
        exact ⟨y, h5, by simp [h6]⟩
  | .cell t ty :: rs, d :: ds, y :: ys, ⟨⟨id, cells, ti, h1, h2, h3, h4, h5, h6, h7⟩, h8⟩, hn => by
    obtain ⟨hy, hn'⟩ := List.nodup_cons.1 hn
    obtain ⟨vs, bs, q1, q2, q3, q4⟩ := ret_vals hΓ hi h8 hn'
    have hr := hi.fr t
    rw [h1] at hr
    subst h7
    have hm := hi.mem id
    rw [h2] at hm
    obtain ⟨b, arr, e, bs1, m1, m2, m3, m4, m5⟩ := hm
    have hnd := hi.nmem id
    rw [m5] at hnd
    have hlen := m3.length
    have hld : (do loadVar ty (← asAddr (a.tmps.getD t undef)) : Sem Value).run P w = .ok (.agg arr) w := by
      generalize a.tmps.getD t undef = xv at hr
      cases hr with
      | ref p1 p2 =>
        rw [m1] at p1
        cases p1
        simp only [asAddr, Sem.run_bind, Sem.run_pure, Result.andThen_ok, Nat.zero_mul, Nat.add_zero]
        have := run_loadVar_agg (hΓ.get h3) h4 (w := w) (a := ⟨b, 0, none⟩) (cs := arr.toList) (by rw [hlen, h5]) fun j v hj => by
          rw [add_none, cell_of m2]; simpa using hj
        simpa using this
    refine ⟨.agg arr :: vs, bs1 ++ bs, ?_, ?_, ?_, fun b' hb => ?_⟩
    · rw [List.mapM_cons, Sem.run_bind]
      have hld' : (resRun a.tmps (.cell t ty)).run P w = .ok (.agg arr) w := hld
      rw [hld']
      simp only [Result.andThen_ok, Sem.run_bind, q1, Sem.run_pure]
    · rw [h6]
      exact .agg m4 m3 q2
    · refine List.nodup_append.2 ⟨(List.nodup_cons.1 hnd).2, q3, fun p hp q hq e => ?_⟩
      subst e
      obtain ⟨y, h5, h6⟩ := q4 p hq
      rw [hi.omem id p (by rw [m5]; simp [hp])] at h5
      cases h5
      exact hy h6
    · rcases List.mem_append.1 hb with hb | hb
      · exact ⟨_, hi.omem id b' (by rw [m5]; simp [hb]), by simp⟩
      · obtain ⟨y, h5, h6⟩ := q4 b' hb
        exact ⟨y, h5, by simp [h6]⟩

/-- How a body must end. -/
def Ends (Γ : Tys) (fn : Func) (ds : List D) : Exit → St → Prop
  | .normal, s | .ret, s => ∃ ys, RetOk Γ s fn.results.toList ds ys ∧ ys.Nodup ∧ D.closed.closedL ds = true
  | _, _ => False

theorem Fun.intro {Γ : Tys} (hΓ : Γ.ok P) {f : FuncId} {fn : Func} {code : Code} (hf : P.funcs[f]? = some fn) (hb : fn.body = some code) (hname : (fn.name == "runtime.NumGoroutine") = false) {N : Nat} {ds rs : List D} (hN : ds.length + (fn.ntmps - ds.length) = N)
    (h : ∀ w0 G F0, W P ⟨w0, G, F0, N⟩ code ⟨(List.range ds.length).zip ds, []⟩ (Ends Γ fn rs)) : Fun P f ds (tupD rs) := by
  refine ⟨⟨fn, hf, by rw [hb]; rfl, hname⟩, ?_⟩
  intro w F args hF hargs
  have hlen := hargs.length
  simp only [Array.length_toList] at hlen
  refine calls_of_wp hf hb ?_
  have h0 : Is ⟨w, fun _ => False, F, N⟩ ⟨(List.range ds.length).zip ds, []⟩ { tmps := args ++ Array.replicate (fn.ntmps - args.size) undef, defers := [] } w := by
    refine ⟨F, fun _ => none, fun _ => [], fun _ => [], fun _ => none, ?_⟩
    have hlook : ∀ (l : List D) (k t : Nat), look ((List.range' k l.length).zip l) (k + t) = (l[t]?).getD .top := by
      intro l
      induction l with
      | nil => intro k t; simp [look]
      | cons d l ih =>
        intro k t
        rw [List.length_cons, List.range'_succ, List.zip_cons_cons]
        simp only [look]
        cases t with
        | zero => simp
        | succ t =>
          rw [if_neg (by omega), show k + (t + 1) = k + 1 + t from by omega, ih]
          simp
    have hl0 : ∀ t, look ((List.range ds.length).zip ds) t = (ds[t]?).getD .top := fun t => by
      have := hlook ds 0 t
      simpa [List.range_eq_range'] using this
    exact {
      fr := fun t => by
        rw [hl0]
        cases hd : ds[t]? with
        | none => exact .top .done
        | some d =>
          have hlt := (List.getElem?_eq_some_iff.1 hd).1
          obtain ⟨v, h1, h2⟩ := hargs.get0 t hd
          have hlt2 : t < args.size := by rw [hlen]; exact hlt
          have hv : (args ++ Array.replicate (fn.ntmps - args.size) undef).getD t undef = v := by
            rw [Array.getD_eq_getD_getElem?, Array.getElem?_append_left hlt2]
            have : args[t]? = some v := by simpa using h1
            rw [this]; rfl
          rw [hv]
          exact h2
      mem := fun id => rfl
      ofr := by simp
      omem := by simp
      nfr := by simp
      nmem := by simp
      own := by simp
      fin := hF
      f0 := fun _ h => h
      fnew := fun _ h => .inl h
      f0in := fun b h => ⟨hF b h, by simp⟩
      gin := by simp
      os := rfl
      tape := rfl
      output := rfl
      size := Nat.le_refl _
      keep := fun _ _ _ => rfl
      defers := rfl
      tmps := by simp [hlen, hN] }
  refine Code.wp_mono ?_ (h w (fun _ => False) F _ _ h0)
  rintro e a' w' ⟨s', ⟨F', β, fb, mb, ow, hi⟩, hq⟩
  have key : ∀ ys, RetOk Γ s' fn.results.toList rs ys → ys.Nodup → D.closed.closedL rs = true → a'.defers = [] ∧ ∃ v, (results fn a'.tmps).run P w' = .ok v w' ∧
      ∃ v' F'' bs, Ending.returned v = .returned v' ∧ Below w.heap.size w w' ∧ (∀ b, F b → F'' b) ∧ (∀ b, F'' b → F b ∨ (w.heap.size ≤ b ∧ b < w'.heap.size)) ∧
      RelD w' F'' (fun _ => none) [v'] [tupD rs] bs ∧ bs.Nodup ∧ ∀ b, b ∈ bs → w.heap.size ≤ b ∧ b < w'.heap.size ∧ ¬ F'' b := by
    intro ys h1 h2 h3
    obtain ⟨vs, bs, q1, q2, q3, q4⟩ := ret_vals hΓ hi h1 h2
    have q5 := q2.closed (β' := fun _ => none) h3
    have hres := results_run (P := P) fn a'.tmps q1
    refine ⟨hi.defers, _, hres, _, F', bs, rfl, ⟨hi.os, hi.tape, hi.output, hi.size, fun b hb => hi.keep b hb (by simp)⟩, hi.f0, fun b hb => ?_, ?_, q3, fun b hb => ?_⟩
    · rcases hi.fnew b hb with h | h | h
      · exact .inl h
      · exact .inr ⟨h, hi.fin b hb⟩
      · exact h.elim
    · have hl := q5.length
      match vs, rs, hl, q5 with
      | [], [], _, q5 => cases q5; exact RelD.tup (arr := #[]) (l := []) .done .done
      | [v], [d], _, q5 => exact q5
      | v :: v2 :: vs, d :: d2 :: ds', _, q5 => simpa [tupD] using RelD.tup (arr := (v :: v2 :: vs).toArray) q5 .done
    · obtain ⟨y, h5, _⟩ := q4 b hb
      obtain ⟨h6, h7, h8⟩ := hi.own b (by rw [h5]; simp)
      exact ⟨h8.resolve_right (by simp), h7, h6⟩
  cases e with
  | normal => obtain ⟨ys, h1, h2, h3⟩ := hq; exact key ys h1 h2 h3
  | ret => obtain ⟨ys, h1, h2, h3⟩ := hq; exact key ys h1 h2 h3
  | _ => exact hq.elim

end
end Go.Eng
