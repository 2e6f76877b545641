/- Calls of functions that write into what they are given; and how a walk shows what such a function does. -/
import Derived.Test.YtbkamkmmljbedaaEng17
set_option linter.unusedVariables false
set_option linter.unusedSimpArgs false
namespace Go.Eng
open Go.RowKit

theorem OwnL.at {w : World} : ∀ {vs ts bs} (j : Nat) {u : Value} {x : T}, OwnL w vs ts bs → vs[j]? = some u → ts[j]? = some x → ∃ b1 b2 b3, bs = b1 ++ b2 ++ b3 ∧ OwnL w [u] [x] b2 ∧
    ∀ (w' : World) y b2', (∀ b, b ∈ b1 ++ b3 → w'.heap[b]? = w.heap[b]?) → OwnL w' [u] [y] b2' → OwnL w' vs (ts.set j y) (b1 ++ b2' ++ b3)
  | [], _, _, _, _, _, h, hv, _ => by simp at hv
  | _ :: _, [], _, _, _, _, h, _, ht => by simp at ht
  | vv :: vs, tt :: ts, _, 0, u, x, h, hv, ht => by
    obtain ⟨b1, b2, h1, h2, rfl⟩ := h.cons
    simp at hv ht
    subst hv; subst ht
    exact ⟨[], b1, b2, by simp, h1, fun w' y b2' hk hy => by simpa using OwnL.cons' hy (h2.mono fun b hb => hk b (by simp [hb]))⟩
  | vv :: vs, tt :: ts, _, j + 1, u, x, h, hv, ht => by
    obtain ⟨b1, b2, h1, h2, rfl⟩ := h.cons
    obtain ⟨c1, c2, c3, rfl, h3, h4⟩ := OwnL.at j h2 (by simpa using hv) (by simpa using ht)
    refine ⟨b1 ++ c1, c2, c3, by simp, h3, fun w' y b2' hk hy => ?_⟩
    have h5 := h4 w' y b2' (fun b hb => hk b (by rcases List.mem_append.1 hb with hb | hb <;> simp [hb])) hy
    have := OwnL.cons' (h1.mono (w' := w') fun b hb => hk b (by simp [hb])) h5
    simpa [List.set] using this

section
variable {P : Program} {c : Ctx} {s : St} {Q : Exit → St → Prop} {ops : Array Oper} {rest : List Oper} {o : Oper}

/-- What is owned in known cells. -/
def ownV : Blk → Option (List Value × List T)
  | .raw _ _ vs ts => some (vs, ts)
  | .rawV vs ts => some (vs, ts)
  | _ => none
def setV (j : Nat) (y : T) : Blk → Blk
  | .raw b sz vs ts => .raw b sz vs (ts.set j y)
  | .rawV vs ts => .rawV vs (ts.set j y)
  | k => k

theorem run_enter {a : Act} {w : World} {F β fb mb ow} (hi : Conc c s a w F β fb mb ow) {fo x y : Operand} {tys : Array TypeId} {f : FuncId} (ho : o.op = .call { callee := .value fo, args := #[x, y], argTypes := tys }) (hf : opd s.fr fo = .clo f []) (hc : Callable P f) :
    (execOp a.eval o).run P w = .ok (.enter f #[a.eval x, a.eval y]) w := by
  obtain ⟨bf, hrf, h1⟩ := hi.opd fo
  rw [hf] at hrf
  obtain ⟨arr, bs', hv, hr1, rfl⟩ := relD_append' hrf
  have ha : arr = #[] := by
    have := hr1.length
    cases arr with
    | mk l => cases l with
      | nil => rfl
      | cons _ _ => simp at this
  subst ha
  simp [execOp, ho, resolve, hv, Deferred.ofValue, invoke, run_callFunc hc]

/-- A call that writes what a known cell leads to. -/
theorem WO_markN {t id j : Nat} {fo x y : Operand} {tys : Array TypeId} {f : FuncId} {k r : Int} {u : Value} {m m' : Nat} {zs zs' : List T} {blk : Blk} {vs : List Value} {ts : List T} (hg : o.guard = none) (hd : o.dst = some t) (ht : t < c.n)
    (ho : o.op = .call { callee := .value fo, args := #[x, y], argTypes := tys }) (hf : opd s.fr fo = .clo f []) (hx : opd s.fr x = .t (.v u)) (hy : opd s.fr y = .t (.int k)) (hM : lookM s.M id = some blk) (hb : ownV blk = some (vs, ts)) (hu : vs[j]? = some u) (hx0 : ts[j]? = some (.list m zs))
    (hm : MarkF P f (.list m zs) k r (.list m' zs'))
    (kk : WO P c ops rest ⟨(t, .t (.int r)) :: s.fr, (id, setV j (.list m' zs') blk) :: s.M⟩ Q) : WO P c ops (o :: rest) s Q := by
  obtain ⟨y0, hy0⟩ : ∃ y0, y0 = T.list m' zs' := ⟨_, rfl⟩
  rw [← hy0] at kk hm
  rintro a w ⟨F, β, fb, mb, ow, hi⟩
  have hmm := hi.mem id
  rw [hM] at hmm
  have hrun := run_enter hi ho hf hm.1
  rw [eval_v hi hx, eval_v hi hy] at hrun
  -- what is owned
  have key : ∃ pre bs, mb id = pre ++ bs ∧ OwnL w vs ts bs ∧ ∀ (w' : World) ts' bs', (∀ b, b ∈ pre → w'.heap[b]? = w.heap[b]?) → OwnL w' vs ts' bs' → (∀ j, setV j y0 blk = setV j y0 blk) → (ts' = ts.set j y0) → RelB w' F β id (setV j y0 blk) (pre ++ bs') := by
    cases blk with
    | L _ _ => simp [ownV] at hb
    | box _ => simp [ownV] at hb
    | ro _ _ => simp [ownV] at hb
    | raw b sz vs0 ts0 =>
      simp [ownV] at hb
      obtain ⟨rfl, rfl⟩ := hb
      obtain ⟨arr, e, bs, q1, q2, q3, q4, q5⟩ := hmm
      exact ⟨[b], bs, by simp [q5], q4, fun w' ts' bs' hk hO _ e1 => by subst e1; exact ⟨arr, e, bs', (hk b (by simp)).trans q1, q2, q3, hO, rfl⟩⟩
    | rawV vs0 ts0 =>
      simp [ownV] at hb
      obtain ⟨rfl, rfl⟩ := hb
      exact ⟨[], mb id, rfl, hmm, fun w' ts' bs' hk hO _ e1 => by subst e1; exact hO⟩
  obtain ⟨pre, bs, e1, hO, hback⟩ := key
  obtain ⟨b1, b2, b3, e2, h2, h3⟩ := hO.at j hu hx0
  have hnd := hi.nmem id
  have hin : ∀ b, b ∈ mb id → b < w.heap.size := fun b h => (hi.own b (by rw [hi.omem id b h]; simp)).2.1
  have hone : u.cells = #[u] := by
    have := h2.one
    cases u <;> simp_all [Value.oneCell', Value.cells]
  have hn2 : b2.Nodup := by
    rw [e1, e2] at hnd
    exact ((List.nodup_append.1 ((List.nodup_append.1 ((List.nodup_append.1 hnd).2.1)).1)).2.1)
  refine wpList_plain hg fun K hK => ?_
  unfold Oper.wp
  rw [hrun, Oper.upon_enter]
  refine (hm.2 w u b2 hone (by rw [hone]; exact h2) hn2 (fun b hb => hin b (by rw [e1, e2]; simp [hb]))).mono ?_
  rintro e w' ⟨rfl, bs', r1, r2, r3, r4, r5, r6, r7, r8⟩
  rw [hone, hy0] at r1
  have r1 : OwnL w' [u] [T.list m' zs'] bs' := r1
  rw [← hy0] at r1
  dsimp only
  rw [hd]
  have hkeep : ∀ b, b ∈ mb id → b ∉ b2 → w'.heap[b]? = w.heap[b]? := fun b hb hn => r8 b (hin b hb) hn
  have hnd2 := hnd
  rw [e1, e2] at hnd2
  have hdis : ∀ b, b ∈ pre ++ (b1 ++ b3) → b ∉ b2 ∧ b ∈ mb id := fun b hb => by
    rw [e1, e2]
    rw [List.nodup_append] at hnd2
    obtain ⟨n1, n2, n3⟩ := hnd2
    rw [List.nodup_append] at n2
    obtain ⟨n4, n5, n6⟩ := n2
    rw [List.nodup_append] at n4
    obtain ⟨n7, n8, n9⟩ := n4
    rcases List.mem_append.1 hb with hb | hb
    · exact ⟨fun h => n3 b hb b (by simp [h]) rfl, by simp [hb]⟩
    · rcases List.mem_append.1 hb with hb | hb
      · exact ⟨fun h => n9 b hb b h rfl, by simp [hb]⟩
      · exact ⟨fun h => n6 b (by simp [h]) b hb rfl, by simp [hb]⟩
  have hO' := h3 w' y0 bs' (fun b hb => hkeep b (hdis b (List.mem_append_right _ hb)).2 (hdis b (List.mem_append_right _ hb)).1) r1
  have hB := hback w' _ _ (fun b hb => hkeep b (hdis b (List.mem_append_left _ hb)).2 (hdis b (List.mem_append_left _ hb)).1) hO' (fun _ => rfl) rfl
  have hold : ∀ b, b ∈ bs' → b ∈ mb id ∨ (w.heap.size ≤ b ∧ b < w'.heap.size) := fun b hb => (r3 b hb).imp (fun h => by rw [e1, e2]; simp [h]) fun h => h
  refine hK _ _ (kk _ _ ?_)
  refine hi.renew id (Anew.same id β) (fun _ => False) (pre ++ (b1 ++ bs' ++ b3)) (setV j y0 blk) (some (t, .int .i64 r, .t (.int r))) rfl ?_ r4 r5 r6 r7
    (fun b hb h => r8 b hb fun h2' => (h _ (hi.omem id b (by rw [e1, e2]; simp [h2']))).2 rfl) ?_ (by simp [lookM]) hB ?_ ?_ ?_
  · rintro t' v d h
    cases h
    exact ⟨ht, .t (.v rfl .nil) .done, by simp [look]⟩
  · intro v hv
    have := hv _ _ _ rfl
    exact .inl ⟨by simp [look, Ne.symm this], by simp⟩
  · have hsub : List.Sublist (pre ++ (b1 ++ b3)) (pre ++ (b1 ++ b2 ++ b3)) := by
      refine List.Sublist.append (List.Sublist.refl _) ?_
      rw [List.append_assoc]
      exact List.Sublist.append (List.Sublist.refl _) (List.sublist_append_right _ _)
    have n0 := hnd2.sublist hsub
    have := nodup_splice (b1 := pre ++ b1) (b3 := b3) (bs := pre ++ (b1 ++ b3)) (bs' := bs') (by simp) n0 r2 (fun b hb h => by
      rcases r3 b h with h | h
      · exact (hdis b hb).1 h
      · have := hin b (hdis b hb).2; omega)
    simpa using this
  · intro b hb
    rcases List.mem_append.1 hb with h | h
    · exact .inr ⟨_, hi.omem id b (by rw [e1]; simp [h]), .inr rfl⟩
    · rcases List.mem_append.1 h with h | h
      · rcases List.mem_append.1 h with h | h
        · exact .inr ⟨_, hi.omem id b (by rw [e1, e2]; simp [h]), .inr rfl⟩
        · rcases hold b h with h | h
          · exact .inr ⟨_, hi.omem id b h, .inr rfl⟩
          · exact .inl h
      · exact .inr ⟨_, hi.omem id b (by rw [e1, e2]; simp [h]), .inr rfl⟩
  · intro i' hi'
    simp only [lookM, if_neg (Ne.symm hi')]
    exact .inr ⟨by simp, by cases lookM s.M i' <;> rfl⟩


/-- How a walk of such a function must end. -/
def EndsM (fn : Func) (r : Int) (id : Nat) (p : Blk → Prop) : Exit → St → Prop
  | .normal, s | .ret, s => ∃ u, fn.results.toList = [.tmp u] ∧ look s.fr u = .t (.int r) ∧ ∃ blk, lookM s.M id = some blk ∧ p blk
  | _, _ => False

/-- From a walk to what the function does, whatever it was given in known cells. -/
theorem mark_run {f : FuncId} {fn : Func} {code : Code} (hf : P.funcs[f]? = some fn) (hb : fn.body = some code) (hname : (fn.name == "runtime.NumGoroutine") = false) {N : Nat} (hN : 2 + (fn.ntmps - 2) = N) {d : D} {k r : Int} {blk : Blk} {p : Blk → Prop}
    (hwalk : ∀ w0 G F0, W P ⟨w0, G, F0, N⟩ code ⟨[(0, d), (1, .t (.int k))], [(N, blk)]⟩ (EndsM fn r N p)) (w : World) (v : Value) (bs : List Nat) (hv : RelD w (fun _ => False) (fun _ => none) [v] [d] []) (hB : RelB w (fun _ => False) (fun _ => none) N blk bs)
    (hnd : bs.Nodup) (hlt : ∀ b, b ∈ bs → b < w.heap.size) :
    Calls P f #[v, .int .i64 k] w fun e w' => e = .returned (.int .i64 r) ∧ ∃ blk' F' β' bs', p blk' ∧ RelB w' F' β' N blk' bs' ∧ bs'.Nodup ∧ (∀ b, b ∈ bs' → b ∈ bs ∨ (w.heap.size ≤ b ∧ b < w'.heap.size)) ∧
      w'.os = w.os ∧ w'.tape = w.tape ∧ w'.output = w.output ∧ w.heap.size ≤ w'.heap.size ∧ ∀ b, b < w.heap.size → b ∉ bs → w'.heap[b]? = w.heap[b]? := by
  classical
  refine calls_of_wp hf hb ?_
  have h0 : Is ⟨w, fun b => b ∈ bs, fun _ => False, N⟩ ⟨[(0, d), (1, .t (.int k))], [(N, blk)]⟩ { tmps := #[v, .int .i64 k] ++ Array.replicate (fn.ntmps - 2) undef, defers := [] } w := by
    refine ⟨fun _ => False, fun _ => none, fun _ => [], fun id => if id = N then bs else [], fun b => if b ∈ bs then some (.inr N) else none, ?_⟩
    exact {
      fr := fun t => by
        match t with
        | 0 => simpa [look, Array.getD, show 0 < 2 + (fn.ntmps - 2) from by omega] using hv
        | 1 => simpa [look, Array.getD, show 1 < 2 + (fn.ntmps - 2) from by omega] using (RelD.t (.v rfl .nil) .done : RelD w (fun _ => False) (fun _ => none) [.int .i64 k] [.t (.int k)] [])
        | t + 2 => simp only [look]; exact .top .done
      mem := fun id => by
        simp only [lookM]
        by_cases h : N = id
        · subst h; simp only [if_true]; exact hB
        · rw [if_neg h]; simp only [if_neg (Ne.symm h)]
      ofr := by simp
      omem := fun id b hb => by
        split at hb
        · rename_i e; rw [if_pos hb, e]
        · cases hb
      nfr := by simp
      nmem := fun id => by split <;> simp [hnd]
      own := fun b hb => by
        split at hb
        · rename_i h; exact ⟨by simp, hlt b h, .inr h⟩
        · exact absurd rfl hb
      fin := by simp
      f0 := by simp
      fnew := by simp
      f0in := by simp
      gin := hlt
      os := rfl
      tape := rfl
      output := rfl
      size := Nat.le_refl _
      keep := fun _ _ _ => rfl
      defers := rfl
      tmps := by simp [← hN] }
  have h1 : ({ tmps := #[v, .int .i64 k] ++ Array.replicate (fn.ntmps - (#[v, Value.int .i64 k] : Array Value).size) undef, defers := [] } : Act) = { tmps := #[v, .int .i64 k] ++ Array.replicate (fn.ntmps - 2) undef, defers := [] } := rfl
  refine Code.wp_mono ?_ (hwalk w _ _ _ _ h0)
  rintro e a' w' ⟨s', ⟨F', β, fb, mb, ow, hi⟩, hq⟩
  have key : (∃ u, fn.results.toList = [.tmp u] ∧ look s'.fr u = .t (.int r) ∧ ∃ blk, lookM s'.M N = some blk ∧ p blk) → a'.defers = [] ∧ ∃ v, (results fn a'.tmps).run P w' = .ok v w' ∧
      (Ending.returned v = .returned (.int .i64 r) ∧ ∃ blk' F' β' bs', p blk' ∧ RelB w' F' β' N blk' bs' ∧ bs'.Nodup ∧ (∀ b, b ∈ bs' → b ∈ bs ∨ (w.heap.size ≤ b ∧ b < w'.heap.size)) ∧
      w'.os = w.os ∧ w'.tape = w.tape ∧ w'.output = w.output ∧ w.heap.size ≤ w'.heap.size ∧ ∀ b, b < w.heap.size → b ∉ bs → w'.heap[b]? = w.heap[b]?) := by
    rintro ⟨u, h2, h3, blk', h4, h5⟩
    have hr := hi.fr u
    rw [h3] at hr
    have e1 := relD_t hr
    have hm := hi.mem N
    rw [h4] at hm
    refine ⟨hi.defers, .int .i64 r, ?_, rfl, blk', F', β, mb N, h5, hm, hi.nmem N, fun b hb => ?_, hi.os, hi.tape, hi.output, hi.size, fun b hb hn => hi.keep b hb hn⟩
    · have := results_run (P := P) fn a'.tmps (vs := [.int .i64 r]) (w := w') (by rw [h2]; simp [resRun, e1])
      simpa using this
    · obtain ⟨_, h7, h8⟩ := hi.own b (by rw [hi.omem N b hb]; simp)
      exact h8.symm.imp (fun h => h) fun h => ⟨h, h7⟩
  cases e with
  | normal => exact key hq
  | ret => exact key hq
  | _ => exact hq.elim


theorem RelL.nilP {w : World} {F : Nat → Prop} {u : Value} {n : Nat} (h : ∃ bs, OwnL w [u] [.list n []] bs) : RelL w F [u] [.list n []] := by
  obtain ⟨bs, h⟩ := h
  generalize hx : T.list n [] = x at h
  cases h with
  | v h1 h2 => cases hx
  | none h => cases h; cases hx; exact .none .nil
  | list h1 h2 h3 h4 h5 h6 h7 h8 =>
    cases h8
    injection hx with hx1 hx2
    subst hx1; subst hx2
    exact .none .nil

/-- A function that writes a slice anew, from its walk. -/
theorem MarkF.slice {f : FuncId} {fn : Func} {code : Code} (hf : P.funcs[f]? = some fn) (hb : fn.body = some code) (hname : (fn.name == "runtime.NumGoroutine") = false) {N : Nat} (hN : 2 + (fn.ntmps - 2) = N) {n : Nat} {xs ys : List T} {k r : Int}
    (hyn : ∀ y, y ∈ ys → y.cells.length = n) (hlen : ys.length = xs.length) (hnil : xs = [] → Fun P f [.t (.list n []), .t (.int k)] (.t (.int r)))
    (hwalk : ∀ b cap vs w0 G F0, W P ⟨w0, G, F0, N⟩ code ⟨[(0, .t (.v (.slice (some ⟨b, 0, none⟩) xs.length cap))), (1, .t (.int k))], [(N, .raw b (cap * n) vs (xs.flatMap T.cells))]⟩
      (EndsM fn r N fun blk => ∃ vs', blk = .raw b (cap * n) vs' (ys.flatMap T.cells))) : MarkF P f (.list n xs) k r (.list n ys) := by
  refine ⟨⟨fn, hf, by rw [hb]; rfl, hname⟩, fun w v bs hv hO hnd hlt => ?_⟩
  dsimp only at hv
  rw [hv] at hO
  have hO : OwnL w [v] [.list n xs] bs := hO
  by_cases hx : xs = []
  · subst hx
    have hy : ys = [] := by cases ys with
      | nil => rfl
      | cons _ _ => simp at hlen
    subst hy
    refine ((hnil rfl).2 w (fun _ => False) #[v, .int .i64 k] (by simp) (by simpa using RelD.t (RelL.nilP ⟨bs, hO⟩) (RelD.t (.v rfl .nil) .done))).mono ?_
    rintro e w' ⟨v', F', bs', rfl, hbe, _, _, hr, _, _⟩
    have e1 := relD_t hr
    subst e1
    refine ⟨rfl, bs, ?_, hnd, fun b hb => .inl hb, hbe.os, hbe.tape, hbe.output, hbe.size, fun b hb _ => hbe.block b hb⟩
    rw [hv]
    exact hO.mono fun b hb => hbe.block b (hlt b hb)
  · generalize hxe : T.list n xs = x at hO
    cases hO with
    | v h1 h2 => cases hxe
    | none h => injection hxe with h1 h2; exact absurd h2 hx
    | list h1 h2 h3 h4 h5 h6 h7 h8 =>
      rename_i b cap n' cs xs' arr e b1 b2
      injection hxe with g1 g2
      subst g1; subst g2
      cases h8
      rw [List.append_nil] at hnd hlt
      have hcl : cs.length = xs.length * n := by rw [h7.length, flat_length h4]
      refine (mark_run hf hb hname hN (hwalk b cap cs) w _ (b :: b1) (.t (.v rfl .nil) .done) ⟨arr, e, b1, h1, h2, by rw [hcl]; exact h3, h7, rfl⟩ hnd hlt).mono ?_
      rintro e' w' ⟨rfl, blk', F', β', bs', ⟨vs', rfl⟩, hB, q1, q2, q3, q4, q5, q6, q7⟩
      obtain ⟨arr', e2, b3, p1, p2, p3, p4, rfl⟩ := hB
      refine ⟨rfl, b :: b3, ?_, q1, fun b' hb' => by rw [List.append_nil]; exact q2 b' hb', q3, q4, q5, q6, fun b' hb' hn => q7 b' hb' (by simpa using hn)⟩
      rw [hv]
      have hvl : vs'.length = ys.length * n := by rw [p4.length, flat_length hyn]
      have := OwnL.list (vs := []) (ts := []) (bs' := []) (xs := ys) (cap := cap) (n := n) p1 p2 (by rw [← hvl]; exact p3) hyn (by omega) h6 p4 .nil
      rw [hlen, List.append_nil] at this
      exact this

/-- A function that writes what a struct leads to, from its walk. -/
theorem MarkF.struct {f : FuncId} {fn : Func} {code : Code} (hf : P.funcs[f]? = some fn) (hb : fn.body = some code) (hname : (fn.name == "runtime.NumGoroutine") = false) {N : Nat} (hN : 2 + (fn.ntmps - 2) = N) {l l' : List T} {k r : Int}
    (hwalk : ∀ vs : List Value, vs.length = l.length → vs.all (·.oneCell') = true → ∀ w0 G F0, W P ⟨w0, G, F0, N⟩ code ⟨[(0, .agg (vs.map fun u => .t (.v u))), (1, .t (.int k))], [(N, .rawV vs l)]⟩
      (EndsM fn r N fun blk => blk = .rawV vs l')) : MarkF P f (.agg l) k r (.agg l') := by
  refine ⟨⟨fn, hf, by rw [hb]; rfl, hname⟩, fun w v bs hv hO hnd hlt => ?_⟩
  obtain ⟨arr, rfl⟩ := hv
  have hO : OwnL w arr.toList l bs := by simpa [Value.cells, T.cells] using hO
  have hone := hO.one
  have hrel : RelD w (fun _ => False) (fun _ => none) arr.toList (arr.toList.map fun u => D.t (.v u)) [] := by
    have : ∀ vs : List Value, vs.all (·.oneCell') = true → RelD w (fun _ => False) (fun _ => none) vs (vs.map fun u => D.t (.v u)) [] := by
      intro vs
      induction vs with
      | nil => intro _; exact .done
      | cons u vs ih => intro h; rw [List.all_cons, Bool.and_eq_true] at h; exact .t (.v h.1 .nil) (ih h.2)
    exact this _ hone
  refine (mark_run hf hb hname hN (hwalk arr.toList hO.length hone) w (.agg arr) bs (by simpa using RelD.agg hone hrel .done) hO hnd hlt).mono ?_
  rintro e' w' ⟨rfl, blk', F', β', bs', rfl, hB, q⟩
  have hB : OwnL w' arr.toList l' bs' := hB
  exact ⟨rfl, bs', by simpa [Value.cells, T.cells] using hB, q⟩

end
end Go.Eng
