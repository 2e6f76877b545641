/- The abstract machine's rules for slices that the call makes. -/
import Derived.Test.YtbkamkmmljbedaaEng2
set_option linter.unusedVariables false
set_option linter.unusedSimpArgs false
namespace Go.Eng
open Go.RowKit

theorem OwnL.length {w : World} {vs ts bs} (h : OwnL w vs ts bs) : vs.length = ts.length := by
  induction h <;> simp_all

theorem OwnL.cons {w : World} {x vs t ts bs} (h : OwnL w (x :: vs) (t :: ts) bs) : ∃ b1 b2, OwnL w [x] [t] b1 ∧ OwnL w vs ts b2 ∧ bs = b1 ++ b2 := by
  cases h with
  | v h1 h2 => exact ⟨[], _, .v h1 .nil, h2, rfl⟩
  | none h => exact ⟨[], _, .none .nil, h, rfl⟩
  | list h1 h2 h3 h4 h5 h6 h7 h8 => exact ⟨_ :: _ ++ [], _, .list h1 h2 h3 h4 h5 h6 h7 .nil, h8, by simp⟩

theorem OwnL.cons' {w : World} {x vs t ts b1 b2} (h : OwnL w [x] [t] b1) (k : OwnL w vs ts b2) : OwnL w (x :: vs) (t :: ts) (b1 ++ b2) := by
  cases h with
  | v h1 h2 => cases h2; exact .v h1 k
  | none h => cases h; exact .none k
  | list h1 h2 h3 h4 h5 h6 h7 h8 => cases h8; simpa using OwnL.list h1 h2 h3 h4 h5 h6 h7 k

theorem OwnL.append {w : World} : ∀ {vs ts bs vs' ts' bs'}, OwnL w vs ts bs → OwnL w vs' ts' bs' → OwnL w (vs ++ vs') (ts ++ ts') (bs ++ bs')
  | [], [], _, _, _, _, h, k => by cases h; exact k
  | [], _ :: _, _, _, _, _, h, _ => by cases h
  | _ :: _, [], _, _, _, _, h, _ => by cases h
  | _ :: _, _ :: _, _, _, _, _, h, k => by
    obtain ⟨b1, b2, h1, h2, rfl⟩ := h.cons
    rw [List.append_assoc]
    exact OwnL.cons' h1 (OwnL.append h2 k)

theorem OwnL.split {w : World} : ∀ {vs ts bs} (k : Nat), OwnL w vs ts bs → ∃ b1 b2, bs = b1 ++ b2 ∧ OwnL w (vs.take k) (ts.take k) b1 ∧ OwnL w (vs.drop k) (ts.drop k) b2
  | _, _, bs, 0, h => ⟨[], bs, rfl, by simpa using OwnL.nil, h⟩
  | [], [], _, _ + 1, h => by cases h; exact ⟨[], [], rfl, .nil, .nil⟩
  | [], _ :: _, _, _, h => by cases h
  | _ :: _, [], _, _, h => by cases h
  | _ :: _, _ :: _, _, k + 1, h => by
    obtain ⟨b1, b2, h1, h2, rfl⟩ := h.cons
    obtain ⟨b3, b4, rfl, h3, h4⟩ := OwnL.split k h2
    exact ⟨b1 ++ b3, b4, by simp, OwnL.cons' h1 h3, h4⟩

theorem OwnL.splice {w : World} {vs ts bs vs' ts' bs'} (h : OwnL w vs ts bs) (h' : OwnL w vs' ts' bs') (off : Nat) :
    ∃ b1 b3, List.Sublist (b1 ++ b3) bs ∧ OwnL w (Eng.splice vs off vs') (Eng.splice ts off ts') (b1 ++ bs' ++ b3) := by
  obtain ⟨b1, b2, rfl, h1, h2⟩ := h.split off
  obtain ⟨b3, b4, rfl, _, h4⟩ := h2.split ts'.length
  refine ⟨b1, b4, by simp, (h1.append h').append ?_⟩
  rw [h'.length]
  simpa [List.drop_drop] using h4

theorem OwnL.one {w : World} : ∀ {vs ts bs}, OwnL w vs ts bs → vs.all (·.oneCell') = true
  | _, _, _, .nil => rfl
  | _, _, _, .v h1 h2 => by rw [List.all_cons, h1, h2.one]; rfl
  | _, _, _, .none h => by rw [List.all_cons, h.one]; rfl
  | _, _, _, .list _ _ _ _ _ _ _ h => by rw [List.all_cons, h.one]; rfl

/-- What a cell of an own slice is known to hold when it is loaded. -/
def scal : T → D
  | .v x => .t (.v x)
  | _ => .top

theorem OwnL.scals {w : World} {F : Nat → Prop} {β : Place} : ∀ {vs ts bs}, OwnL w vs ts bs → RelD w F β vs (ts.map scal) []
  | _, _, _, .nil => .done
  | _, _, _, .v h1 h2 => .t (.v h1 .nil) h2.scals
  | _, _, _, .none h => .top h.scals
  | _, _, _, .list _ _ _ _ _ _ _ h => .top h.scals

/-- What is owned can be read. -/
theorem OwnL.rel {w : World} {F : Nat → Prop} {vs ts bs} (h : OwnL w vs ts bs) (hF : ∀ b, b ∈ bs → F b) : RelL w F vs ts := by
  induction h with
  | nil => exact .nil
  | v h1 _ ih => exact .v h1 (ih hF)
  | none _ ih => exact .none (ih hF)
  | list h1 h2 h3 h4 h5 h6 _ _ ih1 ih2 =>
    rename_i b cap n cs xs arr e vs ts bs bs' _ _
    refine .list (o := 0) (hF _ (by simp)) h1 (fun k hk => ?_) h4 h5 (ih1 fun b hb => hF b (by simp [hb])) (ih2 fun b hb => hF b (by simp [hb]))
    subst h3
    rw [List.length_take] at hk
    rw [List.getElem?_take, if_pos (by omega)]
    simp

/-- What of a store's cells becomes the slice's own. -/
def AbsD : D → T → Prop
  | .t (.v x), .v y => x = y
  | .own a, b => a = b
  | .nil, .list _ l => l = []
  | _, _ => False

def AbsL : List D → List T → Prop
  | [], [] => True
  | d :: ds, t :: ts => AbsD d t ∧ AbsL ds ts
  | _, _ => False

theorem absD {w : World} {F : Nat → Prop} {β : Place} {x d bs t} (h : RelD w F β [x] [d] bs) (ha : AbsD d t) : OwnL w [x] [t] bs := by
  unfold AbsD at ha
  split at ha
  · subst ha
    cases h with
    | t h1 h2 => cases h2; cases h1 with | v h3 h4 => exact .v h3 .nil
  · subst ha
    cases h with
    | own h1 h2 => cases h2; simpa using h1
  · subst ha
    cases h with
    | nil h => cases h; exact .none .nil
  · exact ha.elim

theorem absL {w : World} {F : Nat → Prop} {β : Place} : ∀ {vs ds bs ts}, RelD w F β vs ds bs → AbsL ds ts → OwnL w vs ts bs
  | [], [], _, [], h, _ => by cases h; exact .nil
  | [], [], _, _ :: _, _, h => h.elim
  | [], _ :: _, _, _, h, _ => by cases h
  | _ :: _, [], _, _, h, _ => by cases h
  | _ :: _, _ :: _, _, [], _, h => h.elim
  | _ :: _, _ :: _, _, _ :: _, h, ha => by
    obtain ⟨b1, b2, h1, h2, rfl⟩ := h.cons
    exact OwnL.cons' (absD h1 ha.1) (absL h2 ha.2)

section
variable {P : Program} {c : Ctx} {s : St} {Q : Exit → St → Prop} {ops : Array Oper} {rest : List Oper} {o : Oper}

/-- A cell of an element of an own slice. -/
theorem WO_loadL {Γ : Tys} (hΓ : Γ.ok P) {ty t id i off n : Nat} {x : Operand} {ti : TI} {xs : List T} {y : T} {d : D} (hg : o.guard = none) (hd : o.dst = some t) (ht : t < c.n) (ho : o.op = .load ty x)
    (h1 : tyOf Γ ty = some ti) (hx : opd s.fr x = .ref id i off) (hM : lookM s.M id = some (.L n xs)) (hy : xs[i]? = some y) (hp : partD ti.kind ti.size (y.cells.map scal) off = some d)
    (k : WO P c ops rest ⟨(t, d) :: s.fr, s.M⟩ Q) : WO P c ops (o :: rest) s Q := by
  refine WO_val hg hd ht d (fun a w F β fb mb ow hi => ?_) k
  obtain ⟨bx, hrx, _⟩ := hi.opd x
  rw [hx] at hrx
  have hm := hi.mem id
  rw [hM] at hm
  have hlt := (List.getElem?_eq_some_iff.1 hy).1
  rcases hm with ⟨_, hn, _⟩ | ⟨b, cap, arr, e, bs', q1, q2, q3, q4, q5, q6, q7, _⟩
  · subst hn; simp at hlt
  generalize hev : a.eval x = xv at hrx
  cases hrx with
  | ref r1 r2 =>
    rw [q1] at r1
    cases r1
    have hfl := flat_get q4 hy
    obtain ⟨c1, c2, _, _, hd1⟩ := q7.split (i * n)
    obtain ⟨c3, c4, _, hd2, _⟩ := hd1.split n
    rw [hfl] at hd2
    have hsz : (y.cells).length = n := q4 y (List.mem_of_getElem? hy)
    have hmul : i * n + n ≤ xs.length * n := by rw [← Nat.succ_mul]; exact Nat.mul_le_mul_right n hlt
    obtain ⟨v, h6, h7⟩ := run_load_part (β := β) (F := F) (o := i * n) (off := off) (hΓ.get h1) q2 (cs := ((arr.toList.take (xs.length * n)).drop (i * n)).take n) (fun k hk => by
      simp only [List.length_take, List.length_drop] at hk
      simp only [List.getElem?_take, List.getElem?_drop]
      rw [if_pos (by omega), if_pos (by omega)]
      simp) hd2.one hd2.scals hp
    refine ⟨v, ?_, h7⟩
    simp [execOp, ho, hev, h6]

/-- An element with some of its cells new. -/
def T.put : T → Nat → List T → T
  | .agg l, off, ts => .agg (splice l off ts)
  | x, _, t :: _ => t
  | x, _, [] => x

theorem flat_set {n : Nat} : ∀ {xs : List T} (hw : ∀ x, x ∈ xs → (T.cells x).length = n) {i : Nat} {y z : T}, xs[i]? = some y → z.cells.length = n → ∀ {off : Nat} {ts : List T}, off + ts.length ≤ n → z.cells = splice y.cells off ts →
    (xs.set i z).flatMap T.cells = splice (xs.flatMap T.cells) (i * n + off) ts
  | [], _, _, _, _, h, _, _, _, _, _ => by simp at h
  | x :: xs, hw, 0, y, z, h, _, off, ts, hle, hz => by
    simp at h; subst h
    have hx := hw x (by simp)
    simp only [List.set_cons_zero, List.flatMap_cons, Nat.zero_mul, Nat.zero_add, hz, splice]
    rw [List.take_append_of_le_length (by omega), List.drop_append_of_le_length (by omega)]
    simp
  | x :: xs, hw, i + 1, y, z, h, h1, off, ts, hle, hz => by
    have hx := hw x (by simp)
    have ih := flat_set (xs := xs) (fun z hz => hw z (by simp [hz])) (i := i) (by simpa using h) h1 hle hz
    simp only [List.set_cons_succ, List.flatMap_cons, ih, splice]
    have e : (i + 1) * n + off = x.cells.length + (i * n + off) := by rw [hx, Nat.succ_mul]; omega
    rw [e, List.take_length_add_append, show x.cells.length + (i * n + off) + ts.length = x.cells.length + (i * n + off + ts.length) from by omega, List.drop_length_add_append]
    simp [List.append_assoc]

theorem put_cells {y : T} {off : Nat} {ts : List T} {n : Nat} (hn : y.cells.length = n) (h0 : 0 < ts.length) (hle : off + ts.length ≤ n) (h1 : ∀ t, t ∈ ts → ∀ l, t ≠ .agg l) : (y.put off ts).cells = splice y.cells off ts := by
  cases y with
  | agg l => rfl
  | v x =>
    match ts, h0 with
    | t :: ts', _ =>
      simp [T.cells] at hn
      have : ts' = [] := by cases ts' with | nil => rfl | cons _ _ => simp at hle; omega
      subst this
      have hoff : off = 0 := by simp at hle; omega
      subst hoff
      simp only [T.put, splice, T.cells]
      cases t with
      | agg l => exact absurd rfl (h1 _ (by simp) l)
      | _ => rfl
  | list k l =>
    match ts, h0 with
    | t :: ts', _ =>
      simp [T.cells] at hn
      have : ts' = [] := by cases ts' with | nil => rfl | cons _ _ => simp at hle; omega
      subst this
      have hoff : off = 0 := by simp at hle; omega
      subst hoff
      simp only [T.put, splice, T.cells]
      cases t with
      | agg l => exact absurd rfl (h1 _ (by simp) l)
      | _ => rfl

theorem OwnL.noAgg {w : World} : ∀ {vs ts bs}, OwnL w vs ts bs → ∀ t, t ∈ ts → ∀ l, t ≠ .agg l
  | _, _, _, .nil, _, h, _ => by cases h
  | _, _, _, .v _ h2, t, h, l => by
    rcases List.mem_cons.1 h with rfl | h
    · simp
    · exact h2.noAgg t h l
  | _, _, _, .none h2, t, h, l => by
    rcases List.mem_cons.1 h with rfl | h
    · simp
    · exact h2.noAgg t h l
  | _, _, _, .list _ _ _ _ _ _ _ h2, t, h, l => by
    rcases List.mem_cons.1 h with rfl | h
    · simp
    · exact h2.noAgg t h l

/-- A store into an element of an own slice. -/
theorem WO_storeL {Γ : Tys} (hΓ : Γ.ok P) {ty id i off n : Nat} {x y : Operand} {ti : TI} {xs : List T} {z : T} {ds : List D} (ts : List T) (hg : o.guard = none) (hd : o.dst = none) (ho : o.op = .store ty x y)
    (h1 : tyOf Γ ty = some ti) (hx : opd s.fr x = .ref id i off) (hM : lookM s.M id = some (.L n xs)) (hz : xs[i]? = some z) (hy : boxD (opd s.fr y) = some ds) (habs : AbsL ds ts)
    (hl : ds.length = ti.size) (hpos : 0 < ti.size) (hle : off + ds.length ≤ n)
    (k : WO P c ops rest ⟨eat y (opd s.fr y) s.fr, (id, .L n (xs.set i (z.put off ts))) :: s.M⟩ Q) : WO P c ops (o :: rest) s Q := by
  rintro a w ⟨F, β, fb, mb, ow, hi⟩
  obtain ⟨bs, hr, hnd, hbs⟩ := hi.opdOwn y
  obtain ⟨h3, h4⟩ := hr.boxD hy
  have h5 := absL h3 habs
  obtain ⟨bx, hrx, _⟩ := hi.opd x
  rw [hx] at hrx
  have hm := hi.mem id
  rw [hM] at hm
  have hlt := (List.getElem?_eq_some_iff.1 hz).1
  rcases hm with ⟨_, hn, _⟩ | ⟨b, cap, arr, e, bs1, q1, q2, q3, q4, q5, q6, q7, hb5⟩
  · subst hn; simp at hlt
  have hmb : b ∈ mb id := by rw [hb5]; simp
  have hob := hi.omem id b hmb
  have hlen := h3.length
  have hlt2 := h5.length
  simp only [Array.length_toList] at hlen hlt2
  have hsz : z.cells.length = n := q4 z (List.mem_of_getElem? hz)
  have hput := put_cells (off := off) hsz (ts := ts) (by omega) (by omega) h5.noAgg
  have hputl : (z.put off ts).cells.length = n := by rw [hput, length_splice (by omega)]; exact hsz
  have hmul : i * n + n ≤ xs.length * n := by rw [← Nat.succ_mul]; exact Nat.mul_le_mul_right n hlt
  have hcap : xs.length * n ≤ cap * n := Nat.mul_le_mul_right n q5
  generalize hev : a.eval x = xv at hrx
  cases hrx with
  | ref r1 r2 =>
    rw [q1] at r1
    cases r1
    refine wpList_plain hg fun K hK => ?_
    unfold Oper.wp
    have hrun : (execOp a.eval o).run P w = .ok .skip (w.setRow b (splice arr.toList (i * n + off) (a.eval y).cells.toList).toArray) := by
      have := run_storeAt (hΓ.get h1) (off := i * n + off) q2 (by rw [hlen, hl]) h4 (by omega)
      simp only [execOp, ho, hev, Sem.run_bind, this, Result.andThen_ok]
      rfl
    rw [hrun, Oper.upon_skip, hd]
    refine hK _ _ (k _ _ ?_)
    have hkeep : ∀ b', b' ≠ b → (w.setRow b (splice arr.toList (i * n + off) (a.eval y).cells.toList).toArray).heap[b']? = w.heap[b']? := fun b' h => setRow_other w b b' _ h
    have hbF : ¬ F b := (hi.own b (by simp [hob])).1
    obtain ⟨b1, b3, hs, hsp⟩ := q7.splice h5 (i * n + off)
    have hbnot : ∀ b', b' ∈ bs → b' ≠ b := fun b' h e => by
      subst e
      obtain ⟨z, h5, _, u, _, h6⟩ := hbs _ h
      rw [hob] at h5
      cases h5
      cases h6
    have hnd1 := hi.nmem id
    rw [hb5] at hnd1
    have hbnot1 : ∀ b', b' ∈ bs1 → b' ≠ b := fun b' h e => by subst e; exact (List.nodup_cons.1 hnd1).1 h
    have hdis : ∀ b', b' ∈ bs1 → b' ∉ bs := fun b' h h' => by
      obtain ⟨z, h5, _, u, _, h6⟩ := hbs _ h'
      have := hi.omem id b' (by rw [hb5]; simp [h])
      rw [this] at h5
      cases h5
      cases h6
    have hinall : ∀ b', b' ∈ b1 ++ bs ++ b3 → b' ≠ b := fun b' h => by
      rcases List.mem_append.1 h with h | h
      · rcases List.mem_append.1 h with h | h
        · exact hbnot1 b' (hs.subset (by simp [h]))
        · exact hbnot b' h
      · exact hbnot1 b' (hs.subset (by simp [h]))
    refine hi.renew id (Anew.same id β) (eats y (opd s.fr y)) (b :: (b1 ++ bs ++ b3)) (.L n (xs.set i (z.put off ts))) none rfl (by simp) rfl rfl rfl (by simp)
      (fun b' hb' h => hkeep b' fun e => (h _ (e ▸ hob)).2 rfl) ?_ (by simp [lookM]) ?_ ?_ ?_ ?_
    · intro u _
      rcases look_eat y (opd s.fr y) s.fr u with ⟨h5, h6⟩ | h5
      · exact .inl ⟨h5, h6⟩
      · exact .inr h5
    · have hal : (splice arr.toList (i * n + off) (a.eval y).cells.toList).length = arr.toList.length := length_splice (by simp; omega)
      refine .inr ⟨b, cap, _, e, _, q1, setRow_heap w b arr _ e _ q2, by simpa [hal] using q3, fun x hx => ?_, by simpa using q5, q6, ?_, rfl⟩
      · rcases List.mem_or_eq_of_mem_set hx with hx | rfl
        · exact q4 x hx
        · exact hputl
      · rw [flat_set q4 hz hputl (by omega) hput]
        have e1 : (splice arr.toList (i * n + off) (a.eval y).cells.toList).toArray.toList.take ((xs.set i (z.put off ts)).length * n) = splice (arr.toList.take (xs.length * n)) (i * n + off) (a.eval y).cells.toList := by
          simp only [List.length_set, splice, Array.length_toList]
          rw [List.take_append, List.take_append, List.take_take, Nat.min_eq_right (by omega), List.take_take, Nat.min_eq_left (by omega)]
          congr 1
          · congr 1
            · rw [List.take_of_length_le]
              simp; omega
          · simp only [List.length_append, List.length_take, Array.length_toList]
            rw [List.drop_take]
            congr 1
            omega
        rw [e1]
        exact hsp.mono fun b' h => hkeep b' (hinall b' h)
    · exact List.nodup_cons.2 ⟨fun h => hinall b h rfl, nodup_splice hs (List.nodup_cons.1 hnd1).2 hnd hdis⟩
    · intro b' h
      rcases List.mem_cons.1 h with rfl | h
      · exact .inr ⟨_, hob, .inr rfl⟩
      · rcases List.mem_append.1 h with h | h
        · rcases List.mem_append.1 h with h | h
          · exact .inr ⟨_, hi.omem id b' (by rw [hb5]; exact List.mem_cons_of_mem _ (hs.subset (by simp [h]))), .inr rfl⟩
          · obtain ⟨z, h5, h6⟩ := hbs b' h
            exact .inr ⟨z, h5, .inl h6⟩
        · exact .inr ⟨_, hi.omem id b' (by rw [hb5]; exact List.mem_cons_of_mem _ (hs.subset (by simp [h]))), .inr rfl⟩
    · intro id' hid
      simp only [lookM, if_neg (Ne.symm hid)]
      refine .inr ⟨(by rintro ⟨_, u, _, h⟩; cases h), ?_⟩
      cases lookM s.M id' <;> rfl

end
end Go.Eng
