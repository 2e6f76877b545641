/- The abstract machine's rules for append, for parts of slices, and for the telling anew of what is owned. -/
import Derived.Test.YtbkamkmmljbedaaEng4
set_option linter.unusedVariables false
set_option linter.unusedSimpArgs false
namespace Go.Eng
open Go.RowKit

section
variable {P : Program} {c : Ctx} {s : St} {Q : Exit → St → Prop} {ops : Array Oper} {rest : List Oper} {o : Oper}

/-! ### append -/

theorem run_app_none {ty e : Nat} {ti te : TI} (ht : ti.ok P ty) (hk : ti.kind = .slice e) (he : te.ok P e) (w : World) (u : Nat) (a1 a2 : Option Addr) (len k k2 : Nat) (hle : len ≤ k) :
    (Builtin.append_ #[ty, ty] u #[.slice a1 len k, .slice a2 0 k2]).run P w = .ok (.slice a1 len k) w := by
  obtain ⟨_, h2⟩ := ht
  rw [hk] at h2
  have hf : (Builtin.firstCells te.size 0 (.slice a2 0 k2)).run P w = .ok #[] w := by
    cases a2 with
    | none => simp [Builtin.firstCells]
    | some ad => simp [Builtin.firstCells, loadCells, loadCellsFrom]
  simp only [Builtin.append_]
  simp [run_underlying h2.2, run_sizeOf he, Builtin.lenOf, hle, hf]
  cases a1 <;> simp [storeCells]

theorem run_app_room {ty e : Nat} {ti te : TI} (ht : ti.ok P ty) (hk : ti.kind = .slice e) (he : te.ok P e) (w : World) (u b len k m k2 : Nat) (a2 : Addr) {arr : Array Value} {e' : TypeId} {news : List Value}
    (hh : w.heap[b]? = some (.cells arr e' (0, 0))) (hn : news.length = m * te.size) (hnews : ∀ j v, news[j]? = some v → w.cell? (a2.add j) = some v) (hone : news.all (·.oneCell') = true)
    (hroom : len + m ≤ k) (hfit : len * te.size + news.length ≤ arr.size) :
    (Builtin.append_ #[ty, ty] u #[.slice (some ⟨b, 0, none⟩) len k, .slice (some a2) m k2]).run P w = .ok (.slice (some ⟨b, 0, none⟩) (len + m) k) (w.setRow b (splice arr.toList (len * te.size) news).toArray) := by
  obtain ⟨_, h2⟩ := ht
  rw [hk] at h2
  have hf := run_firstCells_some (P := P) w te.size m a2 m k2 news hn hnews
  have hst := run_storeCells_at (P := P) b (len * te.size) e' news 0 arr w hh (by simpa using hfit) (fun v hv => List.all_eq_true.1 hone v hv)
  simp only [Nat.add_zero] at hst
  simp [Builtin.append_, run_underlying h2.2, run_sizeOf he, Builtin.lenOf, hroom, hf, Addr.add_lit, hst, splice]

theorem run_app_grow {ty e : Nat} {ti te : TI} (ht : ti.ok P ty) (hk : ti.kind = .slice e) (he : te.ok P e) (w : World) (u len k m k2 : Nat) (a1 : Option Addr) (a2 : Addr) {olds news : List Value} {zv : Value} {i : TypeInfo}
    (hi : P.info? e = some i) (hz : i.zero = some zv)
    (hlo : olds.length = len * te.size) (holds : (olds = [] ∧ len = 0) ∨ ∃ ad, a1 = some ad ∧ ∀ j v, olds[j]? = some v → w.cell? (ad.add j) = some v)
    (hn : news.length = m * te.size) (hnews : ∀ j v, news[j]? = some v → w.cell? (a2.add j) = some v)
    (hgrow : k < len + m) (h63 : len + m ≤ 1073741824) (hb : te.bytes ≤ 131072) :
    ∃ cap, len + m ≤ cap ∧ cap ≤ maxLen ∧ (Builtin.append_ #[ty, ty] u #[.slice a1 len k, .slice (some a2) m k2]).run P w =
      .ok (.slice (some ⟨w.heap.size, 0, none⟩) (len + m) cap) (w.drew.alloc (.cells (olds ++ news ++ (Builtin.zeroCells zv.cells (cap - (len + m))).toList).toArray e)) := by
  obtain ⟨⟨i', z', q1, q2, q3, q4, q5⟩, h2⟩ := ht
  rw [hk] at h2
  obtain ⟨⟨i'', z'', r1, r2, r3, r4, r5⟩, _⟩ := id he
  rw [hi] at r1
  cases r1
  have hnk : ¬ (len + m ≤ k) := by omega
  have h63' : ¬ (9223372036854775807 < ((len : Int) + (m : Int))) := by omega
  have hfit := growslice_fits (need := len + m) (old := k) (bytes := i.bytes) hgrow (by rw [r3]; exact Nat.le_trans (Nat.mul_le_mul h63 hb) (by decide))
  have h48' : ¬ (281474976710656 < Builtin.nextslicecap (len + m) k * i.bytes) := by omega
  have hf := run_firstCells_some (P := P) w.drew te.size m a2 m k2 news hn (by simpa using hnews)
  have hfo : (Builtin.firstCells te.size len (.slice a1 len k)).run P w.drew = .ok olds.toArray w.drew := by
    rcases holds with ⟨rfl, rfl⟩ | ⟨ad, rfl, h⟩
    · cases a1 with
      | none => simp [Builtin.firstCells]
      | some ad => simp [Builtin.firstCells, loadCells, loadCellsFrom]
    · exact run_firstCells_some (P := P) w.drew te.size len ad len k olds hlo (by simpa using h)
  refine ⟨grownCap w (len + m) k e, grownCap_ge w _ _ _, grownCap_le_maxLen w _ _ _ (by simp only [maxLen]; omega), ?_⟩
  simp [Builtin.append_, run_underlying h2.2, run_sizeOf he, typeInfo, zeroValue, hi, hz, Builtin.lenOf, hnk, h63', h48', Question.forced, hf, hfo, newRow, grownCap]
  congr 2
  apply Array.ext'
  simp [List.append_assoc]

/-- What an append's source gives: data that is read (numbers alone), or a slice of the call's own, which is used up. -/
inductive Src (s : St) : D → Nat → List T → Option Nat → Prop
  | nil {n} : Src s .nil n [] none
  | read {n l} : (∀ x, x ∈ l → (T.cells x).length = n ∧ ∀ y, y ∈ T.cells x → ∃ v, y = .v v) → Src s (.t (.list n l)) n l none
  | own {id n m xs} : lookM s.M id = some (.L n xs) → m ≤ xs.length → Src s (.sl id 0 m) n (xs.take m) (some id)

theorem flat_take {n : Nat} {xs : List T} (hw : ∀ x, x ∈ xs → (T.cells x).length = n) (m : Nat) : (xs.flatMap T.cells).take (m * n) = (xs.take m).flatMap T.cells := by
  rcases Nat.lt_or_ge xs.length m with h | h
  · rw [List.take_of_length_le (show xs.length ≤ m by omega), List.take_of_length_le]
    rw [flat_length hw]
    exact Nat.mul_le_mul_right n (by omega)
  · have e : xs.flatMap T.cells = (xs.take m).flatMap T.cells ++ (xs.drop m).flatMap T.cells := by rw [← List.flatMap_append, List.take_append_drop]
    have hl : ((xs.take m).flatMap T.cells).length = m * n := by
      rw [flat_length fun x hx => hw x (List.mem_of_mem_take hx), List.length_take, Nat.min_eq_left h]
    rw [e, ← hl, List.take_left]

theorem own_of_vs {w : World} {F : Nat → Prop} : ∀ {vs ts}, RelL w F vs ts → (∀ y, y ∈ ts → ∃ v, y = .v v) → OwnL w vs ts []
  | _, _, .nil, _ => .nil
  | _, _, .v h1 h2, h => .v h1 (own_of_vs h2 fun y hy => h y (List.mem_cons_of_mem _ hy))
  | _, _, .none _, h => by obtain ⟨v, hv⟩ := h _ (List.mem_cons_self ..); cases hv
  | _, _, .list _ _ _ _ _ _ _, h => by obtain ⟨v, hv⟩ := h _ (List.mem_cons_self ..); cases hv

/-- The source's value and cells. -/
theorem Src.cells {a : Act} {w : World} {F β fb mb ow} (hi : Conc c s a w F β fb mb ow) {x : Operand} {d : D} {n : Nat} {ys : List T} {sid : Option Nat} (h : Src s d n ys sid) (hd : opd s.fr x = d) :
    ∃ a2 k2 news bs, a.eval x = .slice a2 ys.length k2 ∧ (ys = [] ∨ ∃ ad, a2 = some ad ∧ ∀ j v, news[j]? = some v → w.cell? (ad.add j) = some v) ∧
      OwnL w news (ys.flatMap T.cells) bs ∧ (∀ y, y ∈ ys → y.cells.length = n) ∧ bs.Nodup ∧ (∀ b, b ∈ bs → ∃ id, sid = some id ∧ b ∈ mb id) ∧ (∀ b, b ∈ bs → ow b = sid.map .inr) := by
  obtain ⟨bx, hr, _⟩ := hi.opd x
  rw [hd] at hr
  cases h with
  | nil =>
    generalize hev : a.eval x = xv at hr
    cases hr with
    | nil _ => exact ⟨none, 0, [], [], rfl, .inl rfl, .nil, by simp, by simp, by simp, by simp⟩
  | read hv =>
    generalize hev : a.eval x = xv at hr
    cases hr with
    | t h1 _ =>
      cases h1 with
      | none h2 => exact ⟨_, _, [], [], rfl, .inl rfl, .nil, by simp, by simp, by simp, by simp⟩
      | @list b o' cap _ cs _ arr e fz _ _ q1 q2 q3 q4 q5 q6 q7 =>
        refine ⟨_, _, cs, [], rfl, .inr ⟨⟨b, o', none⟩, rfl, fun j v hj => ?_⟩, own_of_vs q6 fun y hy => ?_, q4, by simp, by simp, by simp⟩
        · rw [add_none, cell_of q2, q3 j (List.getElem?_eq_some_iff.1 hj).1]
          exact hj
        · obtain ⟨z, hz, hyz⟩ := List.mem_flatMap.1 hy
          exact (hv z hz).2 y hyz
  | own hM hm =>
    rename_i id m xs
    have hmm := hi.mem id
    rw [hM] at hmm
    generalize hev : a.eval x = xv at hr
    rcases hmm with ⟨h1, h2, h3⟩ | ⟨b, cap, arr, e, bs', h1, h2, h3, h4, h5, h6, h7, h8⟩
    · subst h2
      cases hr with
      | slnil _ _ => exact ⟨_, _, [], [], rfl, .inl (by simp), by simpa using OwnL.nil, by simp, by simp, by simp, by simp⟩
      | sl q1 _ _ _ _ => rw [h1] at q1; cases q1
    · cases hr with
      | slnil q1 _ => rw [h1] at q1; cases q1
      | sl q1 q2 q3 q4 _ =>
        rw [h1] at q1
        cases q1
        rename_i a' k' _
        have hml : (xs.take m).length = m := by simp; omega
        obtain ⟨c1, c2, hc, ho1, _⟩ := h7.split (m * n)
        rw [flat_take h4, List.take_take, Nat.min_eq_left (Nat.mul_le_mul_right n hm)] at ho1
        have hnd := hi.nmem id
        rw [h8, hc] at hnd
        refine ⟨a', k', arr.toList.take (m * n), c1, by rw [hml], ?_, ho1, fun y hy => h4 y (List.mem_of_mem_take hy), ?_, fun b' hb' => ⟨id, rfl, by rw [h8, hc]; simp [hb']⟩, fun b' hb' => hi.omem id b' (by rw [h8, hc]; simp [hb'])⟩
        · by_cases h0 : k' = 0
          · left
            have : m = 0 := by omega
            subst this; simp
          · right
            refine ⟨_, q4 h0, fun j v hj => ?_⟩
            rw [add_none, cell_of h2]
            simp only [List.getElem?_take] at hj
            split at hj
            · simpa using hj
            · cases hj
        · exact (List.nodup_append.1 (List.nodup_cons.1 hnd).2).1

def dropM (sid : Option Nat) (M : List (Nat × Blk)) : List (Nat × Blk) := match sid with
  | none => M
  | some id => M.filter fun p => p.1 != id

theorem look_dropM (sid : Option Nat) : ∀ (M : List (Nat × Blk)) (u : Nat), lookM (dropM sid M) u = none ∨ (sid ≠ some u ∧ lookM (dropM sid M) u = lookM M u) := by
  cases sid with
  | none => exact fun M u => .inr ⟨by simp, rfl⟩
  | some id =>
    intro M
    induction M with
    | nil => exact fun u => .inl rfl
    | cons p M ih =>
      intro u
      obtain ⟨k, d⟩ := p
      simp only [dropM, List.filter_cons] at ih ⊢
      by_cases hk : k = id
      · subst hk
        simp only [bne_self_eq_false, Bool.false_eq_true, if_false]
        rcases ih u with h | ⟨h1, h2⟩
        · exact .inl h
        · refine .inr ⟨h1, ?_⟩
          rw [h2, lookM, if_neg (by simpa using h1)]
      · simp only [bne_iff_ne, ne_eq, hk, not_false_eq_true, if_true, lookM]
        by_cases hu : k = u
        · subst hu; exact .inr ⟨by simpa using Ne.symm hk, by simp⟩
        · simp only [if_neg hu]; exact ih u

/-- The destination of an append: nil, or a slice of the call's own from its beginning on. -/
inductive Dst (s : St) (t : Nat) : D → Nat → Nat → List T → Prop
  | nil {n} : Dst s t .nil t n []
  | own {id n len xs} : lookM s.M id = some (.L n xs) → len ≤ xs.length → Dst s t (.sl id 0 len) id n (xs.take len)

theorem WO_append {Γ : Tys} (hΓ : Γ.ok P) {ty e t id : Nat} {x y : Operand} {ti te : TI} {dx dy : D} {xs ys : List T} {sid : Option Nat} (hg : o.guard = none) (hd : o.dst = some t) (ht : t < c.n)
    (ho : o.op = .call { callee := .builtin .append, args := #[x, y], argTypes := #[ty, ty] })
    (h1 : tyOf Γ ty = some ti) (h2 : ti.kind = .slice e) (h3 : tyOf Γ e = some te) (hx : opd s.fr x = dx) (hdst : Dst s t dx id te.size xs) (hy : opd s.fr y = dy) (hsrc : Src s dy te.size ys sid) (hne : sid ≠ some id)
    (hlen : xs.length + ys.length ≤ 1073741824) (hb : te.bytes ≤ 131072) (hzs : te.zero.length = te.size)
    (kk : WO P c ops rest ⟨(t, .sl id 0 (xs.length + ys.length)) :: killF id s.fr, (id, .L te.size (xs ++ ys)) :: dropM sid (killM id s.M)⟩ Q) : WO P c ops (o :: rest) s Q := by
  rintro a w ⟨F, β, fb, mb, ow, hi⟩
  obtain ⟨a2, k2, news, bs, e1, e2, e3, e4, e5, e6, e7⟩ := hsrc.cells hi hy
  obtain ⟨⟨i, zv, q1, q2, q3, q4, q5⟩, _⟩ := hΓ.get h3
  have hnl : news.length = ys.length * te.size := by rw [e3.length, flat_length e4]
  -- the destination
  obtain ⟨bx, hrx, _⟩ := hi.opd x
  rw [hx] at hrx
  have hD : ∃ a1 k olds bo, a.eval x = .slice a1 xs.length k ∧ xs.length ≤ k ∧ OwnL w olds (xs.flatMap T.cells) bo ∧ (∀ z, z ∈ xs → z.cells.length = te.size) ∧ bo.Nodup ∧ (∀ b, b ∈ bo → b ∈ mb id) ∧
      (k = 0 ∨ ∃ b arr e', a1 = some ⟨b, 0, none⟩ ∧ β id = some (b, te.size, k) ∧ b ∈ mb id ∧ b ∉ bo ∧ w.heap[b]? = some (.cells arr e' (0, 0)) ∧ arr.size = k * te.size ∧ olds = arr.toList.take (xs.length * te.size) ∧ k ≤ maxLen) ∧
      (β id = none → k = 0) ∧ (olds = [] ∨ ∃ ad, a1 = some ad ∧ ∀ j v, olds[j]? = some v → w.cell? (ad.add j) = some v) := by
    generalize hev : a.eval x = xv at hrx
    cases hdst with
    | nil =>
      cases hrx with
      | nil _ => exact ⟨none, 0, [], [], rfl, by simp, .nil, by simp, by simp, by simp, .inl rfl, fun _ => rfl, .inl rfl⟩
    | own hM hl =>
      rename_i len xs0
      have hmm := hi.mem id
      rw [hM] at hmm
      rcases hmm with ⟨r1, r2, r3⟩ | ⟨b, cap, arr, e', bs', r1, r2, r3, r4, r5, r6, r7, r8⟩
      · subst r2
        cases hrx with
        | @slnil _ ad _ _ _ _ _ => exact ⟨ad, 0, [], [], by simp, by simp, by simpa using OwnL.nil, by simp, by simp, by simp, .inl rfl, fun _ => rfl, .inl rfl⟩
        | sl p1 _ _ _ _ => rw [r1] at p1; cases p1
      · cases hrx with
        | slnil p1 _ => rw [r1] at p1; cases p1
        | sl p1 p2 p3 p4 _ =>
          rw [r1] at p1
          cases p1
          rename_i a' k' _
          have hml : (xs0.take len).length = len := by simp; omega
          obtain ⟨c1, c2, hc, ho1, _⟩ := r7.split (len * te.size)
          rw [flat_take r4, List.take_take, Nat.min_eq_left (Nat.mul_le_mul_right _ hl)] at ho1
          have hnd := hi.nmem id
          rw [r8, hc] at hnd
          have hkc : k' = cap := by omega
          subst hkc
          refine ⟨a', k', _, c1, by rw [hml], by rw [hml]; exact p2, ho1, fun z hz => r4 z (List.mem_of_mem_take hz), (List.nodup_append.1 (List.nodup_cons.1 hnd).2).1, fun b' hb' => by rw [r8, hc]; simp [hb'], ?_, by rw [r1]; simp, ?_⟩
          · by_cases h0 : k' = 0
            · exact .inl h0
            · refine .inr (⟨b, arr, e', by simpa using p4 h0, r1, by rw [r8]; simp, fun hb' => ?_, r2, r3, by rw [hml], r6⟩)
              exact (List.nodup_cons.1 hnd).1 (by simp [hb'])
          · by_cases h0 : k' = 0
            · left
              have : len = 0 := by omega
              subst this; simp
            · right
              refine ⟨_, p4 h0, fun j v hj => ?_⟩
              rw [add_none, cell_of r2]
              simp only [List.getElem?_take] at hj
              split at hj
              · simpa using hj
              · cases hj
  obtain ⟨a1, k, olds, bo, f1, f2, f3, f4, f5, f6, f7, f8, f9⟩ := hD
  have hol : olds.length = xs.length * te.size := by rw [f3.length, flat_length f4]
  have hboo : ∀ b, b ∈ bo → ow b = some (.inr id) := fun b hb' => hi.omem id b (f6 b hb')
  have hinb : ∀ b, b ∈ bs → b < w.heap.size := fun b hb' => by
    obtain ⟨id', h5, h6⟩ := e6 b hb'
    exact (hi.own b (by rw [e7 b hb', h5]; simp)).2.1
  have hino : ∀ b, b ∈ bo → b < w.heap.size := fun b hb' => (hi.own b (by rw [hboo b hb']; simp)).2.1
  have hdis : ∀ b, b ∈ bo → b ∉ bs := fun b h h' => by
    have h5 := e7 b h'
    rw [hboo b h] at h5
    cases hsid : sid with
    | none => rw [hsid] at h5; cases h5
    | some z => rw [hsid] at h5; cases h5; exact hne hsid
  have hcat : OwnL w (olds ++ news) ((xs ++ ys).flatMap T.cells) (bo ++ bs) := by rw [List.flatMap_append]; exact f3.append e3
  have hcw : ∀ z, z ∈ xs ++ ys → z.cells.length = te.size := fun z hz => (List.mem_append.1 hz).elim (f4 z) (e4 z)
  have hcn : (bo ++ bs).Nodup := List.nodup_append.2 ⟨f5, e5, fun p hp q hq h => hdis p hp (h ▸ hq)⟩
  -- what the rest of the state becomes
  have hfr' : ∀ (d : D) (u : Nat), u ≠ t → look ((t, d) :: killF id s.fr) u = D.kill id (look s.fr u) := fun d u hu => by
    simp only [look, if_neg (Ne.symm hu), look_killF]
  have hM' : ∀ (k : Blk) (id' : Nat), id' ≠ id → lookM ((id, k) :: dropM sid (killM id s.M)) id' = none ∨ (¬ (sid = some id') ∧ lookM ((id, k) :: dropM sid (killM id s.M)) id' = (lookM s.M id').map (Blk.kill id)) := fun k id' h => by
    simp only [lookM, if_neg (Ne.symm h)]
    rcases look_dropM sid (killM id s.M) id' with h5 | ⟨h5, h6⟩
    · exact .inl h5
    · exact .inr ⟨h5, by rw [h6, look_killM]⟩
  refine wpList_plain hg fun K hK => ?_
  unfold Oper.wp
  -- three ways
  have done : ∀ (v : Value) (w' : World), (Builtin.append_ #[ty, ty] o.type #[a.eval x, a.eval y]).run P w = .ok v w' → Is c ⟨(t, .sl id 0 (xs.length + ys.length)) :: killF id s.fr, (id, .L te.size (xs ++ ys)) :: dropM sid (killM id s.M)⟩ (a.put (some t) v) w' →
      o.upon P a K (lift c Q) ((execOp a.eval o).run P w) := fun v w' hrun his => by
    have : (execOp a.eval o).run P w = .ok (.value v) w' := by
      simp only [execOp, ho, resolve, invoke, builtin, List.map_toArray, List.map_cons, List.map_nil, Sem.run_bind, Sem.run_pure, Result.andThen_ok, hrun]
    rw [this, Oper.upon_value, hd]
    exact hK _ _ (kk _ _ his)
  have srcP : ∀ z : Nat ⊕ Nat, (∃ id', sid = some id' ∧ z = .inr id') → Prop := fun _ _ => True
  by_cases hm0 : ys.length = 0
  · -- nothing is appended
    have hy0 : ys = [] := List.eq_nil_of_length_eq_zero hm0
    subst hy0
    refine done (.slice a1 xs.length k) w (by rw [f1, e1]; exact run_app_none (hΓ.get h1) h2 (hΓ.get h3) w o.type a1 a2 xs.length k k2 f2) ?_
    by_cases hβ : β id = none
    · -- nil still
      have hk0 := f8 hβ
      subst hk0
      have hx0 : xs = [] := List.eq_nil_of_length_eq_zero (by omega)
      subst hx0
      refine hi.renew id (Anew.kill fun id' h => rfl) (fun z => ∃ id', sid = some id' ∧ z = .inr id') [] (.L te.size []) (some (t, .slice a1 0 0, .sl id 0 0)) rfl ?_ rfl rfl rfl (Nat.le_refl _) (fun _ _ _ => rfl) ?_ (by simp [lookM]) (.inl ⟨hβ, rfl, rfl⟩) List.nodup_nil (by simp) ?_
      · rintro t' v d h; cases h; exact ⟨ht, .slnil hβ .done, by simp [look]⟩
      · intro u hu
        exact .inl ⟨hfr' _ u (hu _ _ _ rfl), by rintro ⟨_, _, h⟩; cases h⟩
      · intro id' h
        rcases hM' (.L te.size ([] ++ [])) id' h with h5 | ⟨h5, h6⟩
        · exact .inl h5
        · exact .inr ⟨(by rintro ⟨z, h7, h8⟩; cases h8; exact h5 h7), h6⟩
    · -- a place it has
      cases hdst with
      | nil =>
        -- a nil destination, an old place at this id: told anew as nil
        have ha1 : a1 = none ∧ k = 0 := by
          have := hrx
          rw [f1] at this
          cases this with
          | nil _ => exact ⟨rfl, rfl⟩
        obtain ⟨rfl, rfl⟩ := ha1
        have hβ' : ∀ id', id' ≠ t → (fun id' => if id' = t then none else β id') id' = β id' := fun id' h => by simp [h]
        refine hi.renew t (Anew.kill hβ') (fun z => ∃ id', sid = some id' ∧ z = .inr id') [] (.L te.size []) (some (t, .slice none 0 0, .sl t 0 0)) rfl ?_ rfl rfl rfl (Nat.le_refl _) (fun _ _ _ => rfl) ?_ (by simp [lookM]) (.inl ⟨by simp, rfl, rfl⟩) List.nodup_nil (by simp) ?_
        · rintro t' v d h; cases h; exact ⟨ht, .slnil (by simp) .done, by simp [look]⟩
        · intro u hu
          exact .inl ⟨hfr' _ u (hu _ _ _ rfl), by rintro ⟨_, _, h⟩; cases h⟩
        · intro id' h
          rcases hM' (.L te.size ([] ++ [])) id' h with h5 | ⟨h5, h6⟩
          · exact .inl h5
          · exact .inr ⟨(by rintro ⟨z, h7, h8⟩; cases h8; exact h5 h7), h6⟩
      | own hM hl =>
        rename_i len xs0
        have hmm := hi.mem id
        rw [hM] at hmm
        rcases hmm with ⟨r1, _⟩ | ⟨b, cap, arr, e', bs', r1, r2, r3, r4, r5, r6, r7, r8⟩
        · exact absurd r1 hβ
        · have hml : (xs0.take len).length = len := by simp; omega
          obtain ⟨c1, c2, hc, ho1, _⟩ := r7.split (len * te.size)
          rw [flat_take r4, List.take_take, Nat.min_eq_left (Nat.mul_le_mul_right _ hl)] at ho1
          have hnd := hi.nmem id
          rw [r8, hc] at hnd
          have hre : RelD w F β [.slice a1 len k] [.sl id 0 len] [] := by
            have := hrx
            rw [f1, hml] at this
            exact this.dup |> fun h => by simpa [D.dup, D.free] using h
          refine hi.renew id (Anew.kill fun id' h => rfl) (fun z => ∃ id', sid = some id' ∧ z = .inr id') (b :: c1) (.L te.size (xs0.take len ++ [])) (some (t, .slice a1 (xs0.take len).length k, .sl id 0 ((xs0.take len).length + ([] : List T).length))) rfl ?_ rfl rfl rfl (Nat.le_refl _) (fun _ _ _ => rfl) ?_ (by simp [lookM]) ?_ ?_ ?_ ?_
          · rintro t' v d h; cases h
            exact ⟨ht, by simpa [hml] using hre, by simp [look]⟩
          · intro u hu
            exact .inl ⟨hfr' _ u (hu _ _ _ rfl), by rintro ⟨_, _, h⟩; cases h⟩
          · exact .inr ⟨b, cap, arr, e', c1, r1, r2, r3, fun z hz => r4 z (List.mem_of_mem_take (by simpa using hz)), by simp; omega, r6, by simpa [hml, Nat.min_eq_left hl] using ho1, rfl⟩
          · exact List.nodup_cons.2 ⟨fun h => (List.nodup_cons.1 hnd).1 (by simp [h]), (List.nodup_append.1 (List.nodup_cons.1 hnd).2).1⟩
          · intro b' hb'
            exact .inr ⟨.inr id, hi.omem id b' (by rw [r8, hc]; rcases List.mem_cons.1 hb' with rfl | h <;> simp [*]), .inr rfl⟩
          · intro id' h
            rcases hM' (.L te.size (xs0.take len ++ [])) id' h with h5 | ⟨h5, h6⟩
            · exact .inl h5
            · exact .inr ⟨(by rintro ⟨z, h7, h8⟩; cases h8; exact h5 h7), h6⟩
  · obtain ⟨ad, rfl, had⟩ := e2.resolve_left fun h => hm0 (by rw [h]; rfl)
    by_cases hroom : xs.length + ys.length ≤ k
    · -- there is room
      obtain ⟨b, arr, e', rfl, p2, p3, p4, p5, p6, p7, p8⟩ : ∃ b arr e', a1 = some ⟨b, 0, none⟩ ∧ β id = some (b, te.size, k) ∧ b ∈ mb id ∧ b ∉ bo ∧ w.heap[b]? = some (.cells arr e' (0, 0)) ∧ arr.size = k * te.size ∧ olds = arr.toList.take (xs.length * te.size) ∧ k ≤ maxLen := by
        rcases f7 with h | h
        · omega
        · exact h
      have hfit : xs.length * te.size + news.length ≤ arr.size := by rw [hnl, p6, ← Nat.add_mul]; exact Nat.mul_le_mul_right _ hroom
      have hob := hi.omem id b p3
      have hbbs : b ∉ bs := fun h => by
        have h5 := e7 b h
        rw [hob] at h5
        cases hsid : sid with
        | none => rw [hsid] at h5; cases h5
        | some z => rw [hsid] at h5; cases h5; exact hne hsid
      have hkeep : ∀ b', b' ≠ b → (w.setRow b (splice arr.toList (xs.length * te.size) news).toArray).heap[b']? = w.heap[b']? := fun b' h => setRow_other w b b' _ h
      refine done _ _ (by rw [f1, e1]; exact run_app_room (hΓ.get h1) h2 (hΓ.get h3) w o.type b xs.length k ys.length k2 ad p5 hnl had e3.one hroom hfit) ?_
      have hnb : ∀ b', b' ∈ bo ++ bs → b' ≠ b := fun b' h e => by
        subst e
        rcases List.mem_append.1 h with h | h
        · exact p4 h
        · exact hbbs h
      refine hi.renew id (Anew.kill fun id' h => rfl) (fun z => ∃ id', sid = some id' ∧ z = .inr id') (b :: (bo ++ bs)) (.L te.size (xs ++ ys)) (some (t, .slice (some ⟨b, 0, none⟩) (xs.length + ys.length) k, .sl id 0 (xs.length + ys.length))) rfl ?_ rfl rfl rfl (by simp)
        (fun b' _ h => hkeep b' fun e => (h _ (e ▸ hob)).2 rfl) ?_ (by simp [lookM]) ?_ ?_ ?_ ?_
      · rintro t' v d h; cases h
        exact ⟨ht, .sl p2 hroom (by simp) (by simp) .done, by simp [look]⟩
      · intro u hu
        exact .inl ⟨hfr' _ u (hu _ _ _ rfl), by rintro ⟨_, _, h⟩; cases h⟩
      · have hal : (splice arr.toList (xs.length * te.size) news).length = arr.toList.length := length_splice (by simpa using hfit)
        refine .inr ⟨b, k, _, e', bo ++ bs, p2, setRow_heap w b arr _ e' _ p5, by simpa [hal] using p6, hcw, by simpa using hroom, p8, ?_, rfl⟩
        have e8 : (splice arr.toList (xs.length * te.size) news).toArray.toList.take ((xs ++ ys).length * te.size) = olds ++ news := by
          have h9 : (arr.toList.take (xs.length * te.size)).length = xs.length * te.size := by rw [← p7]; exact hol
          simp only [splice, List.length_append]
          rw [p7, Nat.add_mul, ← hnl, List.take_left']
          rw [List.length_append, h9]
        rw [e8]
        exact hcat.mono fun b' h => hkeep b' (hnb b' h)
      · exact List.nodup_cons.2 ⟨fun h => hnb b h rfl, hcn⟩
      · intro b' h
        rcases List.mem_cons.1 h with rfl | h
        · exact .inr ⟨_, hob, .inr rfl⟩
        · rcases List.mem_append.1 h with h | h
          · exact .inr ⟨_, hboo b' h, .inr rfl⟩
          · obtain ⟨id', h5, _⟩ := e6 b' h
            exact .inr ⟨.inr id', by rw [e7 b' h, h5]; rfl, .inl ⟨id', h5, rfl⟩⟩
      · intro id' h
        rcases hM' (.L te.size (xs ++ ys)) id' h with h5 | ⟨h5, h6⟩
        · exact .inl h5
        · exact .inr ⟨(by rintro ⟨z, h7, h8⟩; cases h8; exact h5 h7), h6⟩
    · -- it grows
      obtain ⟨cap, g1, g2, g3⟩ := run_app_grow (hΓ.get h1) h2 (hΓ.get h3) w o.type xs.length k ys.length k2 a1 ad q1 q4 hol (by
        rcases f9 with h | h
        · by_cases h0 : xs.length = 0
          · exact .inl ⟨h, h0⟩
          · refine .inr ?_
            rcases f7 with h' | ⟨b, _, _, h', _⟩
            · omega
            · exact ⟨_, h', fun j v hj => by rw [h] at hj; cases hj⟩
        · exact .inr h) hnl had (by omega) hlen hb
      refine done _ _ (by rw [f1, e1]; exact g3) ?_
      have hβ : ∀ id', id' ≠ id → (fun id' => if id' = id then some (w.heap.size, te.size, cap) else β id') id' = β id' := fun id' h => by simp [h]
      have hold : ∀ b', b' < w.heap.size → (w.drew.alloc (.cells (olds ++ news ++ (Builtin.zeroCells zv.cells (cap - (xs.length + ys.length))).toList).toArray e)).heap[b']? = w.heap[b']? := fun b' h => Below.heap_alloc w.drew _ b' h
      have hzv : zv.cells.size = te.size := by rw [← hzs, ← q5]; simp
      refine hi.renew id (Anew.kill hβ) (fun z => ∃ id', sid = some id' ∧ z = .inr id') (w.heap.size :: (bo ++ bs)) (.L te.size (xs ++ ys)) (some (t, .slice (some ⟨w.heap.size, 0, none⟩) (xs.length + ys.length) cap, .sl id 0 (xs.length + ys.length))) rfl ?_ rfl rfl rfl (by simp)
        (fun b' hb' _ => hold b' hb') ?_ (by simp [lookM]) ?_ ?_ ?_ ?_
      · rintro t' v d h; cases h
        exact ⟨ht, .sl (b := w.heap.size) (n := te.size) (c := cap) (by simp) g1 (by simp) (by simp) .done, by simp [look]⟩
      · intro u hu
        exact .inl ⟨hfr' _ u (hu _ _ _ rfl), by rintro ⟨_, _, h⟩; cases h⟩
      · refine .inr ⟨w.heap.size, cap, _, e, bo ++ bs, by simp, heap_alloc_new w.drew _, ?_, hcw, by simpa using g1, g2, ?_, rfl⟩
        · simp only [List.size_toArray, List.length_append, hol, hnl, Array.length_toList, size_zeroCells, hzv]
          rw [← Nat.add_mul, ← Nat.add_mul]
          congr 1
          omega
        · have e8 : (olds ++ news ++ (Builtin.zeroCells zv.cells (cap - (xs.length + ys.length))).toList).toArray.toList.take ((xs ++ ys).length * te.size) = olds ++ news := by
            simp only [List.length_append]
            rw [Nat.add_mul, ← hnl, ← hol, List.take_left']
            rw [List.length_append]
          rw [e8]
          exact hcat.mono fun b' h => hold b' ((List.mem_append.1 h).elim (hino b') (hinb b'))
      · refine List.nodup_cons.2 ⟨fun h => ?_, hcn⟩
        have := (List.mem_append.1 h).elim (hino _) (hinb _)
        omega
      · intro b' h
        rcases List.mem_cons.1 h with rfl | h
        · exact .inl ⟨Nat.le_refl _, by simp⟩
        · rcases List.mem_append.1 h with h | h
          · exact .inr ⟨_, hboo b' h, .inr rfl⟩
          · obtain ⟨id', h5, _⟩ := e6 b' h
            exact .inr ⟨.inr id', by rw [e7 b' h, h5]; rfl, .inl ⟨id', h5, rfl⟩⟩
      · intro id' h
        rcases hM' (.L te.size (xs ++ ys)) id' h with h5 | ⟨h5, h6⟩
        · exact .inl h5
        · exact .inr ⟨(by rintro ⟨z, h7, h8⟩; cases h8; exact h5 h7), h6⟩

end
end Go.Eng
