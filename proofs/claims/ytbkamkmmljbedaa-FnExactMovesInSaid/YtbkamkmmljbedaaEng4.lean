/- The abstract machine's rules for slices that are made and grow. -/
import Derived.Test.YtbkamkmmljbedaaEng3
set_option linter.unusedVariables false
set_option linter.unusedSimpArgs false
namespace Go.Eng
open Go.RowKit

/-! ### Plain facts on lists of cells -/

theorem splice_step {α : Type} (l : List α) (k : Nat) (x : α) (xs : List α) (h : k < l.length) : splice (l.set k x) (k + 1) xs = splice l k (x :: xs) := by
  unfold splice
  rw [List.take_add_one, List.getElem?_set_self h, List.take_set_of_le (Nat.le_refl k), List.drop_set_of_lt (by omega)]
  simp only [Option.toList_some, List.append_assoc, List.singleton_append, List.length_cons]
  rw [show k + 1 + xs.length = k + (xs.length + 1) from by omega]

theorem fold_set (off : Nat) : ∀ (vs : List Value) (k : Nat) (arr : Array Value), off + k + vs.length ≤ arr.size →
    ((vs.zipIdx k).foldl (fun (cs : Array Value) (x : Value × Nat) => cs.setIfInBounds (off + x.2) x.1) arr).toList = splice arr.toList (off + k) vs
  | [], k, arr, _ => by simp [splice]
  | x :: vs, k, arr, h => by
    simp only [List.length_cons] at h
    rw [List.zipIdx_cons, List.foldl_cons, fold_set off vs (k + 1) _ (by simp; omega)]
    simp only [Array.toList_setIfInBounds]
    rw [show off + (k + 1) = off + k + 1 from by omega, splice_step _ _ _ _ (by simp; omega)]

theorem fill_run (n : Nat) : ∀ (vs : List Value) (i : Nat) (done rem : List Value), done.length = i * n → rem.length = vs.length * n → (∀ v, v ∈ vs → v.cells.size = n) →
    Instr.fill (fun i => some (i * n, n)) (done ++ rem).toArray ((List.range' i vs.length).zip vs) = some (done ++ vs.flatMap fun v => v.cells.toList).toArray
  | [], i, done, rem, hd, hr, _ => by
    have : rem = [] := List.eq_nil_of_length_eq_zero (by simpa using hr)
    subst this
    simp [Instr.fill]
  | v :: vs, i, done, rem, hd, hr, hv => by
    have h1 := hv v (by simp)
    simp only [List.length_cons, Nat.succ_mul] at hr
    rw [List.length_cons, List.range'_succ, List.zip_cons_cons]
    simp only [Instr.fill]
    rw [if_neg (by simp [h1, hd]; omega)]
    have hf := fold_set (i * n) v.cells.toList 0 (done ++ rem).toArray (by simp [hd, h1]; omega)
    have e : (v.cells.zipIdx.foldl (fun (cs : Array Value) (x : Value × Nat) => cs.setIfInBounds (i * n + x.2) x.1) (done ++ rem).toArray) = ((done ++ v.cells.toList) ++ rem.drop n).toArray := by
      apply Array.toList_inj.1
      rw [← Array.foldl_toList, Array.toList_zipIdx, hf]
      have hvl : v.cells.toList.length = n := by simp [h1]
      unfold splice
      rw [hvl, show i * n + 0 = done.length from by omega]
      show List.take done.length (done ++ rem) ++ v.cells.toList ++ List.drop (done.length + n) (done ++ rem) = done ++ v.cells.toList ++ List.drop n rem
      rw [List.take_left, List.drop_length_add_append]
    rw [e]
    have ih := fill_run n vs (i + 1) (done ++ v.cells.toList) (rem.drop n) (by simp [hd, h1, Nat.succ_mul]) (by simp; omega) fun x hx => hv x (by simp [hx])
    rw [ih]
    simp [List.append_assoc]

theorem made_list (z : Array Value) (n : Nat) (hz : z.size = n) : ∀ k : Nat, (madeCells z (k * n)).toList = (List.replicate k z.toList).flatten
  | 0 => by simp [madeCells]
  | k + 1 => by
    have ih := made_list z n hz k
    have e : madeCells z ((k + 1) * n) = madeCells z (k * n) ++ z := by
      apply Array.ext
      · simp [size_madeCells, hz, Nat.succ_mul]
      · intro i h1 h2
        simp only [size_madeCells] at h1
        simp only [madeCells, Array.getElem_map, Array.getElem_range]
        by_cases hi : i < k * n
        · rw [Array.getElem_append_left (by simpa [madeCells] using hi)]
          simp
        · rw [Array.getElem_append_right (by simpa [madeCells] using hi)]
          simp only [Array.size_map, Array.size_range]
          have hn : 0 < n := by
            rcases Nat.eq_zero_or_pos n with h | h
            · subst h; simp at h1
            · exact h
          have hm : i % z.size = i - k * n := by
            rw [hz]
            have hlt : i - k * n < n := by rw [Nat.succ_mul] at h1; omega
            have : i = (i - k * n) + n * k := by rw [Nat.mul_comm n k]; omega
            rw [this, Nat.add_mul_mod_self_left, Nat.mod_eq_of_lt hlt]
            omega
          rw [getElem!_pos z (i % z.size) (by rw [hm, hz]; rw [Nat.succ_mul] at h1; omega)]
          congr 1
    rw [e, Array.toList_append, ih, List.replicate_succ', List.flatten_append]
    simp

theorem own_replicate {w : World} {vs ts} (h : OwnL w vs ts []) : ∀ k : Nat, OwnL w (List.replicate k vs).flatten (List.replicate k ts).flatten []
  | 0 => by simpa using OwnL.nil
  | k + 1 => by
    rw [List.replicate_succ, List.replicate_succ, List.flatten_cons, List.flatten_cons]
    simpa using h.append (own_replicate h k)

section
variable {P : Program} {c : Ctx} {s : St} {Q : Exit → St → Prop} {ops : Array Oper} {rest : List Oper} {o : Oper}

/-- New memory for a slice, at a temporary's own id. -/
theorem Conc.newsl {a : Act} {w : World} {F β fb mb ow} (hi : Conc c s a w F β fb mb ow) {t : Nat} (ht : t < c.n) (ms : List Nat) {fr' : List (Nat × D)} {arr : Array Value} {n cap : Nat} {xs : List T} {bs : List Nat} (e : TypeId)
    (hfr : ∀ u, (look fr' u = look (killF t s.fr) u ∧ u ∉ ms) ∨ look fr' u = .top)
    (hsz : arr.size = cap * n) (hw : ∀ x, x ∈ xs → (T.cells x).length = n) (hle : xs.length ≤ cap) (hmax : cap ≤ maxLen)
    (hr : OwnL w (arr.toList.take (xs.length * n)) (xs.flatMap T.cells) bs) (hnd : bs.Nodup) (hbs : ∀ b, b ∈ bs → ∃ u, ow b = some (.inl u) ∧ u ∈ ms) :
    Is c ⟨(t, .sl t 0 xs.length) :: fr', (t, .L n xs) :: killM t s.M⟩ (a.put (some t) (.slice (some ⟨w.heap.size, 0, none⟩) xs.length cap)) (w.alloc (.cells arr e)) := by
  have hβ : ∀ id, id ≠ t → (fun id => if id = t then some (w.heap.size, n, cap) else β id) id = β id := fun id h => by simp [h]
  have hold : ∀ b, b < w.heap.size → (w.alloc (.cells arr e)).heap[b]? = w.heap[b]? := fun b hb => Below.heap_alloc w _ b hb
  have hin : ∀ b, b ∈ bs → b < w.heap.size := fun b hb => by
    obtain ⟨y, hy, _⟩ := hbs b hb
    exact (hi.own b (by simp [hy])).2.1
  refine hi.renew t (Anew.kill hβ) (fun y => ∃ u, u ∈ ms ∧ y = .inl u) (w.heap.size :: bs) (.L n xs) (some (t, .slice (some ⟨w.heap.size, 0, none⟩) xs.length cap, .sl t 0 xs.length)) rfl ?_ rfl rfl rfl (by simp)
    (fun b hb _ => hold b hb) ?_ (by simp [lookM]) ?_ ?_ ?_ ?_
  · rintro t' v d h
    cases h
    refine ⟨ht, ?_, by simp [look]⟩
    exact .sl (b := w.heap.size) (n := n) (c := cap) (by simp) hle (by simp) (by simp) .done
  · intro u hu
    have hut := hu _ _ _ rfl
    simp only [look, if_neg (Ne.symm hut)]
    rcases hfr u with ⟨h1, h2⟩ | h1
    · exact .inl ⟨by rw [h1, look_killF], by rintro ⟨v, h3, h4⟩; cases h4; exact h2 h3⟩
    · exact .inr h1
  · exact .inr ⟨w.heap.size, cap, arr, e, bs, by simp, heap_alloc_new w _, hsz, hw, hle, hmax, hr.mono fun b hb => hold b (hin b hb), rfl⟩
  · refine List.nodup_cons.2 ⟨fun h => ?_, hnd⟩
    have := hin _ h
    omega
  · intro b hb
    rcases List.mem_cons.1 hb with rfl | hb
    · exact .inl ⟨Nat.le_refl _, by simp⟩
    · obtain ⟨y, h1, h2⟩ := hbs b hb
      exact .inr ⟨_, h1, .inl ⟨y, h2, rfl⟩⟩
  · intro id hid
    simp only [lookM, if_neg (Ne.symm hid)]
    rw [look_killM]
    exact .inr ⟨(by rintro ⟨u, _, h⟩; cases h), rfl⟩

theorem Conc.drew {a : Act} {w : World} {F β fb mb ow} (hi : Conc c s a w F β fb mb ow) : Conc c s a w.drew F β fb mb ow :=
  { hi with
    fr := fun t => (hi.fr t).mono (w := w) (w' := w.drew) (fun _ h => h) (fun _ _ => rfl) (fun _ _ => rfl) fun _ => rfl
    mem := fun id => by
      have := hi.mem id
      cases h : lookM s.M id with
      | none => rw [h] at this; exact this
      | some k => rw [h] at this; exact RelB.mono (w := w) (w' := w.drew) this (fun _ _ => rfl) fun _ _ => rfl }

/-- make of a slice. -/
theorem WO_make {Γ : Tys} (hΓ : Γ.ok P) {ty e t : Nat} {x : Operand} {ti te : TI} (z : T) (k : Nat) (hg : o.guard = none) (hd : o.dst = some t) (ht : t < c.n) (ho : o.op = .makeSlice ty x x)
    (h1 : tyOf Γ ty = some ti) (h2 : ti.kind = .slice e) (h3 : tyOf Γ e = some te) (hx : opd s.fr x = .t (.int k)) (hz : AbsL (te.zero.map constD) z.cells) (hn : z.cells.length = te.size)
    (hk : k ≤ 1073741824) (hb : te.bytes ≤ 131072)
    (kk : WO P c ops rest ⟨(t, .sl t 0 k) :: killF t s.fr, (t, .L te.size (List.replicate k z)) :: killM t s.M⟩ Q) : WO P c ops (o :: rest) s Q := by
  rintro a w ⟨F, β, fb, mb, ow, hi⟩
  obtain ⟨bs, hr, _⟩ := hi.opd x
  rw [hx] at hr
  have e1 := relD_t hr
  obtain ⟨⟨i, zv, q1, q2, q3, q4, q5⟩, _⟩ := hΓ.get h3
  have hu := (hΓ.get h1).2
  rw [h2] at hu
  have hbk : i.bytes * k ≤ 281474976710656 := by
    rw [q3]
    exact Nat.le_trans (Nat.mul_le_mul hb hk) (by decide)
  have hzc : OwnL w zv.cells.toList z.cells [] := by
    have h := absL (w := w) (F := F) (β := β) (constD_rels te.zero) hz
    rwa [← q5] at h
  have hzs : zv.cells.size = te.size := by have := hzc.length; simpa [hn] using this
  have hrun : (execOp a.eval o).run P w = .ok (.value (.slice (some ⟨w.heap.size, 0, none⟩) k k)) (w.alloc (.cells (madeCells zv.cells (k * te.size)) e)) := by
    have hbi : (i.bytes : Int) * (k : Int) ≤ 281474976710656 := by
      have h : ((i.bytes * k : Nat) : Int) ≤ 281474976710656 := by omega
      rwa [Int.natCast_mul] at h
    have := run_make (P := P) w ty e i zv hu.2 q1 q4 .i64 .i64 k k (by omega) (Int.le_refl _) hbi (by omega)
    simp only [Int.toNat_natCast, q2] at this
    simp only [execOp, ho, e1, Sem.run_bind, this, Result.andThen_ok]
    rfl
  refine wpList_plain hg fun K hK => ?_
  unfold Oper.wp
  rw [hrun, Oper.upon_value, hd]
  refine hK _ _ (kk _ _ ?_)
  have hm := made_list zv.cells te.size hzs k
  have := hi.newsl ht [] (fr' := killF t s.fr) (arr := madeCells zv.cells (k * te.size)) (n := te.size) (cap := k) (xs := List.replicate k z) (bs := []) e (fun u => .inl ⟨rfl, by simp⟩) (size_madeCells _ _)
    (fun y hy => by rw [(List.mem_replicate.1 hy).2]; exact hn) (by simp) (by simp only [maxLen]; omega) (by
      have hlen : (madeCells zv.cells (k * te.size)).toList.length = k * te.size := by simp [size_madeCells]
      rw [List.length_replicate, List.take_of_length_le (by rw [hlen]; exact Nat.le_refl _), hm, List.flatMap_def, List.map_replicate]
      exact own_replicate hzc k) List.nodup_nil (by simp)
  simpa using this

/-- The temporaries of operands that are moved away. -/
def movedL (fr : List (Nat × D)) (xs : List Operand) : List Nat := xs.filterMap fun x => if (opd fr x).free then none else match x with | .tmp u => some u | _ => none

def PartsOk (fr : List (Nat × D)) (n : Nat) : List Operand → List T → Prop
  | [], [] => True
  | x :: xs, y :: ys => (∃ ds, boxD (opd fr x) = some ds ∧ AbsL ds y.cells ∧ y.cells.length = n) ∧ PartsOk fr n xs ys
  | _, _ => False

theorem parts_own {a : Act} {w : World} {F β fb mb ow} (hi : Conc c s a w F β fb mb ow) {n : Nat} : ∀ {xs : List Operand} {ys : List T}, PartsOk s.fr n xs ys → (movedL s.fr xs).Nodup →
    ∃ bs, OwnL w (xs.flatMap fun x => (a.eval x).cells.toList) (ys.flatMap T.cells) bs ∧ bs.Nodup ∧ (∀ b, b ∈ bs → ∃ u, ow b = some (.inl u) ∧ u ∈ movedL s.fr xs) ∧ (∀ y, y ∈ ys → y.cells.length = n) ∧
      ∀ x, x ∈ xs → (a.eval x).cells.size = n
  | [], [], _, _ => ⟨[], .nil, by simp, by simp, by simp, by simp⟩
  | [], _ :: _, h, _ => h.elim
  | _ :: _, [], h, _ => h.elim
  | x :: xs, y :: ys, h, hm => by
    obtain ⟨⟨ds, h1, h2, h3⟩, h4⟩ := h
    obtain ⟨b1, hr, hn1, hb1⟩ := hi.opdOwn x
    have hm' : (movedL s.fr xs).Nodup := by
      unfold movedL at hm ⊢
      rw [List.filterMap_cons] at hm
      split at hm
      · exact hm
      · exact (List.nodup_cons.1 hm).2
    obtain ⟨b2, h5, h6, h7, h8, h9⟩ := parts_own hi h4 hm'
    obtain ⟨h10, _⟩ := hr.boxD h1
    have h11 := absL h10 h2
    have hx : ∀ u, eats x (opd s.fr x) (.inl u) → u ∈ movedL s.fr (x :: xs) ∧ u ∉ movedL s.fr xs := fun u ⟨hf, v, hv, hu⟩ => by
      cases hu
      subst hv
      have e : movedL s.fr (.tmp u :: xs) = u :: movedL s.fr xs := by
        unfold movedL
        rw [List.filterMap_cons]
        simp [hf]
      rw [e] at hm ⊢
      exact ⟨by simp, (List.nodup_cons.1 hm).1⟩
    have hsub : ∀ u, u ∈ movedL s.fr xs → u ∈ movedL s.fr (x :: xs) := fun u hu => by
      unfold movedL at hu ⊢
      rw [List.filterMap_cons]
      split
      · exact hu
      · exact List.mem_cons_of_mem _ hu
    refine ⟨b1 ++ b2, h11.append h5, ?_, fun b hb => ?_, fun z hz => ?_, fun z hz => ?_⟩
    · rw [List.nodup_append]
      refine ⟨hn1, h6, fun p hp q hq e => ?_⟩
      subst e
      obtain ⟨z, hz1, hz2⟩ := hb1 p hp
      obtain ⟨u, hu1, hu2⟩ := h7 p hq
      rw [hu1] at hz1
      cases hz1
      exact (hx u hz2).2 hu2
    · rcases List.mem_append.1 hb with hb | hb
      · obtain ⟨z, hz1, hz2⟩ := hb1 b hb
        obtain ⟨hf, u, hu, rfl⟩ := hz2
        exact ⟨u, hz1, (hx u ⟨hf, u, hu, rfl⟩).1⟩
      · obtain ⟨u, hu1, hu2⟩ := h7 b hb
        exact ⟨u, hu1, hsub u hu2⟩
    · rcases List.mem_cons.1 hz with rfl | hz
      · exact h3
      · exact h8 z hz
    · rcases List.mem_cons.1 hz with rfl | hz
      · have := h11.length
        rw [h3] at this
        simpa using this
      · exact h9 z hz

def eatL (ms : List Nat) (fr : List (Nat × D)) : List (Nat × D) := ms.map (fun u => (u, D.top)) ++ fr

theorem look_eatL : ∀ (ms : List Nat) (fr : List (Nat × D)) (u : Nat), (look (eatL ms fr) u = look fr u ∧ u ∉ ms) ∨ look (eatL ms fr) u = .top
  | [], fr, u => .inl ⟨rfl, by simp⟩
  | m :: ms, fr, u => by
    simp only [eatL, List.map_cons, List.cons_append, look]
    by_cases h : m = u
    · rw [if_pos h]; exact .inr rfl
    · rw [if_neg h]
      rcases look_eatL ms fr u with ⟨h1, h2⟩ | h1
      · exact .inl ⟨h1, by simp [h2]; exact fun e => h e.symm⟩
      · exact .inr h1

theorem parts_len {fr : List (Nat × D)} {n : Nat} : ∀ {xs : List Operand} {ys : List T}, PartsOk fr n xs ys → ys.length = xs.length
  | [], [], _ => rfl
  | [], _ :: _, h => h.elim
  | _ :: _, [], h => h.elim
  | _ :: _, _ :: _, h => by simp [parts_len h.2]

theorem zip_parts (f : Operand → Value) : ∀ l : List (Nat × Operand), l.map (fun x => (x.1, f x.2)) = (l.map (·.1)).zip ((l.map (·.2)).map f)
  | [] => rfl
  | x :: l => by simp [zip_parts f l]

/-- A slice that is written out. -/
theorem WO_buildSlice {Γ : Tys} (hΓ : Γ.ok P) {ty e t len : Nat} {parts : Array (Nat × Operand)} {ti te : TI} (ys : List T) (hg : o.guard = none) (hd : o.dst = some t) (ht : t < c.n) (ho : o.op = .buildSlice ty len parts)
    (h1 : tyOf Γ ty = some ti) (h2 : ti.kind = .slice e) (h3 : tyOf Γ e = some te) (hp : parts.toList.map (·.1) = List.range len) (hl : len * te.size ≤ 16777216)
    (hy : PartsOk s.fr te.size (parts.toList.map (·.2)) ys) (hm : (movedL s.fr (parts.toList.map (·.2))).Nodup) (hzs : te.zero.length = te.size) (hpos : 0 < te.size)
    (kk : WO P c ops rest ⟨(t, .sl t 0 ys.length) :: eatL (movedL s.fr (parts.toList.map (·.2))) (killF t s.fr), (t, .L te.size ys) :: killM t s.M⟩ Q) : WO P c ops (o :: rest) s Q := by
  rintro a w ⟨F, β, fb, mb, ow, hi⟩
  obtain ⟨⟨i, zv, q1, q2, q3, q4, q5⟩, _⟩ := hΓ.get h3
  have hu := (hΓ.get h1).2
  rw [h2] at hu
  obtain ⟨bs, r1, r2, r3, r4, r5⟩ := parts_own hi hy hm
  have hlen : parts.toList.length = len := by have := congrArg List.length hp; simpa using this
  have hyl : ys.length = len := by
    rw [parts_len hy, List.length_map, hlen]
  have hvs : ∀ v, v ∈ (parts.toList.map (·.2)).map a.eval → v.cells.size = te.size := fun v hv => by
    obtain ⟨x, hx, rfl⟩ := List.mem_map.1 hv
    exact r5 x hx
  have hzip : (parts.map fun x => (x.1, a.eval x.2)).toList = (List.range' 0 ((parts.toList.map (·.2)).map a.eval).length).zip ((parts.toList.map (·.2)).map a.eval) := by
    rw [Array.toList_map, List.length_map, List.length_map, hlen, ← List.range_eq_range', ← hp]
    exact zip_parts a.eval parts.toList
  have hrep : ((parts.toList.map (·.2)).map a.eval).flatMap (fun v => v.cells.toList) = (parts.toList.map (·.2)).flatMap fun x => (a.eval x).cells.toList := by
    rw [List.flatMap_map]
  have hzv : zv.cells.size = te.size := by rw [← hzs, ← q5]; simp
  have hrun : (execOp a.eval o).run P w = .ok (.value (.slice (some ⟨w.heap.size, 0, none⟩) len len)) (w.alloc (.cells ((parts.toList.map (·.2)).flatMap fun x => (a.eval x).cells.toList).toArray e)) := by
    have hfill := fill_run te.size ((parts.toList.map (·.2)).map a.eval) 0 [] (madeCells zv.cells (len * te.size)).toList (by simp) (by simp [size_madeCells, hlen]) hvs
    rw [← hzip, hrep] at hfill
    simp only [List.nil_append, Array.toArray_toList] at hfill
    have h24 : (2 : Nat) ^ 24 = 16777216 := by decide
    have hnot : ¬ (len * te.size > 2 ^ 24) := by omega
    by_cases h0 : len * te.size = 0
    · have hmz : madeCells zv.cells (len * te.size) = #[] := by rw [h0]; simp [madeCells]
      rw [hmz] at hfill
      have hr0 : Array.range 0 = #[] := by apply Array.ext <;> simp
      simp only [execOp, ho, Instr.buildSlice, Sem.run_bind, run_underlying hu.2, Result.andThen_ok, run_sizeOf (hΓ.get h3), h0, hr0]
      simp at hfill ⊢
      simp [hr0, hfill, newRow]
    · have hmz : (Array.range (len * te.size)).map (zv.cells[· % zv.cells.size]!) = madeCells zv.cells (len * te.size) := rfl
      simp only [execOp, ho, Instr.buildSlice, Sem.run_bind, run_underlying hu.2, Result.andThen_ok, run_sizeOf (hΓ.get h3), if_neg hnot, if_neg h0, Sem.run_ite, Sem.run_pure]
      simp [zeroValue, typeInfo, q1, q4, madeCells] at hfill ⊢
      simp [hfill, newRow]
  refine wpList_plain hg fun K hK => ?_
  unfold Oper.wp
  rw [hrun, Oper.upon_value, hd]
  refine hK _ _ (kk _ _ ?_)
  have hrl := r1.length
  rw [flat_length r4] at hrl
  have := hi.newsl ht (movedL s.fr (parts.toList.map (·.2))) (fr' := eatL (movedL s.fr (parts.toList.map (·.2))) (killF t s.fr)) (arr := ((parts.toList.map (·.2)).flatMap fun x => (a.eval x).cells.toList).toArray) (n := te.size) (cap := len) (xs := ys) (bs := bs) e
    (fun u => look_eatL _ _ u) (by simpa [hyl] using hrl) r4 (by omega) (by
      have := Nat.le_trans (Nat.le_mul_of_pos_right len hpos) hl
      simp only [maxLen]; omega) (by rw [List.take_of_length_le (by simp [hrl])]; exact r1) r2 r3
  rw [hyl] at this ⊢
  exact this

end
end Go.Eng
