/- The abstract machine's rules for what slices.Grow does with a nil slice. -/
import Derived.Test.YtbkamkmmljbedaaEng12
import Derived.Lib.AppendZeros
set_option linter.unusedVariables false
set_option linter.unusedSimpArgs false
namespace Go.Eng
open Go.RowKit

section
variable {P : Program} {c : Ctx} {s : St} {Q : Exit → St → Prop} {ops : Array Oper} {rest : List Oper} {o : Oper}

theorem eval_nil {a : Act} {w : World} {F β fb mb ow} (hi : Conc c s a w F β fb mb ow) {x : Operand} (hx : opd s.fr x = .nil) : a.eval x = .slice none 0 0 := by
  obtain ⟨bs, hr, _⟩ := hi.opd x
  rw [hx] at hr
  generalize a.eval x = xv at hr
  cases hr with
  | nil _ => rfl

/-- cap of nil. -/
theorem WO_capNil {t ty : Nat} {x : Operand} (hg : o.guard = none) (hd : o.dst = some t) (ht : t < c.n) (ho : o.op = .call { callee := .builtin .cap, args := #[x], argTypes := #[ty] })
    (hu : ∃ e, P.underlying ty = some (.slice e)) (hx : opd s.fr x = .nil) (k : WO P c ops rest ⟨(t, .t (.int 0)) :: s.fr, s.M⟩ Q) : WO P c ops (o :: rest) s Q := by
  refine WO_val hg hd ht _ (fun a w F β fb mb ow hi => ?_) k
  obtain ⟨e, hu⟩ := hu
  refine ⟨.int .i64 0, ?_, .t (.v rfl .nil) .done⟩
  simp [execOp, ho, resolve, invoke, builtin, eval_nil hi hx, Builtin.cap_, run_underlying hu]
  rfl

/-- A part of nil. -/
theorem WO_sliceNil {Γ : Tys} (hΓ : Γ.ok P) {ty e t : Nat} {x : Operand} {lo hi' : Option Operand} {ti te : TI} (hg : o.guard = none) (hd : o.dst = some t) (ht : t < c.n) (ho : o.op = .slice ty x lo hi' none)
    (h1 : tyOf Γ ty = some ti) (h2 : ti.kind = .slice e) (h3 : tyOf Γ e = some te) (hx : opd s.fr x = .nil) (hlo : optI s.fr lo 0 = some 0) (hhi : optI s.fr hi' 0 = some 0)
    (k : WO P c ops rest ⟨(t, .nil) :: s.fr, s.M⟩ Q) : WO P c ops (o :: rest) s Q := by
  refine WO_val hg hd ht _ (fun a w F β fb mb ow hi => ?_) k
  have hrun := run_slice (P := P) (len := 0) (ad := none) (cap := 0) (hΓ.get h1) h2 (hΓ.get h3) (a := a) hi hlo hhi (Int.le_refl 0) (Int.le_refl 0) (Int.le_refl 0) (Nat.le_refl 0)
  refine ⟨.slice none 0 0, ?_, .nil .done⟩
  simp only [execOp, ho, eval_nil hi hx, Sem.run_bind, Option.map_none, hrun, Result.andThen_ok]
  rfl

/-- append to nil of so many zero values. -/
theorem WO_growNil {Γ : Tys} (hΓ : Γ.ok P) {ty tn e t : Nat} {x y : Operand} {ti te : TI} (z : T) {k : Int} (hg : o.guard = none) (hd : o.dst = some t) (ht : t < c.n)
    (ho : o.op = .call { callee := .builtin .append, args := #[x, y], argTypes := #[ty, tn] })
    (h1 : tyOf Γ ty = some ti) (h2 : ti.kind = .slice e) (h3 : tyOf Γ e = some te) (htn : P.underlying tn = some (.int .i64)) (hx : opd s.fr x = .nil) (hy : opd s.fr y = .t (.int k)) (hz : AbsL (te.zero.map constD) z.cells) (hn : z.cells.length = te.size) (hpos : 0 < te.size)
    (hk0 : 0 < k) (hk : k ≤ 1073741824) (hb : te.bytes ≤ 131072)
    (kk : WO P c ops rest ⟨(t, .sl t 0 k.toNat) :: killF t s.fr, (t, .L te.size (List.replicate k.toNat z)) :: killM t s.M⟩ Q) : WO P c ops (o :: rest) s Q := by
  rintro a w ⟨F, β, fb, mb, ow, hi⟩
  obtain ⟨bs, hr, _⟩ := hi.opd y
  rw [hy] at hr
  have e1 := relD_t hr
  obtain ⟨n, rfl⟩ : ∃ n : Nat, k = n := ⟨k.toNat, by omega⟩
  simp only [Int.toNat_natCast] at kk
  obtain ⟨⟨i, zv, q1, q2, q3, q4, q5⟩, _⟩ := hΓ.get h3
  have hu := (hΓ.get h1).2
  rw [h2] at hu
  have hbk : n * i.bytes ≤ 281474976710656 := by
    rw [q3]
    exact Nat.le_trans (Nat.mul_le_mul (show n ≤ 1073741824 by omega) hb) (by decide)
  have hzc : OwnL w zv.cells.toList z.cells [] := by
    have h := absL (w := w) (F := F) (β := β) (constD_rels te.zero) hz
    rwa [← q5] at h
  have hzs : zv.cells.size = te.size := by have := hzc.length; simpa [hn] using this
  have hrun := Go.Lib.run_append_nil_zeros (P := P) w ty tn o.type e i zv .i64 .i64 hu.2 htn q1 q4 n (by omega) (by rw [q2]; exact hpos) (by omega) hbk
  have hex : (execOp a.eval o).run P w = .ok (.value (.slice (some ⟨w.heap.size, 0, none⟩) n (grownCap w n 0 e))) (w.drew.alloc (.cells (Builtin.zeroCells zv.cells n ++ Builtin.zeroCells zv.cells (grownCap w n 0 e - n)) e)) := by
    simp only [execOp, ho, resolve, invoke, builtin, Sem.run_bind, Sem.run_pure, Result.andThen_ok, List.map_toArray, List.map_cons, List.map_nil, eval_nil hi hx, e1, hrun]
  refine wpList_plain hg fun K hK => ?_
  unfold Oper.wp
  rw [hex, Oper.upon_value, hd]
  refine hK _ _ (kk _ _ ?_)
  have hm : (Builtin.zeroCells zv.cells n).toList = (List.replicate n zv.cells.toList).flatten := by
    have := made_list zv.cells te.size hzs n
    rw [← this]
    unfold Builtin.zeroCells madeCells
    rw [hzs]
  have hsz : ∀ m, (Builtin.zeroCells zv.cells m).size = m * te.size := fun m => by simp [Builtin.zeroCells, hzs]
  have hge := grownCap_ge w n 0 e
  have := hi.drew.newsl ht [] (fr' := killF t s.fr) (arr := Builtin.zeroCells zv.cells n ++ Builtin.zeroCells zv.cells (grownCap w n 0 e - n)) (n := te.size) (cap := grownCap w n 0 e) (xs := List.replicate n z) (bs := []) e (fun u => .inl ⟨rfl, by simp⟩)
    (by rw [Array.size_append, hsz, hsz, ← Nat.add_mul]; congr 1; omega)
    (fun y hy => by rw [(List.mem_replicate.1 hy).2]; exact hn) (by simpa using hge) (grownCap_le_maxLen w _ _ _ (by simp only [maxLen]; omega)) (by
      rw [List.length_replicate, Array.toList_append, List.take_append_of_le_length (by rw [Array.length_toList, hsz]; exact Nat.le_refl _), List.take_of_length_le (by rw [Array.length_toList, hsz]; exact Nat.le_refl _), hm, List.flatMap_def, List.map_replicate]
      exact (own_replicate hzc n).mono (by simp)) List.nodup_nil (by simp)
  simpa using this

/-- nil, as an own slice of nothing. -/
theorem Le.nilOwn {u : Nat} (n : Nat) (h1 : look s.fr u = .nil) : Le c s ⟨(u, .own (.list n [])) :: s.fr, s.M⟩ := by
  rintro a w ⟨F, β, fb, mb, ow, hi⟩
  refine ⟨F, β, fb, mb, ow, { hi with fr := fun v => ?_ }⟩
  show RelD w F β _ [if u = v then _ else _] _
  split
  · rename_i e
    subst e
    have h := hi.fr u
    rw [h1] at h
    generalize a.tmps.getD u undef = x at h
    generalize fb u = bs at h
    cases h with
    | nil h =>
      cases h
      exact .own (.none .nil) .done
  · exact hi.fr v
theorem lenN {α β : Type} {f : α → β} {l : List α} : (l.map f).length = l.length := List.length_map ..
/-- An own list becomes an own slice. -/
theorem Le.adoptE {u n m : Nat} {xs : List T} (id : Nat) (h1 : look s.fr u = .own (.list n xs)) (h2 : xs.length = m) :
    Le c s ⟨(u, .sl id 0 m) :: killF id s.fr, (id, .L n xs) :: killM id s.M⟩ := by
  subst h2; exact Le.adopt id h1
theorem getT0 {α : Type} (f : α → T) (l : List α) {i : Int} (h0 : 0 ≤ i) (h1 : i < l.length) : (l.map f)[0 + i.toNat]? = some (f (l[i.toNat]'(by omega))) := by
  rw [Nat.zero_add]; exact getT f l h0 h1
end
end Go.Eng
