import Derived.Test.YtimpganophnehaaGreatMd
set_option linter.unusedVariables false
set_option linter.unusedSimpArgs false
section
/- What is known of values, put in order; memory that is not there. -/
namespace Go.Eng
open Go.RowKit
section
variable {P : Program} {c : Ctx} {s : St} {Q : Exit → St → Prop} {ops : Array Oper} {rest : List Oper} {o : Oper}
end
end Go.Eng
end
section
/- Structs whose fields are structs, put together out of their parts. -/
namespace Go.Eng
open Go.RowKit
section
variable {P : Program} {c : Ctx} {s : St} {Q : Exit → St → Prop} {ops : Array Oper} {rest : List Oper} {o : Oper}
end
section
variable {P : Program} {c : Ctx} {s : St} {M0 : List (Nat × Blk)} {acc : List Dl} {Q : St → List Dl → Prop} {ops : Array Oper} {rest : List Oper} {o : Oper}
end
end Go.Eng
end
section
/- Slices made of so many, copied into, named: of whole numbers. -/
namespace Go.Eng
open Go.RowKit
section
variable {P : Program} {c : Ctx} {s : St} {Q : Exit → St → Prop} {ops : Array Oper} {rest : List Oper} {o : Oper}
theorem Le.eqK {id : Nat} {k k' : Blk} (h1 : lookM s.M id = some k) (h : k = k') : Le c s ⟨s.fr, (id, k') :: s.M⟩ := by
 subst h
 refine Le.of (fun t => .inl rfl) (fun i => .inl ?_)
 simp only [lookM]
 split
 ·rename_i e; subst e; exact h1.symm
 ·rfl
theorem vals_int (l : List Int) : (l.map (Value.int .i64)).map T.v = l.map T.int := by rw [List.map_map]; rfl
theorem WO_copyI {t id len e : Nat} {ty ty' : TypeId} {x y : Operand} {us zs : List Int} (hg : o.guard = none) (hd : o.dst = some t) (ht : t < c.n) (ho : o.op = .call { callee := .builtin .copy, args := #[x, y], argTypes := #[ty, ty'] })
  (hu : P.underlying ty = some (.slice e)) (hsz : (P.info? e).map (·.size) = some 1)
  (hx : opd s.fr x = .sl id 0 len) (hM : lookM s.M id = some (.L 1 (us.map T.int))) (hlen : us.length = len) (hy : opd s.fr y = .t (.list 1 (zs.map T.int))) (hle : zs.length ≤ us.length)
  (k : WO P c ops rest ⟨(t, .t (.int zs.length)) :: s.fr, (id, .L 1 ((zs ++ us.drop zs.length).map T.int)) :: s.M⟩ Q) : WO P c ops (o :: rest) s Q := by
 refine WO_copyB (us := us.map (Value.int .i64)) (zs := zs.map (Value.int .i64)) hg hd ht ho hu hsz hx (by rw [vals_int]; exact hM) (by simpa using hlen) (by rw [vals_int]; exact hy) (by simpa using hle) ?_
 rw [List.length_map, ← List.map_drop, ← List.map_append, vals_int]
 exact k
end
section
variable {P : Program} {c : Ctx} {s : St} {M0 : List (Nat × Blk)} {acc : List Dl} {Q : St → List Dl → Prop} {ops : Array Oper} {rest : List Oper} {o : Oper}
end
end Go.Eng
end
section
/- Statements of open order that make ready what they lend, once it is read. -/
namespace Go.Eng
open Go.RowKit
section
variable {P : Program} {c : Ctx} {s : St} {ops : Array Oper} {rest : List Oper} {o : Oper}
end
section
variable {P : Program} {c : Ctx} {s : St} {Q : Exit → St → Prop} {ops : Array Oper} {rest : List Oper} {o : Oper}
theorem WO_makeI {Γ : Tys} (hΓ : Γ.ok P) {ty e t : Nat} {x : Operand} {ti te : TI} {i : Int} (z : T) (hg : o.guard = none) (hd : o.dst = some t) (ht : t < c.n) (ho : o.op = .makeSlice ty x x)
  (h1 : tyOf Γ ty = some ti) (h2 : ti.kind = .slice e) (h3 : tyOf Γ e = some te) (hx : opd s.fr x = .t (.int i)) (hz : AbsL (te.zero.map constD) z.cells) (hn : z.cells.length = te.size) (h0 : 0 ≤ i)
  (hk : i ≤ 1073741824) (hb : te.bytes ≤ 131072)
  (kk : WO P c ops rest ⟨(t, .sl t 0 i.toNat) :: killF t s.fr, (t, .L te.size (List.replicate i.toNat z)) :: killM t s.M⟩ Q) : WO P c ops (o :: rest) s Q :=
 WO_make hΓ z i.toNat hg hd ht ho h1 h2 h3 (by rw [hx, Int.toNat_of_nonneg h0]) hz hn (by omega) hb kk
end
end Go.Eng
end
section
/- One cell of a list is laid open: the list that it owns gets a name. -/
namespace Go.Eng
open Go.RowKit
section
variable {P : Program} {c : Ctx} {s : St} {Q : Exit → St → Prop} {ops : Array Oper} {rest : List Oper} {o : Oper}
theorem Le.rawListO {id b n cap : Nat} {vs : List Value} {ys : List T} (pid : Nat) (hM : lookM s.M id = some (.raw b (cap * n) vs (ys.flatMap T.cells))) (h2 : lookM s.M pid = none) (h3 : clFr id s.fr = true) (h4 : (s.M.all fun p => cleanB id p.2) = true)
  (hn : ∀ y, y ∈ ys → (T.cells y).length = n) (hl : ys.length ≤ cap) (hc : cap ≤ maxLen) :
  Le c s ⟨s.fr, (id, .L n ys) :: (pid, .pin id b n cap) :: s.M⟩ := by
 rintro a w ⟨F, β, fb, mb, ow, hi⟩
 refine hi.name pid hM h2 h3 h4 fun β' hβ hm => ?_
 obtain ⟨arr, e, bs, q1, q2, q3, q4, q5⟩ := hm
 have hvl : vs.length = ys.length * n := by rw [q4.length, flat_length hn]
 exact .inr ⟨b, cap, arr, e, bs, hβ, q1, q2, hn, hl, hc, by rw [← hvl, q3]; exact q4, q5⟩
end
end Go.Eng
end
section
/- A copy within one list of plain values of the function's own. -/
namespace Go.Eng
open Go.RowKit
section
variable {P : Program} {c : Ctx} {s : St} {Q : Exit → St → Prop} {ops : Array Oper} {rest : List Oper} {o : Oper}
theorem WO_copyS {t id o1 l1 o2 l2 m e : Nat} {ty ty' : TypeId} {x y : Operand} {us : List Value} (hg : o.guard = none) (hd : o.dst = some t) (ht : t < c.n) (ho : o.op = .call { callee := .builtin .copy, args := #[x, y], argTypes := #[ty, ty'] })
  (hu : P.underlying ty = some (.slice e)) (hsz : (P.info? e).map (·.size) = some 1)
  (hx : opd s.fr x = .sl id o1 l1) (hy : opd s.fr y = .sl id o2 l2) (hM : lookM s.M id = some (.L 1 (us.map T.v))) (h1 : o1 + l1 ≤ us.length) (h2 : o2 + l2 ≤ us.length) (hm : m = Nat.min l2 l1) (hpos : 0 < m)
  (k : WO P c ops rest ⟨(t, .t (.int m)) :: s.fr, (id, .L 1 ((us.take o1 ++ (us.drop o2).take m ++ us.drop (o1 + m)).map T.v)) :: s.M⟩ Q) : WO P c ops (o :: rest) s Q := by
 have hm1 : m ≤ l1 ∧ m ≤ l2 := by rw [hm]; exact ⟨Nat.min_le_right .., Nat.min_le_left ..⟩
 rintro a w ⟨F, β, fb, mb, ow, hi⟩
 obtain ⟨bx, hrx, _⟩ := hi.opd x
 rw [hx] at hrx
 obtain ⟨by', hry, _⟩ := hi.opd y
 rw [hy] at hry
 have hmm := hi.mem id
 rw [hM] at hmm
 generalize hevx : a.eval x = xv at hrx
 generalize hevy : a.eval y = yv at hry
 rcases hmm with ⟨_, hn, _⟩ | ⟨b, cap, arr, e', bs1, q1, q2, q3, q4, q5, q6, q7, hb5⟩
 ·have : us = [] := List.map_eq_nil_iff.1 hn
  subst this; simp at h1; omega
 ·rw [List.length_map] at q5
  have hsl : ∀ {v : Value} {of ln : Nat} {bs : List Nat}, RelD w F β [v] [.sl id of ln] bs → 0 < ln → ∃ kc, v = .slice (some ⟨b, of, none⟩) ln kc := by
   intro v of ln bs h hp
   cases h with
   | slnil p1 _ => rw [q1] at p1; cases p1
   | sl p1 p2 p3 p4 _ =>
    rw [q1] at p1
    cases p1
    exact ⟨_, by rw [p4 (by omega), Nat.mul_one]⟩
  obtain ⟨kx, rfl⟩ := hsl hrx (by omega)
  obtain ⟨ky, rfl⟩ := hsl hry (by omega)
  rw [List.length_map, Nat.mul_one, flat_vals] at q7
  obtain ⟨e1, e2, hone⟩ := ownL_vals q7
  subst e2
  rw [Nat.mul_one] at q3
  have hal : us.length ≤ arr.size := by have := congrArg List.length e1; rw [List.length_take, Array.length_toList] at this; omega
  have hat : ∀ j, j < us.length → arr[j]? = us[j]? := fun j hj => by
   rw [← Array.getElem?_toList, ← e1, List.getElem?_take, if_pos hj]
  generalize hzs : (us.drop o2).take m = zs
  have hzl : zs.length = m := by rw [← hzs, List.length_take, List.length_drop]; omega
  have hzone : ∀ v, v ∈ zs → v.oneCell' = true := fun v hv => hone v (by
   rw [e1]
   rw [← hzs] at hv
   exact List.mem_of_mem_drop (List.mem_of_mem_take hv))
  have hsrc : ∀ j v, zs[j]? = some v → w.cell? ((⟨b, o2, none⟩ : Addr).add j) = some v := fun j v hj => by
   rw [add_none, cell_of q2]
   have hjl := (List.getElem?_eq_some_iff.1 hj).1
   rw [hat _ (by omega)]
   rw [← hzs, List.getElem?_take, if_pos (by omega), List.getElem?_drop] at hj
   exact hj
  have hrun := run_copy_row (P := P) w ty ty' o.type e b o1 l1 kx ⟨b, o2, none⟩ l2 ky arr e' zs hu hsz q2 (by rw [hzl, hm]) hsrc (by rw [hzl]; omega) hzone
  refine wpList_plain hg fun K hK => ?_
  unfold Oper.wp
  have hex : (execOp a.eval o).run P w = .ok (.value (goInt zs.length)) (w.setRow b (arr.toList.take o1 ++ zs ++ arr.toList.drop (o1 + zs.length)).toArray) := by
   simp [execOp, ho, resolve, invoke, builtin, hevx, hevy, hrun, Result.andThen]
  rw [hex, Oper.upon_value, hd]
  rw [hzs, ← hzl] at k
  refine hK _ _ (k _ _ ?_)
  have hob : ow b = some (.inr id) := hi.omem id b (by rw [hb5]; simp)
  have hkeep : ∀ b', b' ≠ b → (w.setRow b (arr.toList.take o1 ++ zs ++ arr.toList.drop (o1 + zs.length)).toArray).heap[b']? = w.heap[b']? := fun b' h => setRow_other w b b' _ h
  have hnl : (us.take o1 ++ zs ++ us.drop (o1 + zs.length)).length = us.length := by
   simp only [List.length_append, List.length_take, List.length_drop]; omega
  refine hi.renew id (Anew.same id β) (fun _ => False) [b] (.L 1 ((us.take o1 ++ zs ++ us.drop (o1 + zs.length)).map T.v)) (some (t, goInt zs.length, .t (.int zs.length))) rfl ?_ rfl rfl rfl (by simp)
   (fun b' hb' h => hkeep b' fun e => (h _ (e ▸ hob)).2 rfl) ?_ (by simp [lookM]) ?_ (by simp) ?_ ?_
  ·rintro t' v d h
   cases h
   exact ⟨ht, .t (.v rfl .nil) .done, by simp [look]⟩
  ·intro u hu'
   have := hu' _ _ _ rfl
   exact .inl ⟨by simp [look, Ne.symm this], by simp⟩
  ·refine .inr ⟨b, cap, _, e', [], q1, setRow_heap w b arr _ e' _ q2, ?_, fun z hz => ?_, by rw [List.length_map, hnl]; exact q5, q6, ?_, rfl⟩
   ·simp only [List.size_toArray, List.length_append, List.length_take, List.length_drop, Array.length_toList]; omega
   ·obtain ⟨v, _, rfl⟩ := List.mem_map.1 hz; rfl
   ·rw [flat_vals, List.length_map, Nat.mul_one, hnl]
    have e3 : (arr.toList.take o1 ++ zs ++ arr.toList.drop (o1 + zs.length)).toArray.toList.take us.length = us.take o1 ++ zs ++ us.drop (o1 + zs.length) := by
     have g1 : us.take o1 = arr.toList.take o1 := by
      conv => lhs; rw [← e1]
      rw [List.take_take]; congr 1; omega
     have g2 : us.drop (o1 + zs.length) = (arr.toList.drop (o1 + zs.length)).take (us.length - (o1 + zs.length)) := by
      conv => lhs; rw [← e1]
      rw [List.drop_take]
     have g3 : (arr.toList.take o1 ++ zs).length = o1 + zs.length := by
      simp only [List.length_append, List.length_take, Array.length_toList]; omega
     rw [g1, g2]
     show List.take us.length (arr.toList.take o1 ++ zs ++ arr.toList.drop (o1 + zs.length)) = _
     rw [List.take_append, g3, List.take_of_length_le (by rw [g3]; omega)]
    rw [e3]
    refine ownL_of_vals fun v hv => ?_
    rcases List.mem_append.1 hv with hv | hv
    ·rcases List.mem_append.1 hv with hv | hv
     ·exact hone v (by rw [e1]; exact List.mem_of_mem_take hv)
     ·exact hzone v hv
    ·exact hone v (by rw [e1]; exact List.mem_of_mem_drop hv)
  ·intro b' h
   rw [List.mem_singleton] at h
   subst h
   exact .inr ⟨_, hob, .inr rfl⟩
  ·intro id' hid
   simp only [lookM, if_neg (Ne.symm hid)]
   refine .inr ⟨by simp, ?_⟩
   cases lookM s.M id' <;> rfl
theorem QH_copyS {Q : St → List Dl → Prop} {acc : List Dl} {b : List Nat} {bs : List (List Nat)} {t id o1 l1 o2 l2 m e : Nat} {ty ty' : TypeId} {x y : Operand} {us : List Int} (hg : o.guard = none) (hd : o.dst = some t) (ht : t < c.n) (ho : o.op = .call { callee := .builtin .copy, args := #[x, y], argTypes := #[ty, ty'] })
  (hu : P.underlying ty = some (.slice e)) (hsz : (P.info? e).map (·.size) = some 1)
  (hx : opd s.fr x = .sl id o1 l1) (hy : opd s.fr y = .sl id o2 l2) (hM : lookM (dropB b s.M) id = some (.L 1 (us.map T.int))) (h1 : o1 + l1 ≤ us.length) (h2 : o2 + l2 ≤ us.length) (hm : m = Nat.min l2 l1) (hpos : 0 < m)
  (k : QH P c ops bs rest ⟨(t, .t (.int m)) :: s.fr, (id, .L 1 ((us.take o1 ++ (us.drop o2).take m ++ us.drop (o1 + m)).map T.int)) :: s.M⟩ (acc ++ [⟨t, .t (.int m), [], [(id, .L 1 ((us.take o1 ++ (us.drop o2).take m ++ us.drop (o1 + m)).map T.int))], false⟩]) Q) : QH P c ops (b :: bs) (o :: rest) s acc Q :=
 ⟨⟨t, .t (.int m), [], [(id, .L 1 ((us.take o1 ++ (us.drop o2).take m ++ us.drop (o1 + m)).map T.int))], false⟩, fun s' ha _ Q h => by
  refine WO_copyS (us := us.map (Value.int .i64)) hg hd ht ho hu hsz (by rw [ha.opd (by rw [ho]; simp [Op.operands, Call.operands])]; exact hx) (by rw [ha.opd (by rw [ho]; simp [Op.operands, Call.operands])]; exact hy) (by rw [vals_int]; exact ha.1 _ _ hM) (by simpa using h1) (by simpa using h2) hm hpos ?_
  rw [← List.map_take, ← List.map_drop, ← List.map_take, ← List.map_drop, ← List.map_append, ← List.map_append, vals_int]
  exact h, k⟩
theorem WO_gtrU {k : IntKind} {t ty ty' : Nat} {x y : Operand} {a b : Int} (hg : o.guard = none) (hd : o.dst = some t) (ht : t < c.n) (ho : o.op = .binOp .gtr ty x y ty') (hx : opd s.fr x = .t (.v (.int k a))) (hy : opd s.fr y = .t (.v (.int k b)))
  (kk : WO P c ops rest ⟨(t, .t (.bool (decide (b < a)))) :: s.fr, s.M⟩ Q) : WO P c ops (o :: rest) s Q := by
 refine WO_val hg hd ht _ (fun a' w F β fb mb ow hi => ?_) kk
 refine ⟨.bool (decide (b < a)), ?_, .t (.v rfl .nil) .done⟩
 have e1 := eval_v hi hx
 have e2 := eval_v hi hy
 simp only [execOp, ho, e1, e2]
 simp [eqGuard, binOp, Op.intCmp]
theorem WO_loadU {Γ : Tys} (hΓ : Γ.ok P) {ty t b sz id off : Nat} {x : Operand} {ti : TI} {vs : List Value} {ts : List T} {y : T} {u : Value} (hg : o.guard = none) (hd : o.dst = some t) (ht : t < c.n) (ho : o.op = .load ty x)
  (h1 : tyOf Γ ty = some ti) (h2 : ti.kind.isAgg = false) (hx : opd s.fr x = .t (.v (.pointer (some ⟨b, off, none⟩)))) (hM : lookM s.M id = some (.raw b sz vs ts)) (hy : ts[off]? = some y) (hu : vs[off]? = some u)
  (k : WO P c ops rest ⟨(t, .t (.v u)) :: s.fr, s.M⟩ Q) : WO P c ops (o :: rest) s Q :=
 WO_loadV hΓ hg hd ht ho h1 h2 hx hM hy fun u' hu' => by rw [hu] at hu'; cases hu'; exact k
theorem QL_loadU {Q : St → Prop} {Γ : Tys} (hΓ : Γ.ok P) {ty t b sz id off : Nat} {x : Operand} {ti : TI} {vs : List Value} {ts : List T} {y : T} {u : Value} (hg : o.guard = none) (hd : o.dst = some t) (ht : t < c.n) (ho : o.op = .load ty x)
  (h1 : tyOf Γ ty = some ti) (h2 : ti.kind.isAgg = false) (hx : opd s.fr x = .t (.v (.pointer (some ⟨b, off, none⟩)))) (hM : lookM s.M id = some (.raw b sz vs ts)) (hy : ts[off]? = some y) (hu : vs[off]? = some u)
  (k : QL P c ops rest ⟨(t, .t (.v u)) :: s.fr, s.M⟩ Q) : QL P c ops (o :: rest) s Q :=
 ⟨t, _, hd, fun s' ha Q h => WO_loadU hΓ hg hd ht ho h1 h2 (by rw [ha.opd (by rw [ho]; simp [Op.operands])]; exact hx) (by rw [ha.1]; exact hM) hy hu h, k⟩
theorem QG_loadU {M0 : List (Nat × Blk)} {acc : List Dl} {Q : St → List Dl → Prop} {Γ : Tys} (hΓ : Γ.ok P) {ty t b sz id off : Nat} {x : Operand} {ti : TI} {vs : List Value} {ts : List T} {y : T} {u : Value} (hg : o.guard = none) (hd : o.dst = some t) (ht : t < c.n) (ho : o.op = .load ty x)
  (h1 : tyOf Γ ty = some ti) (h2 : ti.kind.isAgg = false) (hx : opd s.fr x = .t (.v (.pointer (some ⟨b, off, none⟩)))) (hM : lookM M0 id = some (.raw b sz vs ts)) (hy : ts[off]? = some y) (hu : vs[off]? = some u)
  (k : QG P c ops M0 rest ⟨(t, .t (.v u)) :: s.fr, s.M⟩ (acc ++ [pl t (.t (.v u))]) Q) : QG P c ops M0 (o :: rest) s acc Q :=
 ⟨pl t _, hd, fun s' ha _ Q h => WO_loadU hΓ hg hd ht ho h1 h2 (by rw [ha.opd (by rw [ho]; simp [Op.operands])]; exact hx) (ha.1 _ _ hM) hy hu h, k⟩
theorem QH_storeU {Q : St → List Dl → Prop} {acc : List Dl} {b : List Nat} {bs : List (List Nat)} {Γ : Tys} (hΓ : Γ.ok P) {ty bb sz id off : Nat} {x y : Operand} {ti : TI} {vs : List Value} {ts : List T} {u0 u : Value} (gt : Nat) (hg : o.guard = none) (hd : o.dst = none) (ho : o.op = .store ty x y)
  (h1 : tyOf Γ ty = some ti) (h2 : ti.size = 1) (hx : opd s.fr x = .t (.v (.pointer (some ⟨bb, off, none⟩)))) (hM : lookM (dropB b s.M) id = some (.raw bb sz vs ts)) (ht : ts[off]? = some (.v u0)) (hy : opd s.fr y = .t (.v u)) (hu : u.cells = #[u]) (hone : u.oneCell' = true)
  (k : QH P c ops bs rest ⟨(gt, .top) :: s.fr, (id, .raw bb sz (vs.set off u) (ts.set off (.v u))) :: s.M⟩ (acc ++ [⟨gt, .top, [], [(id, .raw bb sz (vs.set off u) (ts.set off (.v u)))], false⟩]) Q) : QH P c ops (b :: bs) (o :: rest) s acc Q :=
 ⟨⟨gt, .top, [], [(id, .raw bb sz (vs.set off u) (ts.set off (.v u)))], false⟩, fun s' ha _ Q h => by
  refine WO_storeV hΓ hg hd ho h1 h2 (by rw [ha.opd (by rw [ho]; simp [Op.operands])]; exact hx) (ha.1 _ _ hM) ht (by rw [ha.opd (by rw [ho]; simp [Op.operands])]; exact hy) hu hone ?_
  have hle : Le c ⟨s'.fr, (id, .raw bb sz (vs.set off u) (ts.set off (.v u))) :: s'.M⟩ ⟨(gt, .top) :: s'.fr, (id, .raw bb sz (vs.set off u) (ts.set off (.v u))) :: s'.M⟩ := Le.of (fun v => by
   show (if gt = v then D.top else look s'.fr v) = look s'.fr v ∨ (if gt = v then D.top else look s'.fr v) = D.top
   split
   ·exact .inr rfl
   ·exact .inl rfl) (fun v => .inl rfl)
  exact WO_le hle h, k⟩
theorem Le.rawCut {id b sz : Nat} {vs : List Value} (m : Nat) (hM : lookM s.M id = some (.raw b sz vs (vs.map T.v))) : Le c s ⟨s.fr, (id, .raw b sz (vs.take m) ((vs.take m).map T.v)) :: s.M⟩ := by
 rintro a w ⟨F, β, fb, mb, ow, hi⟩
 have hm := hi.mem id
 rw [hM] at hm
 refine ⟨F, β, fb, mb, ow, { hi with mem := fun i => ?_ }⟩
 simp only [lookM]
 by_cases h : id = i
 ·subst h
  rw [if_pos rfl]
  obtain ⟨arr, e, bs, q1, q2, q3, q4, q5⟩ := hm
  obtain ⟨e1, e2, hone⟩ := ownL_vals q4
  subst e2
  refine ⟨arr, e, [], q1, q2, ?_, ownL_of_vals fun v hv => hone v (List.mem_of_mem_take hv), q5⟩
  conv => rhs; rw [← q3]
  rw [List.take_take, List.length_take]
 ·rw [if_neg h]; exact hi.mem i
end
end Go.Eng
end
