import Derived.Test.YtimpganophnehaaGreatMd
set_option linter.unusedVariables false
set_option linter.unusedSimpArgs false
section
/- What is known of values, put in order; memory that is not there. -/
namespace Go.Eng
open Go.RowKit
theorem RelL.uncons {w : World} {F : Nat → Prop} {v : Value} {t : T} {vs : List Value} {ts : List T} (h : RelL w F (v :: vs) (t :: ts)) : RelL w F [v] [t] ∧ RelL w F vs ts := by
 cases h with
 | v h1 h2 => exact ⟨.v h1 .nil, h2⟩
 | none h2 => exact ⟨.none .nil, h2⟩
 | list q1 q2 q3 q4 q5 q6 q7 => exact ⟨.list q1 q2 q3 q4 q5 q6 .nil, q7⟩
section
variable {P : Program} {c : Ctx} {s : St} {Q : Exit → St → Prop} {ops : Array Oper} {rest : List Oper} {o : Oper}
theorem Le.noBox (id : Nat) (cells : List D) (h : lookM s.M id = none) : Le c s ⟨s.fr, (id, .obox (.pointer none) cells) :: s.M⟩ := by
 rintro a w ⟨F, β, fb, mb, ow, hi⟩
 have m1 := hi.mem id
 rw [h] at m1
 refine ⟨F, β, fb, mb, ow, ?_⟩
 exact { hi with
  mem := fun i => by
   simp only [lookM]
   by_cases h : id = i
   ·subst h; rw [if_pos rfl]
    exact .inl ⟨rfl, m1⟩
   ·rw [if_neg h]; exact hi.mem i }
end
end Go.Eng
end
section
/- Structs whose fields are structs, put together out of their parts. -/
namespace Go.Eng
open Go.RowKit
def setAt {α : Type} : List α → Nat → List α → List α
 | l, _, [] => l
 | l, k, x :: xs => setAt (l.set k x) (k + 1) xs
theorem length_setAt {α : Type} : ∀ (xs l : List α) (k : Nat), (setAt l k xs).length = l.length
 | [], _, _ => rfl
 | x :: xs, l, k => by rw [setAt, length_setAt]; simp
def okAt : List D → Nat → List D → Bool
 | _, _, [] => true
 | l, k, d :: ds => (match l[k]? with | some e => e.free | none => false) && okAt (l.set k d) (k + 1) ds
def setsW {α : Type} (pl : List (Nat × Nat)) : List (Nat × List α) → List α → List α
 | [], l => l
 | (i, xs) :: ps, l => setsW pl ps (setAt l (pl.getD i (0, 0)).1 xs)
def boxD' (d : D) : List D := (boxD d).getD []
def setsOkW (pl : List (Nat × Nat)) : List (Nat × D) → List D → Bool
 | [], _ => true
 | (i, d) :: ps, l => Nat.blt i pl.length && (match boxD d with | none => false | some ds => Nat.beq ds.length (pl.getD i (0, 0)).2 && (Nat.ble ((pl.getD i (0, 0)).1 + ds.length) l.length && (okAt l (pl.getD i (0, 0)).1 ds && setsOkW pl ps (setAt l (pl.getD i (0, 0)).1 ds))))
theorem relD_setAt {w : World} {F : Nat → Prop} {β : Place} : ∀ {xs : List Value} {ds : List D} {b1 : List Nat}, RelD w F β xs ds b1 → ∀ {vs es bs} (k : Nat), RelD w F β vs es bs → okAt es k ds = true → ∃ bs', RelD w F β (setAt vs k xs) (setAt es k ds) bs' ∧ bs'.Perm (b1 ++ bs)
 | [], [], b1, h1, vs, es, bs, k, hr, _ => by
  cases h1
  exact ⟨bs, hr, by simp⟩
 | [], _ :: _, _, h1, _, _, _, _, _, _ => by cases h1
 | _ :: _, [], _, h1, _, _, _, _, _, _ => by cases h1
 | x :: xs, d :: ds, b1, h1, vs, es, bs, k, hr, h => by
  obtain ⟨b2, b3, q1, q2, rfl⟩ := h1.cons
  simp only [okAt, Bool.and_eq_true] at h
  obtain ⟨bs1, r1, r2⟩ := relD_set q1 k hr h.1
  obtain ⟨bs', r3, r4⟩ := relD_setAt q2 (k + 1) r1 h.2
  refine ⟨bs', r3, r4.trans ?_⟩
  refine (List.Perm.append_left b3 r2).trans ?_
  rw [← List.append_assoc]
  exact List.Perm.append_right bs List.perm_append_comm
section
variable {P : Program} {c : Ctx} {s : St} {Q : Exit → St → Prop} {ops : Array Oper} {rest : List Oper} {o : Oper}
theorem parts_setW {a : Act} {w : World} {F β fb mb ow} (hi : Conc c s a w F β fb mb ow) {pl : List (Nat × Nat)} : ∀ {ps : List (Nat × Operand)} {vs : List Value} {ds : List D} {bs : List Nat}, RelD w F β vs ds bs → bs.Nodup → (∀ b, b ∈ bs → ∀ u, ow b = some (.inl u) → u ∉ movedL s.fr (ps.map (·.2))) →
  setsOkW pl (ps.map fun p => (p.1, opd s.fr p.2)) ds = true → (movedL s.fr (ps.map (·.2))).Nodup →
  ∃ bs', RelD w F β (setsW pl (ps.map fun p => (p.1, (a.eval p.2).cells.toList)) vs) (setsW pl (ps.map fun p => (p.1, boxD' (opd s.fr p.2))) ds) bs' ∧ bs'.Nodup ∧ (∀ b, b ∈ bs' → b ∈ bs ∨ ∃ u, ow b = some (.inl u) ∧ u ∈ movedL s.fr (ps.map (·.2))) ∧
   (∀ p, p ∈ ps → (a.eval p.2).cells.toList.length = (pl.getD p.1 (0, 0)).2 ∧ (a.eval p.2).cells.toList.all (·.oneCell') = true ∧ p.1 < pl.length ∧ (pl.getD p.1 (0, 0)).1 + (pl.getD p.1 (0, 0)).2 ≤ ds.length)
 | [], vs, ds, bs, hr, hn, _, _, _ => ⟨bs, hr, hn, fun b hb => .inl hb, by simp⟩
 | (i, x) :: ps, vs, ds, bs, hr, hn, hbs, hok, hm => by
  simp only [List.map_cons, setsOkW, Bool.and_eq_true] at hok
  obtain ⟨h0, hok⟩ := hok
  cases hbd : boxD (opd s.fr x) with
  | none => rw [hbd] at hok; cases hok
  | some es =>
  rw [hbd] at hok
  simp only [Bool.and_eq_true] at hok
  obtain ⟨h1, h1', h2, h3⟩ := hok
  obtain ⟨b1, hr1, hn1, hb1⟩ := hi.opdOwn x
  obtain ⟨hr1, hone⟩ := hr1.boxD hbd
  obtain ⟨bs1, q1, q2⟩ := relD_setAt hr1 _ hr h2
  have hmc : movedL s.fr (((i, x) :: ps).map (·.2)) = movedL s.fr [x] ++ movedL s.fr (ps.map (·.2)) := by
   unfold movedL
   rw [List.map_cons, ← List.filterMap_append]
   rfl
  rw [hmc] at hm hbs
  have hb1' : ∀ b, b ∈ b1 → ∃ u, ow b = some (.inl u) ∧ u ∈ movedL s.fr [x] := fun b hb => by
   obtain ⟨y, hy, he, u, rfl, rfl⟩ := hb1 b hb
   refine ⟨u, hy, ?_⟩
   unfold movedL
   rw [List.filterMap_cons, if_neg (by rw [he]; simp)]
   simp
  obtain ⟨hm1, hm2, hm3⟩ := List.nodup_append.1 hm
  have hn2 : bs1.Nodup := by
   refine q2.nodup_iff.2 (List.nodup_append.2 ⟨hn1, hn, fun b hb b' hb' e => ?_⟩)
   subst e
   obtain ⟨u, hu, hu2⟩ := hb1' b hb
   exact hbs b hb' u hu (List.mem_append_left _ hu2)
  obtain ⟨bs', r1, r2, r3, r4⟩ := parts_setW hi q1 hn2 (fun b hb u hu => by
   rcases List.mem_append.1 (q2.mem_iff.1 hb) with hb | hb
   ·obtain ⟨u', hu', hu2⟩ := hb1' b hb
    rw [hu] at hu'; cases hu'
    exact fun h => hm3 u hu2 u h rfl
   ·exact fun h => hbs b hb u hu (List.mem_append_right _ h)) h3 hm2
  have hlen : (a.eval x).cells.toList.length = es.length := hr1.length
  have h1 : es.length = (pl.getD i (0, 0)).2 := Nat.eq_of_beq_eq_true h1
  have h1' : (pl.getD i (0, 0)).1 + es.length ≤ ds.length := Nat.le_of_ble_eq_true h1'
  refine ⟨bs', by simpa only [List.map_cons, setsW, boxD', hbd, Option.getD_some] using r1, r2, fun b hb => ?_, fun p hp => ?_⟩
  ·rcases r3 b hb with h | ⟨u, hu, hu2⟩
   ·rcases List.mem_append.1 (q2.mem_iff.1 h) with h | h
    ·obtain ⟨u, hu, hu2⟩ := hb1' b h
     exact .inr ⟨u, hu, by rw [hmc]; exact List.mem_append_left _ hu2⟩
    ·exact .inl h
   ·exact .inr ⟨u, hu, by rw [hmc]; exact List.mem_append_right _ hu2⟩
  ·rcases List.mem_cons.1 hp with rfl | hp
   ·exact ⟨by rw [hlen, h1], hone, by simpa using h0, by rw [← h1]; exact h1'⟩
   ·have := r4 p hp
    rw [length_setAt] at this
    exact this
theorem zip_setAt : ∀ (l : List Value) (cells : Array Value) (off k : Nat), (l.zipIdx k).foldl (fun cs (x : Value × Nat) => cs.setIfInBounds (off + x.2) x.1) cells = (setAt cells.toList (off + k) l).toArray
 | [], cells, off, k => by simp [setAt]
 | x :: l, cells, off, k => by
  rw [List.zipIdx_cons, List.foldl_cons, zip_setAt l, setAt]
  simp [Nat.add_assoc]
theorem fill_setsW {places : Array (Nat × Nat)} {pl : List (Nat × Nat)} (hpl : ∀ i, i < pl.length → places[i]? = some (pl.getD i (0, 0))) : ∀ (ps : List (Nat × Value)) (cells : List Value), (∀ p, p ∈ ps → p.2.cells.toList.length = (pl.getD p.1 (0, 0)).2 ∧ p.1 < pl.length ∧ (pl.getD p.1 (0, 0)).1 + (pl.getD p.1 (0, 0)).2 ≤ cells.length) →
  Instr.fill (places[·]?) cells.toArray ps = some (setsW pl (ps.map fun p => (p.1, p.2.cells.toList)) cells).toArray
 | [], cells, _ => rfl
 | (i, v) :: ps, cells, h => by
  obtain ⟨h1, h2, h3⟩ := h _ (List.mem_cons_self ..)
  dsimp only at h1 h2 h3
  rw [Array.length_toList] at h1
  rw [Instr.fill, hpl i h2]
  dsimp only
  rw [if_neg (by simp [h1, -List.getD_eq_getElem?_getD]; omega)]
  have e : (v.cells.zipIdx.foldl (fun cs (x : Value × Nat) => cs.setIfInBounds ((pl.getD i (0, 0)).1 + x.2) x.1) cells.toArray) = (setAt cells (pl.getD i (0, 0)).1 v.cells.toList).toArray := by
   have := zip_setAt v.cells.toList cells.toArray (pl.getD i (0, 0)).1 0
   rw [← Array.foldl_toList, Array.toList_zipIdx]
   simpa using this
  rw [e, List.map_cons, setsW]
  exact fill_setsW hpl ps _ (fun p hp => by
   have := h p (List.mem_cons_of_mem _ hp)
   rw [length_setAt]
   exact this)
def placesOf (P : Program) (ty : Nat) : Option (List (Nat × Nat)) := match P.underlying ty with
 | some (.struct fs) => fs.toList.mapM fun f => match P.info? f.type with | some i => some (f.offset, i.size) | none => none
 | _ => none
theorem run_placesW {w : World} : ∀ {fs : List Field} {pl : List (Nat × Nat)} (h : (fs.mapM fun f => match P.info? f.type with | some i => some (f.offset, i.size) | none => none) = some pl),
  (fs.mapM fun f => (do pure (f.offset, ← sizeOf f.type) : Sem (Nat × Nat))).run P w = .ok pl w
 | [], pl, h => by
  rw [List.mapM_nil] at h; cases h; simp
 | f :: fs, pl, h => by
  rw [List.mapM_cons] at h
  cases hf : P.info? f.type with
  | none => rw [hf] at h; simp at h
  | some i =>
   rw [hf] at h
   simp only [Option.bind_eq_bind, Option.bind_some] at h
   cases hr : (fs.mapM fun f => match P.info? f.type with | some i => some (f.offset, i.size) | none => none) with
   | none => rw [hr] at h; simp at h
   | some pl' =>
    rw [hr] at h
    simp only [Option.bind_some, Option.pure_def, Option.some.injEq] at h
    subst h
    have hsz : (sizeOf f.type).run P w = .ok i.size w := by simp [sizeOf, typeInfo, hf]
    rw [List.mapM_cons]
    simp only [Sem.run_bind, hsz, Result.andThen_ok, Sem.run_pure, run_placesW hr]
theorem WO_structWN {Γ : Tys} (hΓ : Γ.ok P) {ty t : Nat} {parts : Array (Nat × Operand)} {ti : TI} {offs : List Nat} {pl : List (Nat × Nat)} {cells : List D} {ms : List Nat} (hg : o.guard = none) (hd : o.dst = some t) (ht : t < c.n) (ho : o.op = .build ty parts)
  (h1 : tyOf Γ ty = some ti) (h2 : ti.kind = .agg offs) (h3 : placesOf P ty = some pl) (h4' : ti.zero.all (·.oneCell') = true) (h5 : setsOkW pl (parts.toList.map fun p => (p.1, opd s.fr p.2)) (ti.zero.map constD) = true)
  (h6 : setsW pl (parts.toList.map fun p => (p.1, boxD' (opd s.fr p.2))) (ti.zero.map constD) = cells) (hms : movedL s.fr (parts.toList.map (·.2)) = ms) (hm : ms.Nodup)
  (kk : WO P c ops rest ⟨(t, .agg cells) :: eatL ms s.fr, s.M⟩ Q) : WO P c ops (o :: rest) s Q := by
 subst hms h6
 rintro a w ⟨F, β, fb, mb, ow, hi⟩
 obtain ⟨⟨i, z, q1, q2, q3, q4, q5⟩, hk⟩ := hΓ.get h1
 rw [h2] at hk
 obtain ⟨fs, hu, hoffs, _⟩ := hk
 unfold placesOf at h3
 rw [hu] at h3
 dsimp only at h3
 obtain ⟨bs', r1, r2, r3, r4⟩ := parts_setW hi (pl := pl) (ps := parts.toList) (constD_rels (w := w) (F := F) (β := β) ti.zero) List.nodup_nil (by simp) h5 hm
 have hzv : (zeroValue ty).run P w = .ok z w := by simp [zeroValue, typeInfo, q1, q4]
 have hpl : (fs.mapM fun f => (do pure (f.offset, ← sizeOf f.type) : Sem (Nat × Nat))).run P w = .ok pl.toArray w := by
  rw [Array.mapM_eq_mapM_toList]
  simp only [Sem.run_map, run_placesW h3]
  simp only [Result.andThen_ok, Sem.run_pure]
 have hfill : Instr.fill (pl.toArray[·]?) z.cells (parts.toList.map fun p => (p.1, a.eval p.2)) = some (setsW pl (parts.toList.map fun p => (p.1, (a.eval p.2).cells.toList)) ti.zero).toArray := by
  have := fill_setsW (places := pl.toArray) (pl := pl) (fun i hi => by
   simp [hi]) (parts.toList.map fun p => (p.1, a.eval p.2)) ti.zero (fun p hp => by
    obtain ⟨q, hq, rfl⟩ := List.mem_map.1 hp
    obtain ⟨g1, g2, g3, g4⟩ := r4 q hq
    exact ⟨g1, g3, by simpa using g4⟩)
  rw [List.map_map] at this
  have e : z.cells = ti.zero.toArray := by rw [← q5, Array.toArray_toList]
  rw [e]
  exact this
 have hrun : (execOp a.eval o).run P w = .ok (.value (.agg (setsW pl (parts.toList.map fun p => (p.1, (a.eval p.2).cells.toList)) ti.zero).toArray)) w := by
  simp only [execOp, ho, Instr.build, Sem.run_bind, hzv, Result.andThen_ok, run_underlying hu, hpl]
  rw [show (parts.map fun (x : Nat × Operand) => (x.1, a.eval x.2)).toList = parts.toList.map fun p => (p.1, a.eval p.2) from by simp]
  rw [hfill]
  rfl
 have hone : (setsW pl (parts.toList.map fun p => (p.1, (a.eval p.2).cells.toList)) ti.zero).all (·.oneCell') = true := by
  have key1 : ∀ (xs l : List Value) (k : Nat), l.all (·.oneCell') = true → xs.all (·.oneCell') = true → (setAt l k xs).all (·.oneCell') = true := by
   intro xs
   induction xs with
   | nil => intro l k h _; exact h
   | cons x xs ih =>
    intro l k h hx
    rw [List.all_cons, Bool.and_eq_true] at hx
    refine ih _ _ ?_ hx.2
    rw [List.all_eq_true] at h ⊢
    intro y hy
    rcases List.mem_or_eq_of_mem_set hy with hy | rfl
    ·exact h y hy
    ·exact hx.1
  have key : ∀ (ps : List (Nat × List Value)) (l : List Value), l.all (·.oneCell') = true → (∀ p, p ∈ ps → p.2.all (·.oneCell') = true) → (setsW pl ps l).all (·.oneCell') = true := by
   intro ps
   induction ps with
   | nil => intro l h _; exact h
   | cons p ps ih =>
    intro l h hp
    exact ih _ (key1 _ _ _ h (hp p (List.mem_cons_self ..))) fun q hq => hp q (List.mem_cons_of_mem _ hq)
  refine key _ _ h4' fun p hp => ?_
  obtain ⟨q, hq, rfl⟩ := List.mem_map.1 hp
  exact (r4 q hq).2.1
 refine wpList_plain hg fun K hK => ?_
 unfold Oper.wp
 rw [hrun, Oper.upon_value, hd]
 refine hK _ _ (kk _ _ (hi.putOwn ht (bs := bs') ?_ r2 fun b hb => (r3 b hb).resolve_left (by simp)))
 have := RelD.agg (arr := (setsW pl (parts.toList.map fun p => (p.1, (a.eval p.2).cells.toList)) ti.zero).toArray) (by simpa using hone) (by simpa using r1) (RelD.done (w := w) (F := F) (β := β))
 simpa using this
theorem WO_structW {Γ : Tys} (hΓ : Γ.ok P) {ty t : Nat} {parts : Array (Nat × Operand)} {ti : TI} {offs : List Nat} {pl : List (Nat × Nat)} {cells : List D} {ms : List Nat} (hg : o.guard = none) (hd : o.dst = some t) (ht : t < c.n) (ho : o.op = .build ty parts)
  (h1 : tyOf Γ ty = some ti) (h2 : ti.kind = .agg offs) (h3 : placesOf P ty = some pl) (h4' : ti.zero.all (·.oneCell') = true) (h5 : setsOkW pl (parts.toList.map fun p => (p.1, opd s.fr p.2)) (ti.zero.map constD) = true)
  (h6 : spineD (setsW pl (parts.toList.map fun p => (p.1, boxD' (opd s.fr p.2))) (ti.zero.map constD)) some = some cells) (hms : spineN (movedL s.fr (parts.toList.map (·.2))) some = some ms) (hm : nodupB ms = true)
  (kk : WO P c ops rest ⟨(t, .agg cells) :: eatL ms s.fr, s.M⟩ Q) : WO P c ops (o :: rest) s Q := by
 rw [spineD_eq] at h6
 rw [spineN_eq] at hms
 cases h6; cases hms
 exact WO_structWN hΓ hg hd ht ho h1 h2 h3 h4' h5 rfl rfl (nodupB_sound hm) kk
end
section
variable {P : Program} {c : Ctx} {s : St} {M0 : List (Nat × Blk)} {acc : List Dl} {Q : St → List Dl → Prop} {ops : Array Oper} {rest : List Oper} {o : Oper}
theorem QG_structW {Γ : Tys} (hΓ : Γ.ok P) {ty t : Nat} {parts : Array (Nat × Operand)} {ti : TI} {offs : List Nat} {pl : List (Nat × Nat)} {cells : List D} {ms : List Nat} (hg : o.guard = none) (hd : o.dst = some t) (ht : t < c.n) (ho : o.op = .build ty parts)
  (h1 : tyOf Γ ty = some ti) (h2 : ti.kind = .agg offs) (h3 : placesOf P ty = some pl) (h4' : ti.zero.all (·.oneCell') = true) (h5 : setsOkW pl (parts.toList.map fun p => (p.1, opd s.fr p.2)) (ti.zero.map constD) = true)
  (h6 : spineD (setsW pl (parts.toList.map fun p => (p.1, boxD' (opd s.fr p.2))) (ti.zero.map constD)) some = some cells) (hms : spineN (movedL s.fr (parts.toList.map (·.2))) some = some ms) (hm : nodupB ms = true)
  (kk : QG P c ops M0 rest ⟨(t, .agg cells) :: ((ms.map fun u => (u, D.top)) ++ s.fr), s.M⟩ (acc ++ [⟨t, .agg cells, ms, [], false⟩]) Q) : QG P c ops M0 (o :: rest) s acc Q :=
 ⟨⟨t, .agg cells, ms, [], false⟩, hd, fun s' ha _ Q h => by
  have hop : ∀ p, p ∈ parts.toList → opd s'.fr p.2 = opd s.fr p.2 := fun p hp => ha.opd (by
   rw [ho]
   simp only [Op.operands]
   exact List.mem_toArray.2 (List.mem_map.2 ⟨p, hp, rfl⟩))
  have e1 : (parts.toList.map fun p => (p.1, opd s'.fr p.2)) = parts.toList.map fun p => (p.1, opd s.fr p.2) := List.map_congr_left fun p hp => by rw [hop p hp]
  have e1' : (parts.toList.map fun p => (p.1, boxD' (opd s'.fr p.2))) = parts.toList.map fun p => (p.1, boxD' (opd s.fr p.2)) := List.map_congr_left fun p hp => by rw [hop p hp]
  have e2 : movedL s'.fr (parts.toList.map (·.2)) = ms := by
   rw [movedL_look (fr := s.fr) fun x hx => by
    obtain ⟨p, hp, rfl⟩ := List.mem_map.1 hx
    exact hop p hp]
   rw [spineN_eq] at hms
   exact Option.some.inj hms
  rw [spineD_eq] at h6
  exact WO_structWN hΓ hg hd ht ho h1 h2 h3 h4' (by rw [e1]; exact h5) (by rw [e1']; exact Option.some.inj h6) e2 (nodupB_sound hm) h, kk⟩
end
end Go.Eng
end
section
/- Slices made of so many, copied into, named: of whole numbers. -/
namespace Go.Eng
open Go.RowKit
section
variable {P : Program} {c : Ctx} {s : St} {Q : Exit → St → Prop} {ops : Array Oper} {rest : List Oper} {o : Oper}
theorem Le.eqK {id : Nat} {k k' : Blk} (h1 : lookM s.M id = some k) (h : k = k') : Le c s ⟨s.fr, (id, k') :: s.M⟩ := by
 subst h
 refine Le.of (fun t => .inl rfl) (fun i => .inl ?_)
 simp only [lookM]
 split
 ·rename_i e; subst e; exact h1.symm
 ·rfl
theorem Le.roIn {u0 u1 v : Value} {t0 t1 t : T} {us : List Value} {ts : List T} (i1 i2 : Nat) (h1 : lookM s.M i1 = some (.ro (u0 :: u1 :: us) (t0 :: t1 :: ts))) (h2 : lookM s.M i2 = some (.ro [v] [t])) : Le c s ⟨s.fr, (i1, .ro (u0 :: u1 :: v :: us) (t0 :: t1 :: t :: ts)) :: s.M⟩ := by
 rintro a w ⟨F, β, fb, mb, ow, hi⟩
 have m1 := hi.mem i1
 have m2 := hi.mem i2
 rw [h1] at m1
 rw [h2] at m2
 refine ⟨F, β, fb, mb, ow, ?_⟩
 exact { hi with
  mem := fun i => by
   simp only [lookM]
   by_cases h : i1 = i
   ·subst h; rw [if_pos rfl]
    obtain ⟨a1, a2⟩ := m1.1.uncons
    obtain ⟨a3, a4⟩ := a2.uncons
    exact ⟨a1.append (a3.append (m2.1.append a4)), m1.2⟩
   ·rw [if_neg h]; exact hi.mem i }
theorem vals_int (l : List Int) : (l.map (Value.int .i64)).map T.v = l.map T.int := by rw [List.map_map]; rfl
theorem WO_copyI {t id len e : Nat} {ty ty' : TypeId} {x y : Operand} {us zs : List Int} (hg : o.guard = none) (hd : o.dst = some t) (ht : t < c.n) (ho : o.op = .call { callee := .builtin .copy, args := #[x, y], argTypes := #[ty, ty'] })
  (hu : P.underlying ty = some (.slice e)) (hsz : (P.info? e).map (·.size) = some 1)
  (hx : opd s.fr x = .sl id 0 len) (hM : lookM s.M id = some (.L 1 (us.map T.int))) (hlen : us.length = len) (hy : opd s.fr y = .t (.list 1 (zs.map T.int))) (hle : zs.length ≤ us.length)
  (k : WO P c ops rest ⟨(t, .t (.int zs.length)) :: s.fr, (id, .L 1 ((zs ++ us.drop zs.length).map T.int)) :: s.M⟩ Q) : WO P c ops (o :: rest) s Q := by
 refine WO_copyB (us := us.map (Value.int .i64)) (zs := zs.map (Value.int .i64)) hg hd ht ho hu hsz hx (by rw [vals_int]; exact hM) (by simpa using hlen) (by rw [vals_int]; exact hy) (by simpa using hle) ?_
 rw [List.length_map, ← List.map_drop, ← List.map_append, vals_int]
 exact k
theorem Le.adoptBoxI {u id j : Nat} {l : List Int} {cells : List D} (hc : (clFr id s.fr && clM id s.M) = true) (hB : lookM s.M u = some (.box cells)) (h1 : cells[j]? = some (.own (T.ints l))) :
  Le c s ⟨s.fr, (u, .box (cells.set j (.sl id 0 l.length))) :: (id, .L 1 (l.map T.int)) :: s.M⟩ := by
 have := Le.adoptBox (c := c) (n := 1) (xs := l.map T.int) hc hB h1
 rwa [List.length_map] at this
end
section
variable {P : Program} {c : Ctx} {s : St} {M0 : List (Nat × Blk)} {acc : List Dl} {Q : St → List Dl → Prop} {ops : Array Oper} {rest : List Oper} {o : Oper}
theorem QG_makeI {Γ : Tys} (hΓ : Γ.ok P) {ty e t : Nat} {x : Operand} {ti te : TI} {i : Int} (z : T) (hg : o.guard = none) (hd : o.dst = some t) (ht : t < c.n) (ho : o.op = .makeSlice ty x x)
  (h1 : tyOf Γ ty = some ti) (h2 : ti.kind = .slice e) (h3 : tyOf Γ e = some te) (hx : opd s.fr x = .t (.int i)) (hz : AbsL (te.zero.map constD) z.cells) (hn : z.cells.length = te.size) (h0 : 0 ≤ i)
  (hk : i ≤ 1073741824) (hb : te.bytes ≤ 131072)
  (kk : QG P c ops M0 rest ⟨(t, .own (.list te.size (List.replicate i.toNat z))) :: s.fr, s.M⟩ (acc ++ [⟨t, .own (.list te.size (List.replicate i.toNat z)), [], [], true⟩]) Q) : QG P c ops M0 (o :: rest) s acc Q :=
 QG_make hΓ z i.toNat hg hd ht ho h1 h2 h3 (by rw [hx, Int.toNat_of_nonneg h0]) hz hn (by omega) hb kk
end
end Go.Eng
end
section
/- Statements of open order that make ready what they lend, once it is read. -/
namespace Go.Eng
open Go.RowKit
section
variable {P : Program} {c : Ctx} {s : St} {ops : Array Oper} {rest : List Oper} {o : Oper}
theorem QH_ev2 {Q : St → List Dl → Prop} {acc : List Dl} {b : List Nat} {bs : List (List Nat)} {Γ : Tys} (hΓ : Γ.ok P) {t : Nat} {d : D} {u1 b1 n1 u2 b2 n2 : Nat} {c1 c2 : List D} (p1 p2 : Nat) (hg : o.guard = none) (hd : o.dst = some t) (ht : t < c.n) (he : evF Γ ⟨s.fr, dropB b s.M⟩ o.op = some d)
  (hM1 : lookM (dropB b s.M) u1 = some (.box c1)) (hp1 : lookM (dropB b s.M) p1 = some (.pin u1 b1 n1 1)) (hc1 : D.noImm.noImmL c1 = true)
  (hM2 : lookM (dropB b s.M) u2 = some (.box c2)) (hp2 : lookM (dropB b s.M) p2 = some (.pin u2 b2 n2 1)) (hc2 : D.noImm.noImmL c2 = true) (h12 : (u1 == u2) = false) (h1p : (u1 == p2) = false)
  (k : QH P c ops bs rest ⟨(t, d) :: s.fr, (u2, .obox (.pointer (some ⟨b2, 0, none⟩)) c2) :: (u1, .obox (.pointer (some ⟨b1, 0, none⟩)) c1) :: s.M⟩ (acc ++ [⟨t, d, [], [(u2, .obox (.pointer (some ⟨b2, 0, none⟩)) c2), (u1, .obox (.pointer (some ⟨b1, 0, none⟩)) c1)], false⟩]) Q) : QH P c ops (b :: bs) (o :: rest) s acc Q :=
 ⟨⟨t, d, [], [(u2, .obox (.pointer (some ⟨b2, 0, none⟩)) c2), (u1, .obox (.pointer (some ⟨b1, 0, none⟩)) c1)], false⟩, fun s' ha _ Q h => by
  have h12' : ¬ u1 = u2 := by simpa using h12
  have h1p' : ¬ u1 = p2 := by simpa using h1p
  refine WO_evF hΓ hg hd ht (evF_mono ha he) ?_
  refine WO_le (Le.close (u := u1) p1 (ha.1 _ _ hM1) (ha.1 _ _ hp1) hc1) ?_
  refine WO_le (Le.close (u := u2) (b := b2) (n := n2) p2 ?_ ?_ hc2) h
  ·show (if u1 = u2 then _ else lookM s'.M u2) = _
   rw [if_neg h12']
   exact ha.1 _ _ hM2
  ·show (if u1 = p2 then _ else lookM s'.M p2) = _
   rw [if_neg h1p']
   exact ha.1 _ _ hp2, k⟩
end
section
variable {P : Program} {c : Ctx} {s : St} {Q : Exit → St → Prop} {ops : Array Oper} {rest : List Oper} {o : Oper}
theorem WO_makeI {Γ : Tys} (hΓ : Γ.ok P) {ty e t : Nat} {x : Operand} {ti te : TI} {i : Int} (z : T) (hg : o.guard = none) (hd : o.dst = some t) (ht : t < c.n) (ho : o.op = .makeSlice ty x x)
  (h1 : tyOf Γ ty = some ti) (h2 : ti.kind = .slice e) (h3 : tyOf Γ e = some te) (hx : opd s.fr x = .t (.int i)) (hz : AbsL (te.zero.map constD) z.cells) (hn : z.cells.length = te.size) (h0 : 0 ≤ i)
  (hk : i ≤ 1073741824) (hb : te.bytes ≤ 131072)
  (kk : WO P c ops rest ⟨(t, .sl t 0 i.toNat) :: killF t s.fr, (t, .L te.size (List.replicate i.toNat z)) :: killM t s.M⟩ Q) : WO P c ops (o :: rest) s Q :=
 WO_make hΓ z i.toNat hg hd ht ho h1 h2 h3 (by rw [hx, Int.toNat_of_nonneg h0]) hz hn (by omega) hb kk
end
end Go.Eng
end
section
/- One cell of a list is laid open: the list that it owns gets a name. -/
namespace Go.Eng
open Go.RowKit
section
variable {P : Program} {c : Ctx} {s : St} {Q : Exit → St → Prop} {ops : Array Oper} {rest : List Oper} {o : Oper}
theorem Le.rawListO {id b n cap : Nat} {vs : List Value} {ys : List T} (pid : Nat) (hM : lookM s.M id = some (.raw b (cap * n) vs (ys.flatMap T.cells))) (h2 : lookM s.M pid = none) (h3 : clFr id s.fr = true) (h4 : (s.M.all fun p => cleanB id p.2) = true)
  (hn : ∀ y, y ∈ ys → (T.cells y).length = n) (hl : ys.length ≤ cap) (hc : cap ≤ maxLen) :
  Le c s ⟨s.fr, (id, .L n ys) :: (pid, .pin id b n cap) :: s.M⟩ := by
 rintro a w ⟨F, β, fb, mb, ow, hi⟩
 refine hi.name pid hM h2 h3 h4 fun β' hβ hm => ?_
 obtain ⟨arr, e, bs, q1, q2, q3, q4, q5⟩ := hm
 have hvl : vs.length = ys.length * n := by rw [q4.length, flat_length hn]
 exact .inr ⟨b, cap, arr, e, bs, hβ, q1, q2, hn, hl, hc, by rw [← hvl, q3]; exact q4, q5⟩
theorem Mix.told : ∀ {vs : List Value} {ts : List T}, vs.length = ts.length → Mix vs ts (vs.map T.v) ts
 | [], [], _ => .nil
 | [], _ :: _, h => by simp at h
 | _ :: _, [], h => by simp at h
 | v :: vs, t :: ts, h => .claim (Mix.told (by simpa using h))
def toldG {β : Type} (C : List (β × List Value)) : List T := C.map fun c => .agg (c.2.map T.v)
theorem toldG_flat {β : Type} (C : List (β × List Value)) : (toldG C).flatMap T.cells = (C.flatMap (·.2)).map T.v := by
 rw [toldG, List.flatMap_map, List.map_flatMap]; rfl
theorem toldG_cells {β : Type} {C : List (β × List Value)} {n : Nat} (h : ∀ c, c ∈ C → c.2.length = n) : ∀ y, y ∈ toldG C → (T.cells y).length = n := by
 intro y hy
 obtain ⟨c, hc, rfl⟩ := List.mem_map.1 hy
 show (c.2.map T.v).length = n
 rw [List.length_map]; exact h c hc
theorem WO_openL {l : List Oper} {id n m i off : Nat} {xs ys : List T} {z : T} (id2 pid idp : Nat) (hM : lookM s.M id = some (.L n xs)) (hn : ∀ x, x ∈ xs → (T.cells x).length = n) (hz : xs[i]? = some z) (hc : z.cells[off]? = some (.list m ys)) (hy : ys ≠ [])
  (h2 : lookM s.M id2 = none) (h3 : lookM s.M pid = none) (h4 : lookM s.M idp = none) (hd : (id2 == pid || (id2 == idp || pid == idp)) = false) (hf : clFr id2 s.fr = true) (hcl : (s.M.all fun p => cleanB id2 p.2) = true)
  (k : ∀ b cap : Nat, ys.length ≤ cap → WO P c ops l ⟨s.fr, (id, .L n (xs.set i (.agg (z.cells.set off (.v (.slice (some ⟨b, 0, none⟩) ys.length cap)))))) :: (id2, .L m ys) :: (pid, .pin id2 b m cap) :: s.M⟩ Q) : WO P c ops l s Q := by
 simp only [Bool.or_eq_false_iff, beq_eq_false_iff_ne] at hd
 obtain ⟨d1, d2, d3⟩ := hd
 have n1 : ¬ id = id2 := fun e => by rw [e, h2] at hM; cases hM
 have n2 : ¬ id = pid := fun e => by rw [e, h3] at hM; cases hM
 have n3 : ¬ id = idp := fun e => by rw [e, h4] at hM; cases hM
 have n1' : ¬ id2 = id := fun e => n1 e.symm
 have n2' : ¬ pid = id := fun e => n2 e.symm
 have n3' : ¬ idp = id := fun e => n3 e.symm
 have d1' : ¬ pid = id2 := fun e => d1 e.symm
 have d2' : ¬ idp = id2 := fun e => d2 e.symm
 have d3' : ¬ idp = pid := fun e => d3 e.symm
 refine WO_exposeL (id := id) (idp := idp) hM h4 fun vs hvs => ?_
 obtain ⟨C, hC1, hC2, rfl⟩ := cutV (l := xs) (vs := vs) (n := n) hvs
 have hCl : C.length = xs.length := by rw [← hC1, List.length_map]
 refine ⟨toldG C, toldG_flat C, by rw [toldG, List.length_map, hCl], toldG_cells hC2, ?_⟩
 have hil := (List.getElem?_eq_some_iff.1 hz).1
 have hzn := hn z (List.mem_of_getElem? hz)
 have hoff : off < n := by rw [← hzn]; exact (List.getElem?_eq_some_iff.1 hc).1
 have hat : (xs.flatMap T.cells)[i * n + off]? = some (.list m ys) := by rw [flat_atc hn hz hoff]; exact hc
 have hlt : i * n + off < xs.length * n := by
  have : (i + 1) * n ≤ xs.length * n := Nat.mul_le_mul_right n hil
  rw [Nat.succ_mul] at this
  omega
 obtain ⟨u, hu⟩ : ∃ u, (C.flatMap (·.2))[i * n + off]? = some u := ⟨_, List.getElem?_eq_getElem (by rw [hvs]; exact hlt)⟩
 refine WO_explode (id := idp) (j := i * n + off) (id2 := id2) (n := m) (u := u) (xs := ys) (blk := .rawV (C.flatMap (·.2)) (xs.flatMap T.cells)) (by simp [lookM, n1, n2, n3, d1, d2, d3, n1', n2', n3', d1', d2', d3', h2, h3, h4]) rfl hu hat (by simp [lookM, n1, n2, n3, d1, d2, d3, n1', n2', n3', d1', d2', d3', h2, h3, h4]) fun e ad b cap ws hue hb he hlc hcm hcn => ?_
 have he0 : e = false := by cases e with | false => rfl | true => exact absurd (he rfl) hy
 subst he0
 obtain rfl : ad = some ⟨b, 0, none⟩ := hb rfl
 subst hue
 refine WO_le (Le.rawListO (id := id2) (b := b) (n := m) (cap := cap) (vs := ws) (ys := ys) pid (by simp [lookM, rb, setV, n1, n2, n3, d1, d2, d3, n1', n2', n3', d1', d2', d3', h2, h3, h4]) (by simp [lookM, n1, n2, n3, d1, d2, d3, n1', n2', n3', d1', d2', d3', h2, h3, h4]) hf (by simp only [List.all_cons, hcl, Bool.and_true]; rfl) hcn hlc hcm) ?_
 refine WO_le (Le.claimMix (id := id) (idp := idp) (n := n) (ys := toldG C) (xs := xs.set i (.agg (z.cells.set off (.v (.slice (some ⟨b, 0, none⟩) ys.length cap))))) (vs := C.flatMap (·.2)) (ts := (xs.flatMap T.cells).set (i * n + off) (.v (.slice (some ⟨b, 0, none⟩) ys.length cap))) (by simp [lookM, n1, n2, n3, d1, d2, d3, n1', n2', n3', d1', d2', d3', h2, h3, h4]) (by simp [lookM, setV, opened, n1, n2, n3, d1, d2, d3, n1', n2', n3', d1', d2', d3', h2, h3, h4]) ?_ (by simp [toldG, hCl]) ?_ (by simpa using n3)) ?_
 ·rw [toldG_flat, ← flat_setc (y := .agg (z.cells.set off (.v (.slice (some ⟨b, 0, none⟩) ys.length cap)))) hn hz hoff rfl]
  exact Mix.told (by rw [hvs, List.length_set, flat_length hn])
 ·intro x hx
  rcases List.mem_or_eq_of_mem_set hx with hx | rfl
  ·exact hn x hx
  ·show (z.cells.set off _).length = n
   rw [List.length_set]; exact hzn
 ·refine WO_le ?_ (k b cap hlc)
  refine Le.of (fun t => .inl rfl) fun j => .inl ?_
  simp only [lookM]
  by_cases g1 : id = j
  ·subst g1; simp
  ·rw [if_neg g1, if_neg g1]
   by_cases g2 : idp = j
   ·subst g2
    rw [lookM_dropped, if_neg d2, if_neg d3, h4]
   ·rw [lookM_drop (fun e => g2 e.symm)]
    simp only [lookM, if_neg g1, if_neg g2]
    by_cases g3 : id2 = j
    ·simp [g3]
    ·simp [g3]
theorem W_openL {code : Code} {id n m i off : Nat} {xs ys : List T} {z : T} (id2 pid idp : Nat) (hM : lookM s.M id = some (.L n xs)) (hn : ∀ x, x ∈ xs → (T.cells x).length = n) (hz : xs[i]? = some z) (hc : z.cells[off]? = some (.list m ys)) (hy : ys ≠ [])
  (h2 : lookM s.M id2 = none) (h3 : lookM s.M pid = none) (h4 : lookM s.M idp = none) (hd : (id2 == pid || (id2 == idp || pid == idp)) = false) (hf : clFr id2 s.fr = true) (hcl : (s.M.all fun p => cleanB id2 p.2) = true)
  (k : ∀ b cap : Nat, ys.length ≤ cap → W P c code ⟨s.fr, (id, .L n (xs.set i (.agg (z.cells.set off (.v (.slice (some ⟨b, 0, none⟩) ys.length cap)))))) :: (id2, .L m ys) :: (pid, .pin id2 b m cap) :: s.M⟩ Q) : W P c code s Q := by
 intro a w hi
 obtain ⟨s', h1, b, cap, hl, rfl⟩ := WO_openL (P := P) (ops := #[]) (l := []) (Q := fun _ s' => ∃ b cap : Nat, ys.length ≤ cap ∧ s' = ⟨s.fr, (id, .L n (xs.set i (.agg (z.cells.set off (.v (.slice (some ⟨b, 0, none⟩) ys.length cap)))))) :: (id2, .L m ys) :: (pid, .pin id2 b m cap) :: s.M⟩) id2 pid idp hM hn hz hc hy h2 h3 h4 hd hf hcl (fun b cap hl => WO_nil ⟨b, cap, hl, rfl⟩) a w hi
 exact k b cap hl a w h1
end
end Go.Eng
end
