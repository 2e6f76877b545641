import Derived.Test.YtddfnpiikkilhaaMd
import Derived.Laws.StructEq
import Derived.ChangeKeysEq
set_option linter.unusedVariables false
set_option linter.unusedSimpArgs false
section
/- What is known of values, put in order; memory that is not there. -/
namespace Go.Eng
open Go.RowKit
section
variable {P : Program} {c : Ctx} {s : St} {Q : Exit → St → Prop} {ops : Array Oper} {rest : List Oper} {o : Oper}
theorem Le.noBox (id : Nat) (cells : List D) (h : lookM s.M id = none) : Le c s ⟨s.fr, (id, .obox (.pointer none) cells) :: s.M⟩ := by
 rintro a w ⟨F, β, fb, mb, ow, hi⟩
 have m1 := hi.mem id
 rw [h] at m1;refine ⟨F, β, fb, mb, ow, ?_⟩
 exact { hi with
  mem := fun i => by
   simp only [lookM]
   by_cases h : id = i
   ·subst h; rw [if_pos rfl]
    exact .inl ⟨rfl, m1⟩
   ·rw [if_neg h]; exact hi.mem i }
end
end Go.Eng
end
section
/- Structs whose fields are structs, put together out of their parts. -/
namespace Go.Eng
open Go.RowKit
def setAt {α : Type} : List α → Nat → List α → List α
 | l, _, [] => l
 | l, k, x :: xs => setAt (l.set k x) (k + 1) xs
theorem DW {α : Type} : ∀ (xs l : List α) (k : Nat), (setAt l k xs).length = l.length
 | [], _, _ => rfl
 | x :: xs, l, k => by rw [setAt, DW]; simp
def okAt : List D → Nat → List D → Bool
 | _, _, [] => true
 | l, k, d :: ds => (match l[k]? with | some e => e.free | none => false) && okAt (l.set k d) (k + 1) ds
def En {α : Type} (pl : List (Nat × Nat)) : List (Nat × List α) → List α → List α
 | [], l => l
 | (i, xs) :: ps, l => En pl ps (setAt l (pl.getD i (0, 0)).1 xs)
def O2 (d : D) : List D := (boxD d).getD []
def setsOkW (pl : List (Nat × Nat)) : List (Nat × D) → List D → Bool
 | [], _ => true
 | (i, d) :: ps, l => Nat.blt i pl.length && (match boxD d with | none => false | some ds => Nat.beq ds.length (pl.getD i (0, 0)).2 && (Nat.ble ((pl.getD i (0, 0)).1 + ds.length) l.length && (okAt l (pl.getD i (0, 0)).1 ds && setsOkW pl ps (setAt l (pl.getD i (0, 0)).1 ds))))
theorem Gh {w : World} {F : Nat → Prop} {β : Aw} : ∀ {xs : List Value} {ds : List D} {b1 : List Nat}, RelD w F β xs ds b1 → ∀ {vs es bs} (k : Nat), RelD w F β vs es bs → okAt es k ds = true → ∃ bs', RelD w F β (setAt vs k xs) (setAt es k ds) bs' ∧ bs'.Perm (b1 ++ bs)
 | [], [], b1, h1, vs, es, bs, k, hr, _ => by
  cases h1;exact ⟨bs, hr, by simp⟩
 | [], _ :: _, _, h1, _, _, _, _, _, _ => by cases h1
 | _ :: _, [], _, h1, _, _, _, _, _, _ => by cases h1
 | x :: xs, d :: ds, b1, h1, vs, es, bs, k, hr, h => by
  obtain ⟨b2, b3, q1, q2, rfl⟩ := h1.cons
  simp only [okAt, Qf] at h
  obtain ⟨bs1, r1, r2⟩ := G2 q1 k hr h.1
  obtain ⟨bs', r3, r4⟩ := Gh q2 (k + 1) r1 h.2
  refine ⟨bs', r3, r4.trans ?_⟩;refine (List.Perm.append_left b3 r2).trans ?_;rw [← Qz];exact List.Perm.append_right bs List.perm_append_comm
section
variable {P : Program} {c : Ctx} {s : St} {Q : Exit → St → Prop} {ops : Array Oper} {rest : List Oper} {o : Oper}
theorem Gi {a : Act} {w : World} {F β fb mb ow} (hi : Conc c s a w F β fb mb ow) {pl : List (Nat × Nat)} : ∀ {ps : List (Nat × Operand)} {vs : List Value} {ds : List D} {bs : List Nat}, RelD w F β vs ds bs → bs.Nodup → (∀ b, b ∈ bs → ∀ u, ow b = some (.inl u) → u ∉ AW s.fr (ps.map (·.2))) →
  setsOkW pl (ps.map fun p => (p.1, opd s.fr p.2)) ds = true → (AW s.fr (ps.map (·.2))).Nodup →
  ∃ bs', RelD w F β (En pl (ps.map fun p => (p.1, (a.eval p.2).cells.toList)) vs) (En pl (ps.map fun p => (p.1, O2 (opd s.fr p.2))) ds) bs' ∧ bs'.Nodup ∧ (∀ b, b ∈ bs' → b ∈ bs ∨ ∃ u, ow b = some (.inl u) ∧ u ∈ AW s.fr (ps.map (·.2))) ∧
   (∀ p, p ∈ ps → (a.eval p.2).cells.toList.length = (pl.getD p.1 (0, 0)).2 ∧ (a.eval p.2).cells.toList.all (·.oneCell') = true ∧ p.1 < pl.length ∧ (pl.getD p.1 (0, 0)).1 + (pl.getD p.1 (0, 0)).2 ≤ ds.length)
 | [], vs, ds, bs, hr, hn, _, _, _ => ⟨bs, hr, hn, fun b hb => .inl hb, by simp⟩
 | (i, x) :: ps, vs, ds, bs, hr, hn, hbs, hok, hm => by
  simp only [Q4, setsOkW, Qf] at hok
  obtain ⟨h0, hok⟩ := hok
  cases hbd : boxD (opd s.fr x) with
  | none => rw [hbd] at hok; cases hok
  | some es =>
  rw [hbd] at hok;simp only [Qf] at hok
  obtain ⟨h1, h1', h2, h3⟩ := hok
  obtain ⟨b1, hr1, hn1, hb1⟩ := hi.opdOwn x
  obtain ⟨hr1, hone⟩ := hr1.boxD hbd
  obtain ⟨bs1, q1, q2⟩ := Gh hr1 _ hr h2
  have hmc : AW s.fr (((i, x) :: ps).map (·.2)) = AW s.fr [x] ++ AW s.fr (ps.map (·.2)) := by
   unfold AW;rw [Q4, ← List.filterMap_append];rfl
  rw [hmc] at hm hbs
  have hb1' : ∀ b, b ∈ b1 → ∃ u, ow b = some (.inl u) ∧ u ∈ AW s.fr [x] := fun b hb => by
   obtain ⟨y, hy, he, u, rfl, rfl⟩ := hb1 b hb
   refine ⟨u, hy, ?_⟩;unfold AW;rw [List.filterMap_cons, if_neg (by rw [he]; simp)]
   simp
  obtain ⟨hm1, hm2, hm3⟩ := Qm.1 hm
  have hn2 : bs1.Nodup := by
   refine q2.nodup_iff.2 (Qm.2 ⟨hn1, hn, fun b hb b' hb' e => ?_⟩);subst e
   obtain ⟨u, hu, hu2⟩ := hb1' b hb
   exact hbs b hb' u hu (RX _ hu2)
  obtain ⟨bs', r1, r2, r3, r4⟩ := Gi hi q1 hn2 (fun b hb u hu => by
   rcases Qj.1 (q2.mem_iff.1 hb) with hb | hb
   ·obtain ⟨u', hu', hu2⟩ := hb1' b hb
    rw [hu] at hu'; cases hu'
    exact fun h => hm3 u hu2 u h rfl
   ·exact fun h => hbs b hb u hu (RL _ h)) h3 hm2
  have hlen : (a.eval x).cells.toList.length = es.length := hr1.length
  have h1 : es.length = (pl.getD i (0, 0)).2 := Nat.eq_of_beq_eq_true h1
  have h1' : (pl.getD i (0, 0)).1 + es.length ≤ ds.length := RP h1'
  refine ⟨bs', by simpa only [Q4, En, O2, hbd, Option.getD_some] using r1, r2, fun b hb => ?_, fun p hp => ?_⟩
  ·rcases r3 b hb with h | ⟨u, hu, hu2⟩
   ·rcases Qj.1 (q2.mem_iff.1 h) with h | h
    ·obtain ⟨u, hu, hu2⟩ := hb1' b h
     exact .inr ⟨u, hu, by rw [hmc]; exact RX _ hu2⟩
    ·exact .inl h
   ·exact .inr ⟨u, hu, by rw [hmc]; exact RL _ hu2⟩
  ·rcases Qp.1 hp with rfl | hp
   ·exact ⟨by rw [hlen, h1], hone, by simpa using h0, by rw [← h1]; exact h1'⟩
   ·have := r4 p hp
    rw [DW] at this;exact this
theorem He : ∀ (l : List Value) (cells : Array Value) (off k : Nat), (l.zipIdx k).foldl (fun cs (x : Value × Nat) => cs.setIfInBounds (off + x.2) x.1) cells = (setAt cells.toList (off + k) l).toArray
 | [], cells, off, k => by simp [setAt]
 | x :: l, cells, off, k => by
  rw [List.zipIdx_cons, List.foldl_cons, He l, setAt]
  simp [Nat.add_assoc]
theorem Gm {places : Array (Nat × Nat)} {pl : List (Nat × Nat)} (hpl : ∀ i, i < pl.length → places[i]? = some (pl.getD i (0, 0))) : ∀ (ps : List (Nat × Value)) (cells : List Value), (∀ p, p ∈ ps → p.2.cells.toList.length = (pl.getD p.1 (0, 0)).2 ∧ p.1 < pl.length ∧ (pl.getD p.1 (0, 0)).1 + (pl.getD p.1 (0, 0)).2 ≤ cells.length) →
  Instr.fill (places[·]?) cells.toArray ps = some (En pl (ps.map fun p => (p.1, p.2.cells.toList)) cells).toArray
 | [], cells, _ => rfl
 | (i, v) :: ps, cells, h => by
  obtain ⟨h1, h2, h3⟩ := h _ (RB ..)
  dsimp only at h1 h2 h3;rw [Qv] at h1;rw [Instr.fill, hpl i h2];dsimp only;rw [if_neg (by simp [h1, -List.getD_eq_getElem?_getD]; omega)]
  have e : (v.cells.zipIdx.foldl (fun cs (x : Value × Nat) => cs.setIfInBounds ((pl.getD i (0, 0)).1 + x.2) x.1) cells.toArray) = (setAt cells (pl.getD i (0, 0)).1 v.cells.toList).toArray := by
   have := He v.cells.toList cells.toArray (pl.getD i (0, 0)).1 0
   rw [← Array.foldl_toList, Array.toList_zipIdx]
   simpa using this
  rw [e, Q4, En]
  exact Gm hpl ps _ (fun p hp => by
   have := h p (Q6 _ hp)
   rw [DW]
   exact this)
def G3 (P : Program) (ty : Nat) : Option (List (Nat × Nat)) := match P.underlying ty with
 | some (.struct fs) => fs.toList.mapM fun f => match P.info? f.type with | some i => some (f.offset, i.size) | none => none
 | _ => none
theorem Fj {w : World} : ∀ {fs : List Field} {pl : List (Nat × Nat)} (h : (fs.mapM fun f => match P.info? f.type with | some i => some (f.offset, i.size) | none => none) = some pl),
  (fs.mapM fun f => (do pure (f.offset, ← sizeOf f.type) : Sem (Nat × Nat))).run P w = .ok pl w
 | [], pl, h => by
  rw [List.mapM_nil] at h; cases h; simp
 | f :: fs, pl, h => by
  rw [List.mapM_cons] at h
  cases hf : P.info? f.type with
  | none => rw [hf] at h; simp at h
  | some i =>
   rw [hf] at h;simp only [Option.bind_eq_bind, Option.bind_some] at h
   cases hr : (fs.mapM fun f => match P.info? f.type with | some i => some (f.offset, i.size) | none => none) with
   | none => rw [hr] at h; simp at h
   | some pl' =>
    rw [hr] at h;simp only [Option.bind_some, Option.pure_def, Option.some.injEq] at h;subst h
    have hsz : (sizeOf f.type).run P w = .ok i.size w := by simp [sizeOf, typeInfo, hf]
    rw [List.mapM_cons];simp only [Qw, hsz, Qs, RJ, Fj hr]
theorem Jp {Γ : Tys} (hΓ : Γ.ok P) {ty t : Nat} {parts : Array (Nat × Operand)} {ti : TI} {offs : List Nat} {pl : List (Nat × Nat)} {cells : List D} {ms : List Nat} (hg : o.guard = none) (hd : o.dst = some t) (ht : t < c.n) (ho : o.op = .build ty parts)
  (h1 : A4 Γ ty = some ti) (h2 : ti.kind = .agg offs) (h3 : G3 P ty = some pl) (h4' : ti.zero.all (·.oneCell') = true) (h5 : setsOkW pl (parts.toList.map fun p => (p.1, opd s.fr p.2)) (ti.zero.map BK) = true)
  (h6 : En pl (parts.toList.map fun p => (p.1, O2 (opd s.fr p.2))) (ti.zero.map BK) = cells) (hms : AW s.fr (parts.toList.map (·.2)) = ms) (hm : ms.Nodup)
  (kk : WO P c ops rest ⟨(t, .agg cells) :: Jf ms s.fr, s.M⟩ Q) : WO P c ops (o :: rest) s Q := by
 subst hms h6
 rintro a w ⟨F, β, fb, mb, ow, hi⟩
 obtain ⟨⟨i, z, q1, q2, q3, q4, q5⟩, hk⟩ := hΓ.get h1
 rw [h2] at hk
 obtain ⟨fs, hu, hoffs, _⟩ := hk
 unfold G3 at h3;rw [hu] at h3;dsimp only at h3
 obtain ⟨bs', r1, r2, r3, r4⟩ := Gi hi (pl := pl) (ps := parts.toList) (B0 (w := w) (F := F) (β := β) ti.zero) List.nodup_nil (by simp) h5 hm
 have hzv : (zeroValue ty).run P w = .ok z w := by simp [zeroValue, typeInfo, q1, q4]
 have hpl : (fs.mapM fun f => (do pure (f.offset, ← sizeOf f.type) : Sem (Nat × Nat))).run P w = .ok pl.toArray w := by
  rw [Array.mapM_eq_mapM_toList];simp only [Sem.run_map, Fj h3];simp only [Qs, RJ]
 have hfill : Instr.fill (pl.toArray[·]?) z.cells (parts.toList.map fun p => (p.1, a.eval p.2)) = some (En pl (parts.toList.map fun p => (p.1, (a.eval p.2).cells.toList)) ti.zero).toArray := by
  have := Gm (places := pl.toArray) (pl := pl) (fun i hi => by
   simp [hi]) (parts.toList.map fun p => (p.1, a.eval p.2)) ti.zero (fun p hp => by
    obtain ⟨q, hq, rfl⟩ := RA.1 hp
    obtain ⟨g1, g2, g3, g4⟩ := r4 q hq
    exact ⟨g1, g3, by simpa using g4⟩)
  rw [List.map_map] at this
  have e : z.cells = ti.zero.toArray := by rw [← q5, Array.toArray_toList]
  rw [e];exact this
 have hrun : (execOp a.eval o).run P w = .ok (.value (.agg (En pl (parts.toList.map fun p => (p.1, (a.eval p.2).cells.toList)) ti.zero).toArray)) w := by
  simp only [execOp, ho, Instr.build, Qw, hzv, Qs, run_underlying hu, hpl];rw [show (parts.map fun (x : Nat × Operand) => (x.1, a.eval x.2)).toList = parts.toList.map fun p => (p.1, a.eval p.2) from by simp];rw [hfill];rfl
 have hone : (En pl (parts.toList.map fun p => (p.1, (a.eval p.2).cells.toList)) ti.zero).all (·.oneCell') = true := by
  have key1 : ∀ (xs l : List Value) (k : Nat), l.all (·.oneCell') = true → xs.all (·.oneCell') = true → (setAt l k xs).all (·.oneCell') = true := by
   intro xs
   induction xs with
   | nil => intro l k h _; exact h
   | cons x xs ih =>
    intro l k h hx;rw [RG, Qf] at hx;refine ih _ _ ?_ hx.2;rw [Qn] at h ⊢;intro y hy
    rcases RU hy with hy | rfl
    ·exact h y hy
    ·exact hx.1
  have key : ∀ (ps : List (Nat × List Value)) (l : List Value), l.all (·.oneCell') = true → (∀ p, p ∈ ps → p.2.all (·.oneCell') = true) → (En pl ps l).all (·.oneCell') = true := by
   intro ps
   induction ps with
   | nil => intro l h _; exact h
   | cons p ps ih =>
    intro l h hp
    exact ih _ (key1 _ _ _ h (hp p (RB ..))) fun q hq => hp q (Q6 _ hq)
  refine key _ _ h4' fun p hp => ?_
  obtain ⟨q, hq, rfl⟩ := RA.1 hp
  exact (r4 q hq).2.1
 refine wpList_plain hg fun K hK => ?_
 unfold Oper.wp;rw [hrun, Oper.upon_value, hd];refine hK _ _ (kk _ _ (hi.putOwn ht (bs := bs') ?_ r2 fun b hb => (r3 b hb).resolve_left (by simp)))
 have := RelD.agg (arr := (En pl (parts.toList.map fun p => (p.1, (a.eval p.2).cells.toList)) ti.zero).toArray) (by simpa using hone) (by simpa using r1) (RelD.done (w := w) (F := F) (β := β))
 simpa using this
theorem Li {Γ : Tys} (hΓ : Γ.ok P) {ty t : Nat} {parts : Array (Nat × Operand)} {ti : TI} {offs : List Nat} {pl : List (Nat × Nat)} {cells : List D} {ms : List Nat} (hg : o.guard = none) (hd : o.dst = some t) (ht : t < c.n) (ho : o.op = .build ty parts)
  (h1 : A4 Γ ty = some ti) (h2 : ti.kind = .agg offs) (h3 : G3 P ty = some pl) (h4' : ti.zero.all (·.oneCell') = true) (h5 : setsOkW pl (parts.toList.map fun p => (p.1, opd s.fr p.2)) (ti.zero.map BK) = true)
  (h6 : Ca (En pl (parts.toList.map fun p => (p.1, O2 (opd s.fr p.2))) (ti.zero.map BK)) some = some cells) (hms : Fe (AW s.fr (parts.toList.map (·.2))) some = some ms) (hm : Fr ms = true)
  (kk : WO P c ops rest ⟨(t, .agg cells) :: Jf ms s.fr, s.M⟩ Q) : WO P c ops (o :: rest) s Q := by
 rw [spineD_eq] at h6;rw [DQ] at hms;cases h6; cases hms;exact Jp hΓ hg hd ht ho h1 h2 h3 h4' h5 rfl rfl (nodupB_sound hm) kk
end
section
variable {P : Program} {c : Ctx} {s : St} {M0 : List (Nat × Blk)} {acc : List Dl} {Q : St → List Dl → Prop} {ops : Array Oper} {rest : List Oper} {o : Oper}
end
end Go.Eng
end
section
/- Slices made of so many, copied into, named: of whole numbers. -/
namespace Go.Eng
open Go.RowKit
section
variable {P : Program} {c : Ctx} {s : St} {Q : Exit → St → Prop} {ops : Array Oper} {rest : List Oper} {o : Oper}
theorem Le.eqK {id : Nat} {k k' : Blk} (h1 : lookM s.M id = some k) (h : k = k') : Le c s ⟨s.fr, (id, k') :: s.M⟩ := by
 subst h;refine Le.of (fun t => .inl rfl) (fun i => .inl ?_);simp only [lookM];split
 ·rename_i e; subst e; exact h1.symm
 ·rfl
theorem Gs (l : List Int) : (l.map (Value.int .i64)).map T.v = l.map T.int := by rw [List.map_map]; rfl
theorem PD {t id len e : Nat} {ty ty' : TypeId} {x y : Operand} {us zs : List Int} (hg : o.guard = none) (hd : o.dst = some t) (ht : t < c.n) (ho : o.op = .call { callee := .builtin .copy, args := #[x, y], argTypes := #[ty, ty'] })
  (hu : P.underlying ty = some (.slice e)) (hsz : (P.info? e).map (·.size) = some 1)
  (hx : opd s.fr x = .sl id 0 len) (hM : lookM s.M id = some (.L 1 (us.map T.int))) (hlen : us.length = len) (hy : opd s.fr y = .t (.list 1 (zs.map T.int))) (hle : zs.length ≤ us.length)
  (k : WO P c ops rest ⟨(t, .t (.int zs.length)) :: s.fr, (id, .L 1 ((zs ++ us.drop zs.length).map T.int)) :: s.M⟩ Q) : WO P c ops (o :: rest) s Q := by
 refine PE (us := us.map (Value.int .i64)) (zs := zs.map (Value.int .i64)) hg hd ht ho hu hsz hx (by rw [Gs]; exact hM) (by simpa using hlen) (by rw [Gs]; exact hy) (by simpa using hle) ?_;rw [Qh, ← List.map_drop, ← Q8, Gs];exact k
theorem Le.adoptBoxI {u id j : Nat} {l : List Int} {cells : List D} (hc : (Hc id s.fr && clM id s.M) = true) (hB : lookM s.M u = some (.box cells)) (h1 : cells[j]? = some (.own (T.ints l))) :
  Le c s ⟨s.fr, (u, .box (cells.set j (.sl id 0 l.length))) :: (id, .L 1 (l.map T.int)) :: s.M⟩ := by
 have := Le.adoptBox (c := c) (n := 1) (xs := l.map T.int) hc hB h1
 rwa [Qh] at this
end
section
variable {P : Program} {c : Ctx} {s : St} {M0 : List (Nat × Blk)} {acc : List Dl} {Q : St → List Dl → Prop} {ops : Array Oper} {rest : List Oper} {o : Oper}
end
end Go.Eng
end
section
/- Statements of open order that make ready what they lend, once it is read. -/
namespace Go.Eng
open Go.RowKit
section
variable {P : Program} {c : Ctx} {s : St} {ops : Array Oper} {rest : List Oper} {o : Oper}
theorem QH_ev2 {Q : St → List Dl → Prop} {acc : List Dl} {b : List Nat} {bs : List (List Nat)} {Γ : Tys} (hΓ : Γ.ok P) {t : Nat} {d : D} {u1 b1 n1 u2 b2 n2 : Nat} {c1 c2 : List D} (p1 p2 : Nat) (hg : o.guard = none) (hd : o.dst = some t) (ht : t < c.n) (he : evF Γ ⟨s.fr, CZ b s.M⟩ o.op = some d)
  (hM1 : lookM (CZ b s.M) u1 = some (.box c1)) (hp1 : lookM (CZ b s.M) p1 = some (.pin u1 b1 n1 1)) (hc1 : D.noImm.noImmL c1 = true)
  (hM2 : lookM (CZ b s.M) u2 = some (.box c2)) (hp2 : lookM (CZ b s.M) p2 = some (.pin u2 b2 n2 1)) (hc2 : D.noImm.noImmL c2 = true) (h12 : (u1 == u2) = false) (h1p : (u1 == p2) = false)
  (k : QH P c ops bs rest ⟨(t, d) :: s.fr, (u2, .obox (.pointer (some ⟨b2, 0, none⟩)) c2) :: (u1, .obox (.pointer (some ⟨b1, 0, none⟩)) c1) :: s.M⟩ (acc ++ [⟨t, d, [], [(u2, .obox (.pointer (some ⟨b2, 0, none⟩)) c2), (u1, .obox (.pointer (some ⟨b1, 0, none⟩)) c1)], false⟩]) Q) : QH P c ops (b :: bs) (o :: rest) s acc Q :=
 ⟨⟨t, d, [], [(u2, .obox (.pointer (some ⟨b2, 0, none⟩)) c2), (u1, .obox (.pointer (some ⟨b1, 0, none⟩)) c1)], false⟩, fun s' ha _ Q h => by
  have h12' : ¬ u1 = u2 := by simpa using h12
  have h1p' : ¬ u1 = p2 := by simpa using h1p
  refine WO_evF hΓ hg hd ht (EW ha he) ?_;refine AC (Le.close (u := u1) p1 (ha.1 _ _ hM1) (ha.1 _ _ hp1) hc1) ?_;refine AC (Le.close (u := u2) (b := b2) (n := n2) p2 ?_ ?_ hc2) h
  ·show (if u1 = u2 then _ else lookM s'.M u2) = _
   rw [if_neg h12'];exact ha.1 _ _ hM2
  ·show (if u1 = p2 then _ else lookM s'.M p2) = _
   rw [if_neg h1p']
   exact ha.1 _ _ hp2, k⟩
end
section
variable {P : Program} {c : Ctx} {s : St} {Q : Exit → St → Prop} {ops : Array Oper} {rest : List Oper} {o : Oper}
theorem PB {Γ : Tys} (hΓ : Γ.ok P) {ty e t : Nat} {x : Operand} {ti te : TI} {i : Int} (z : T) (hg : o.guard = none) (hd : o.dst = some t) (ht : t < c.n) (ho : o.op = .makeSlice ty x x)
  (h1 : A4 Γ ty = some ti) (h2 : ti.kind = .slice e) (h3 : A4 Γ e = some te) (hx : opd s.fr x = .t (.int i)) (hz : AbsL (te.zero.map BK) z.cells) (hn : z.cells.length = te.size) (h0 : 0 ≤ i)
  (hk : i ≤ 1073741824) (hb : te.bytes ≤ 131072)
  (kk : WO P c ops rest ⟨(t, .sl t 0 i.toNat) :: killF t s.fr, (t, .L te.size (List.replicate i.toNat z)) :: killM t s.M⟩ Q) : WO P c ops (o :: rest) s Q :=
 Jr hΓ z i.toNat hg hd ht ho h1 h2 h3 (by rw [hx, Int.toNat_of_nonneg h0]) hz hn (by omega) hb kk
end
end Go.Eng
end
section
/- One cell of a list is laid open: the list that it owns gets a name. -/
namespace Go.Eng
open Go.RowKit
section
variable {P : Program} {c : Ctx} {s : St} {Q : Exit → St → Prop} {ops : Array Oper} {rest : List Oper} {o : Oper}
theorem Le.rawListO {id b n cap : Nat} {vs : List Value} {ys : List T} (pid : Nat) (hM : lookM s.M id = some (.raw b (cap * n) vs (ys.flatMap T.cells))) (h2 : lookM s.M pid = none) (h3 : Hc id s.fr = true) (h4 : (s.M.all fun p => Bh id p.2) = true)
  (hn : ∀ y, y ∈ ys → (T.cells y).length = n) (hl : ys.length ≤ cap) (hc : cap ≤ maxLen) :
  Le c s ⟨s.fr, (id, .L n ys) :: (pid, .pin id b n cap) :: s.M⟩ := by
 rintro a w ⟨F, β, fb, mb, ow, hi⟩
 refine hi.name pid hM h2 h3 h4 fun β' hβ hm => ?_
 obtain ⟨arr, e, bs, q1, q2, q3, q4, q5⟩ := hm
 have hvl : vs.length = ys.length * n := by rw [q4.length, AX hn]
 exact .inr ⟨b, cap, arr, e, bs, hβ, q1, q2, hn, hl, hc, by rw [← hvl, q3]; exact q4, q5⟩
theorem Mix.told : ∀ {vs : List Value} {ts : List T}, vs.length = ts.length → Mix vs ts (vs.map T.v) ts
 | [], [], _ => .nil
 | [], _ :: _, h => by simp at h
 | _ :: _, [], h => by simp at h
 | v :: vs, t :: ts, h => .claim (Mix.told (by simpa using h))
def JG {β : Type} (C : List (β × List Value)) : List T := C.map fun c => .agg (c.2.map T.v)
theorem GY {β : Type} (C : List (β × List Value)) : (JG C).flatMap T.cells = (C.flatMap (·.2)).map T.v := by
 rw [JG, List.flatMap_map, List.map_flatMap]; rfl
theorem JF {β : Type} {C : List (β × List Value)} {n : Nat} (h : ∀ c, c ∈ C → c.2.length = n) : ∀ y, y ∈ JG C → (T.cells y).length = n := by
 intro y hy
 obtain ⟨c, hc, rfl⟩ := RA.1 hy
 show (c.2.map T.v).length = n;rw [Qh]; exact h c hc
theorem PA {l : List Oper} {id n m i off : Nat} {xs ys : List T} {z : T} (id2 pid idp : Nat) (hM : lookM s.M id = some (.L n xs)) (hn : ∀ x, x ∈ xs → (T.cells x).length = n) (hz : xs[i]? = some z) (hc : z.cells[off]? = some (.list m ys)) (hy : ys ≠ [])
  (h2 : lookM s.M id2 = none) (h3 : lookM s.M pid = none) (h4 : lookM s.M idp = none) (hd : (id2 == pid || (id2 == idp || pid == idp)) = false) (hf : Hc id2 s.fr = true) (hcl : (s.M.all fun p => Bh id2 p.2) = true)
  (k : ∀ b cap : Nat, ys.length ≤ cap → WO P c ops l ⟨s.fr, (id, .L n (xs.set i (.agg (z.cells.set off (.v (.slice (some ⟨b, 0, none⟩) ys.length cap)))))) :: (id2, .L m ys) :: (pid, .pin id2 b m cap) :: s.M⟩ Q) : WO P c ops l s Q := by
 simp only [Qy, beq_eq_false_iff_ne] at hd
 obtain ⟨d1, d2, d3⟩ := hd
 have n1 : ¬ id = id2 := fun e => by rw [e, h2] at hM; cases hM
 have n2 : ¬ id = pid := fun e => by rw [e, h3] at hM; cases hM
 have n3 : ¬ id = idp := fun e => by rw [e, h4] at hM; cases hM
 have n1' : ¬ id2 = id := fun e => n1 e.symm
 have n2' : ¬ pid = id := fun e => n2 e.symm
 have n3' : ¬ idp = id := fun e => n3 e.symm
 have d1' : ¬ pid = id2 := fun e => d1 e.symm
 have d2' : ¬ idp = id2 := fun e => d2 e.symm
 have d3' : ¬ idp = pid := fun e => d3 e.symm
 refine Du (id := id) (idp := idp) hM h4 fun vs hvs => ?_
 obtain ⟨C, hC1, hC2, rfl⟩ := cutV (l := xs) (vs := vs) (n := n) hvs
 have hCl : C.length = xs.length := by rw [← hC1, Qh]
 refine ⟨JG C, GY C, by rw [JG, Qh, hCl], JF hC2, ?_⟩
 have hil := (List.getElem?_eq_some_iff.1 hz).1
 have hzn := hn z (RE hz)
 have hoff : off < n := by rw [← hzn]; exact (List.getElem?_eq_some_iff.1 hc).1
 have hat : (xs.flatMap T.cells)[i * n + off]? = some (.list m ys) := by rw [Dn hn hz hoff]; exact hc
 have hlt : i * n + off < xs.length * n := by
  have : (i + 1) * n ≤ xs.length * n := RS n hil
  rw [Nat.succ_mul] at this;omega
 obtain ⟨u, hu⟩ : ∃ u, (C.flatMap (·.2))[i * n + off]? = some u := ⟨_, List.getElem?_eq_getElem (by rw [hvs]; exact hlt)⟩
 refine Dv (id := idp) (j := i * n + off) (id2 := id2) (n := m) (u := u) (xs := ys) (blk := .rawV (C.flatMap (·.2)) (xs.flatMap T.cells)) (by simp [lookM, n1, n2, n3, d1, d2, d3, n1', n2', n3', d1', d2', d3', h2, h3, h4]) rfl hu hat (by simp [lookM, n1, n2, n3, d1, d2, d3, n1', n2', n3', d1', d2', d3', h2, h3, h4]) fun e ad b cap ws hue hb he hlc hcm hcn => ?_
 have he0 : e = false := by cases e with | false => rfl | true => exact absurd (he rfl) hy
 subst he0
 obtain rfl : ad = some ⟨b, 0, none⟩ := hb rfl
 subst hue;refine AC (Le.rawListO (id := id2) (b := b) (n := m) (cap := cap) (vs := ws) (ys := ys) pid (by simp [lookM, rb, setV, n1, n2, n3, d1, d2, d3, n1', n2', n3', d1', d2', d3', h2, h3, h4]) (by simp [lookM, n1, n2, n3, d1, d2, d3, n1', n2', n3', d1', d2', d3', h2, h3, h4]) hf (by simp only [RG, hcl, Bool.and_true]; rfl) hcn hlc hcm) ?_;refine AC (Le.claimMix (id := id) (idp := idp) (n := n) (ys := JG C) (xs := xs.set i (.agg (z.cells.set off (.v (.slice (some ⟨b, 0, none⟩) ys.length cap))))) (vs := C.flatMap (·.2)) (ts := (xs.flatMap T.cells).set (i * n + off) (.v (.slice (some ⟨b, 0, none⟩) ys.length cap))) (by simp [lookM, n1, n2, n3, d1, d2, d3, n1', n2', n3', d1', d2', d3', h2, h3, h4]) (by simp [lookM, setV, MX, n1, n2, n3, d1, d2, d3, n1', n2', n3', d1', d2', d3', h2, h3, h4]) ?_ (by simp [JG, hCl]) ?_ (by simpa using n3)) ?_
 ·rw [GY, ← CA (y := .agg (z.cells.set off (.v (.slice (some ⟨b, 0, none⟩) ys.length cap)))) hn hz hoff rfl]
  exact Mix.told (by rw [hvs, RQ, AX hn])
 ·intro x hx
  rcases RU hx with hx | rfl
  ·exact hn x hx
  ·show (z.cells.set off _).length = n
   rw [RQ]; exact hzn
 ·refine AC ?_ (k b cap hlc)
  refine Le.of (fun t => .inl rfl) fun j => .inl ?_
  simp only [lookM]
  by_cases g1 : id = j
  ·subst g1; simp
  ·rw [if_neg g1, if_neg g1]
   by_cases g2 : idp = j
   ·subst g2
    rw [Az, if_neg d2, if_neg d3, h4]
   ·rw [BQ (fun e => g2 e.symm)]
    simp only [lookM, if_neg g1, if_neg g2]
    by_cases g3 : id2 = j
    ·simp [g3]
    ·simp [g3]
theorem NR {code : Code} {id n m i off : Nat} {xs ys : List T} {z : T} (id2 pid idp : Nat) (hM : lookM s.M id = some (.L n xs)) (hn : ∀ x, x ∈ xs → (T.cells x).length = n) (hz : xs[i]? = some z) (hc : z.cells[off]? = some (.list m ys)) (hy : ys ≠ [])
  (h2 : lookM s.M id2 = none) (h3 : lookM s.M pid = none) (h4 : lookM s.M idp = none) (hd : (id2 == pid || (id2 == idp || pid == idp)) = false) (hf : Hc id2 s.fr = true) (hcl : (s.M.all fun p => Bh id2 p.2) = true)
  (k : ∀ b cap : Nat, ys.length ≤ cap → W P c code ⟨s.fr, (id, .L n (xs.set i (.agg (z.cells.set off (.v (.slice (some ⟨b, 0, none⟩) ys.length cap)))))) :: (id2, .L m ys) :: (pid, .pin id2 b m cap) :: s.M⟩ Q) : W P c code s Q := by
 intro a w hi
 obtain ⟨s', h1, b, cap, hl, rfl⟩ := PA (P := P) (ops := #[]) (l := []) (Q := fun _ s' => ∃ b cap : Nat, ys.length ≤ cap ∧ s' = ⟨s.fr, (id, .L n (xs.set i (.agg (z.cells.set off (.v (.slice (some ⟨b, 0, none⟩) ys.length cap)))))) :: (id2, .L m ys) :: (pid, .pin id2 b m cap) :: s.M⟩) id2 pid idp hM hn hz hc hy h2 h3 h4 hd hf hcl (fun b cap hl => Pf ⟨b, cap, hl, rfl⟩) a w hi
 exact k b cap hl a w h1
end
end Go.Eng
end
section
/- A copy within one list of plain values of the function's own. -/
namespace Go.Eng
open Go.RowKit
section
variable {P : Program} {c : Ctx} {s : St} {Q : Exit → St → Prop} {ops : Array Oper} {rest : List Oper} {o : Oper}
end
end Go.Eng
end
section
/- A region that only reads, run as if all memory were only read: what it answers of values is kept in a new variable, all else is as before. -/
namespace Go.Eng
open Go.RowKit
section
variable {P : Program} {c : Ctx} {s : St} {Q : Exit → St → Prop} {ops : Array Oper}
def sameOut (ds : List Nat) (a0 a : Act) : Prop := ∀ u, u ∉ ds → a.tmps.getD u undef = a0.tmps.getD u undef
theorem sameOut.put {ds : List Nat} {a0 a : Act} (h : sameOut ds a0 a) {d : Option Nat} (hd : ∀ t, d = some t → t ∈ ds) (v : Value) : sameOut ds a0 (a.put d v) := by
 cases d with
 | none => exact h
 | some t =>
  intro u hu
  have hne : ¬ t = u := fun e => hu (e ▸ hd t rfl)
  rw [← h u hu]
  simp [Act.put, Array.getElem?_setIfInBounds_ne hne]
theorem Lu {ds : List Nat} {a0 a : Act} {o : Oper} {next next' : Act → World → Prop} {Q1 Q2 : Exit → Act → World → Prop} {r : Result Next} (ha : sameOut ds a0 a) (hd : ∀ t, o.dst = some t → t ∈ ds) (hn : ∀ a w, sameOut ds a0 a → next a w → next' a w) (hQ : ∀ e a w, e ≠ .normal → Q1 e a w → Q2 e a w)
  (h : o.upon P a next Q1 r) : o.upon P a next' Q2 r := by
 have hl : LetsOut Q1 → LetsOut Q2 := fun ⟨a, w, h⟩ => ⟨a, w, hQ _ _ _ (by simp) h⟩
 cases r with
 | ok x w' =>
  cases x with
  | value v => exact hn _ _ (ha.put hd v) h
  | skip => exact hn _ _ (ha.put hd undef) h
  | defer d => exact hn _ _ ((show sameOut ds a0 { a with defers := d :: a.defers } from ha).put hd undef) h
  | enter f args =>
   refine Calls.mono h fun e w'' he => ?_
   cases e with
   | returned v => exact hn _ _ (ha.put hd v) he
   | panicked chain => exact hQ _ _ _ (by simp) he
   | outgrown => exact hl he
  | row row args => exact Rows.mono h fun v w'' he => hn _ _ (ha.put hd v) he
  | _ => exact h
 | halt x w' => cases x <;> simp only [Oper.upon] at h ⊢ <;> first | exact hQ _ _ _ (by simp) h | exact h
end
end Go.Eng
end
section
/- An element's inner list, taken out of a list: the list keeps its header, told; what it leads to stands apart. -/
namespace Go.Eng
open Go.RowKit
section
variable {P : Program} {c : Ctx} {s : St} {Q : Exit → St → Prop} {ops : Array Oper} {rest : List Oper} {o : Oper}
theorem QV {code : Code} {id n m i off : Nat} {xs ys : List T} {z : T} (idq : Nat) (hM : lookM s.M id = some (.L n xs)) (hz : xs[i]? = some z) (hc : z.cells[off]? = some (.list m ys)) (h2 : lookM s.M idq = none) (hne' : (id == idq) = false)
  (k : ∀ (ad : Option Addr) (cap : Nat), W P c code ⟨s.fr, (id, .L n (xs.set i (.agg (z.cells.set off (.v (.slice ad ys.length cap)))))) :: (idq, .rawV [.slice ad ys.length cap] [.list m ys]) :: s.M⟩ Q) : W P c code s Q := by
 have hne : ¬ id = idq := by simpa using hne'
 rintro a w ⟨F, β, fb, mb, ow, hi⟩
 have hmm := hi.mem id
 rw [hM] at hmm
 have hm2 := hi.mem idq
 rw [h2] at hm2
 have hil := (List.getElem?_eq_some_iff.1 hz).1
 rcases hmm with ⟨r1, r2, r3⟩ | ⟨b0, cap0, arr, e', bs', r1, r3, r4, r5, r6, r7, r8, r9⟩
 ·subst r2; simp at hil
 have hzl := r5 z (RE hz)
 have hoff := (List.getElem?_eq_some_iff.1 hc).1
 have hat : (xs.flatMap T.cells)[i * n + off]? = some (.list m ys) := by
  rw [Dn r5 hz (by omega)]; exact hc
 obtain ⟨u, hu, huone⟩ := r8.get? hat
 obtain ⟨c1, c2, c3, e1, g1, g2⟩ := OwnL.at (i * n + off) r8 hu hat
 obtain ⟨ad, cap, rfl⟩ : ∃ ad cap, u = .slice ad ys.length cap := by
  cases g1 with
  | none h => exact ⟨_, _, rfl⟩
  | list _ _ _ _ _ _ _ _ => exact ⟨_, _, rfl⟩
 have hnew := g2 w (.v (.slice ad ys.length cap)) [] (fun _ _ => rfl) (.v rfl .nil)
 have hset : (xs.flatMap T.cells).set (i * n + off) (.v (.slice ad ys.length cap)) = (xs.set i (.agg (z.cells.set off (.v (.slice ad ys.length cap))))).flatMap T.cells := CA r5 hz (by omega) rfl
 rw [hset] at hnew
 have hnd := hi.nmem id
 rw [r9, e1] at hnd
 refine k ad cap a w (hi.re2 hne (mp := b0 :: (c1 ++ [] ++ c3)) (mq := c2) (fun i h1 h3 => .inl (by
  simp only [lookM]; rw [if_neg (fun e => h1 e.symm), if_neg (fun e => h3 e.symm)])) ?_ ?_ (fun x h => ?_) (fun x h => ?_) ?_ ?_ ?_)
 ·simp only [lookM, if_true]
  refine .inr ⟨b0, cap0, arr, e', c1 ++ [] ++ c3, r1, r3, r4, fun x hx => ?_, by simpa using r6, r7, by rw [RQ]; exact hnew, rfl⟩
  rcases RU hx with hx | rfl
  ·exact r5 x hx
  ·show (z.cells.set off _).length = n
   rw [RQ]; exact hzl
 ·simp only [lookM, if_neg hne, if_true]; exact g1
 ·refine .inl ?_
  rw [r9, e1]
  simp at h ⊢
  rcases h with h | h | h
  ·exact .inl h
  ·exact .inr (.inl h)
  ·exact .inr (.inr (.inr h))
 ·exact .inl (by rw [r9, e1]; simp [h])
 ·obtain ⟨n1, n2⟩ := Qq.1 hnd
  obtain ⟨n3, n4, n5⟩ := Qm.1 n2
  obtain ⟨n6, n7, n8⟩ := Qm.1 n3
  refine Qq.2 ⟨fun h => n1 ?_, ?_⟩
  ·simp at h ⊢
   rcases h with h | h
   ·exact .inl h
   ·exact .inr (.inr h)
  ·rw [Q3]
   exact Qm.2 ⟨n6, n4, fun x hx y hy e => n5 x (by simp [hx]) y hy e⟩
 ·exact (Qm.1 (Qm.1 (Qq.1 hnd).2).1).2.1
 ·intro x hx hy
  obtain ⟨n1, n2⟩ := Qq.1 hnd
  obtain ⟨n3, n4, n5⟩ := Qm.1 n2
  obtain ⟨n6, n7, n8⟩ := Qm.1 n3
  simp at hx
  rcases hx with rfl | hx | hx
  ·exact n1 (by simp [hy])
  ·exact n8 x hx x hy rfl
  ·exact n5 x (by simp [hy]) x hx rfl
theorem Le.ownBack0 {t id : Nat} {v : Value} {x : T} (h1 : look s.fr t = .t (.v v)) (h2 : lookM s.M id = some (.rawV [v] [x])) : Le c s ⟨(t, .own x) :: s.fr, (id, .rawV [] []) :: s.M⟩ := by
 classical
 rintro a w ⟨F, β, fb, mb, ow, hi⟩
 have hr := hi.fr t
 rw [h1] at hr
 have e1 := A0 hr
 have hm := hi.mem id
 rw [h2] at hm
 have hO : OwnL w [v] [x] (mb id) := hm
 have ho : ∀ b, b ∈ mb id → ow b = some (.inr id) := fun b h => hi.omem id b h
 have hfb : fb t = [] := hr.free1 rfl
 refine ⟨F, β, fun y => if y = t then mb id else fb y, fun i => if i = id then [] else mb i, fun b => if b ∈ mb id then some (.inl t) else ow b, ?_⟩
 exact { hi with
  fr := fun y => by
   simp only [look]
   by_cases h : t = y
   ·subst h
    rw [if_pos rfl, if_pos rfl, e1]
    simpa using RelD.own (F := F) (β := β) hO .done
   ·rw [if_neg h, if_neg (fun e => h e.symm)]
    exact hi.fr y
  mem := fun i => by
   simp only [lookM]
   by_cases h : i = id
   ·subst h; rw [if_pos rfl, if_pos rfl]; exact OwnL.nil
   ·rw [if_neg (fun e => h e.symm), if_neg h]; exact hi.mem i
  ofr := fun y b hb => by
   split at hb
   ·rename_i h; subst h; rw [if_pos hb]
   ·have h5 := hi.ofr y b hb
    rw [if_neg (fun h => by rw [ho b h] at h5; cases h5)];exact h5
  omem := fun i b hb => by
   split at hb
   ·cases hb
   ·rename_i hne
    have h5 := hi.omem i b hb
    rw [if_neg (fun h => by rw [ho b h] at h5; cases h5; exact hne rfl)];exact h5
  nfr := fun y => by
   split
   ·exact hi.nmem id
   ·exact hi.nfr y
  nmem := fun i => by
   split
   ·exact List.nodup_nil
   ·exact hi.nmem i
  own := fun b hb => by
   split at hb
   ·rename_i h; exact hi.own b (by rw [ho b h]; simp)
   ·exact hi.own b hb }
theorem Jt {Q : St → List Dl → Prop} {acc : List Dl} {b : List Nat} {bs : List (List Nat)} {Γ : Tys} (hΓ : Γ.ok P) {ty t id i off n : Nat} {x : Operand} {ti : TI} {xs : List T} {z y : T} {v : Value} (idq : Nat) (hg : o.guard = none) (hd : o.dst = some t) (ht : t < c.n) (ho : o.op = .load ty x)
  (h1 : A4 Γ ty = some ti) (hx : opd s.fr x = .ref id i off) (hM : lookM (CZ b s.M) id = some (.L n xs)) (hz : xs[i]? = some z) (hp : JP ti.kind ti.size (z.cells.map scal) off = some (.t (.v v))) (hq : lookM (CZ b s.M) idq = some (.rawV [v] [y]))
  (k : QH P c ops bs rest ⟨(t, .own y) :: s.fr, (idq, .rawV [] []) :: s.M⟩ (acc ++ [⟨t, .own y, [], [(idq, .rawV [] [])], false⟩]) Q) : QH P c ops (b :: bs) (o :: rest) s acc Q :=
 ⟨⟨t, .own y, [], [(idq, .rawV [] [])], false⟩, fun s' ha _ Q h => by
  refine BI hΓ hg hd ht ho h1 (by rw [ha.opd (by rw [ho]; simp [Op.operands])]; exact hx) (ha.1 _ _ hM) hz hp ?_
  have h3 : Le c ⟨(t, .own y) :: (t, .t (.v v)) :: s'.fr, (idq, .rawV [] []) :: s'.M⟩ ⟨(t, .own y) :: s'.fr, (idq, .rawV [] []) :: s'.M⟩ := Le.of (fun u => .inl (by
   show (if t = u then D.own y else look s'.fr u) = if t = u then D.own y else if t = u then _ else look s'.fr u
   split <;> rfl)) (fun u => .inl rfl)
  have h2 : Le c ⟨(t, .t (.v v)) :: s'.fr, s'.M⟩ ⟨(t, .own y) :: (t, .t (.v v)) :: s'.fr, (idq, .rawV [] []) :: s'.M⟩ := Le.ownBack0 (t := t) (id := idq) (v := v) (by show (if t = t then _ else _) = _; rw [if_pos rfl]) (ha.1 _ _ hq)
  exact AC (h2.trans h3) h, k⟩
theorem Le.freezeB {u : Nat} {cells : List D} {ts : List T} (hM : lookM s.M u = some (.box cells)) (h : Nt cells = some ts) : Le c s ⟨s.fr, (u, .box (ts.map D.t)) :: s.M⟩ := by
 classical
 rintro a w ⟨F, β, fb, mb, ow, hi⟩
 have hm := hi.mem u
 rw [hM] at hm
 obtain ⟨b, arr, e, bs, h1, h2, h3, h4, h5⟩ := hm
 have hnd := hi.nmem u
 rw [h5] at hnd
 obtain ⟨n1, n2⟩ := Qq.1 hnd
 have hrel := frzL_rel h3 h h4
 have hlen : (ts.map D.t).length = cells.length := by rw [Qh, ← hrel.length, h3.length]
 have hbs : ∀ b', b' ∈ bs → ow b' = some (.inr u) := fun b' hb => hi.omem u b' (by rw [h5]; simp [hb])
 refine ⟨fun b' => F b' ∨ b' ∈ bs, β, fb, fun i => if u = i then [b] else mb i, fun b' => if b' ∈ bs then none else ow b', ?_⟩
 exact { hi with
  fr := fun v => (hi.fr v).mono (w := w) (w' := w) (fun _ h => .inl h) (fun _ _ => rfl) (fun _ _ => rfl) fun _ => rfl
  mem := fun id => by
   simp only [lookM]
   by_cases hid : u = id
   ·subst hid
    rw [if_pos rfl, if_pos rfl];refine ⟨b, arr, e, [], by rw [hlen]; exact h1, h2, ?_, h4, rfl⟩
    have key : ∀ {vs : List Value} {ts : List T}, RelL w (fun b' => F b' ∨ b' ∈ bs) vs ts → vs.all (·.oneCell') = true → RelD w (fun b' => F b' ∨ b' ∈ bs) β vs (ts.map D.t) [] := by
     intro vs
     induction vs with
     | nil => intro ts h _; cases ts with | nil => exact .done | cons _ _ => cases h
     | cons v vs ih =>
      intro ts h ho
      cases ts with
      | nil => cases h
      | cons t ts =>
       obtain ⟨g1, g2⟩ := h.cons
       rw [RG, Qf] at ho;exact .t g1 (ih g2 ho.2)
    exact key hrel h4
   ·rw [if_neg hid, if_neg hid]
    have := hi.mem id
    cases hM' : lookM s.M id with
    | none => rw [hM'] at this; exact this
    | some k => rw [hM'] at this; exact relB_wider this (fun _ h => .inl h)
  ofr := fun v b' hb => by
   have h6 := hi.ofr v b' hb
   rw [if_neg (fun h => by rw [hbs b' h] at h6; cases h6)];exact h6
  omem := fun id b' hb => by
   by_cases hid : u = id
   ·subst hid
    rw [if_pos rfl, Q5] at hb;subst hb;rw [if_neg n1];exact hi.omem u b' (by rw [h5]; simp)
   ·rw [if_neg hid] at hb
    have h6 := hi.omem id b' hb
    rw [if_neg (fun h => by rw [hbs b' h] at h6; cases h6; exact hid rfl)];exact h6
  nmem := fun id => by
   by_cases hid : u = id
   ·rw [if_pos hid]; simp
   ·rw [if_neg hid]; exact hi.nmem id
  own := fun b' hb => by
   split at hb
   ·exact absurd rfl hb
   ·rename_i hn
    obtain ⟨q1, q2, q3⟩ := hi.own b' hb
    exact ⟨fun h => h.elim q1 hn, q2, q3⟩
  fin := fun b' hb => hb.elim (hi.fin b') fun h => (hi.own b' (by rw [hbs b' h]; simp)).2.1
  f0 := fun b' hb => .inl (hi.f0 b' hb)
  fnew := fun b' hb => hb.elim (hi.fnew b') fun h => .inr (hi.own b' (by rw [hbs b' h]; simp)).2.2 }
end
end Go.Eng
end
section
/- Calls of readers on own memory; what is told, read by what is known of it. -/
namespace Go.Eng
open Go.RowKit
section
variable {P : Program} {c : Ctx} {s : St} {Q : Exit → St → Prop} {ops : Array Oper} {rest : List Oper} {o : Oper} {M0 : List (Nat × Blk)} {acc : List Dl}
end
end Go.Eng
end
section
/- Arithmetic of words of any width. -/
namespace Go.Eng
open Go.RowKit
section
variable {P : Program} {c : Ctx} {s : St} {Q : Exit → St → Prop} {ops : Array Oper} {rest : List Oper} {o : Oper}
def Np (P : Program) (op : BinOp) (u1 u2 v : Value) : Prop := ∀ (ty : Nat) (ox oy : Operand) (w : World), ((do eqGuard op ty ox oy u1 u2; binOp op ty u1 u2 : Sem Value)).run P w = .ok v w
theorem GJ {t ty ty' : Nat} {op : BinOp} {x y : Operand} {u1 u2 v : Value} (hg : o.guard = none) (hd : o.dst = some t) (ht : t < c.n) (ho : o.op = .binOp op ty x y ty') (hx : opd s.fr x = .t (.v u1)) (hy : opd s.fr y = .t (.v u2)) (hv : Np P op u1 u2 v) (hone : v.oneCell' = true)
  (kk : WO P c ops rest ⟨(t, .t (.v v)) :: s.fr, s.M⟩ Q) : WO P c ops (o :: rest) s Q := by
 refine BV hg hd ht _ (fun a' w F β fb mb ow hi => ?_) kk;refine ⟨v, ?_, .t (.v hone .nil) .done⟩
 have e1 := Bs hi hx
 have e2 := Bs hi hy
 simp only [execOp, ho, e1, e2]
 have := hv ty x y w
 simp only [Qw] at this ⊢
 revert this
 cases h : (eqGuard op ty x y u1 u2).run P w <;> simp_all [Result.andThen]
theorem Pb {k : IntKind} {a b : Int} : Np P .add (.int k a) (.int k b) (.int k (k.wrap (a + b))) := fun ty ox oy w => by
 simp [eqGuard, binOp, Op.intArith]
theorem binMul {k : IntKind} {a b : Int} : Np P .mul (.int k a) (.int k b) (.int k (k.wrap (a * b))) := fun ty ox oy w => by
 simp [eqGuard, binOp, Op.intArith]
theorem binShr {k k2 : IntKind} {a b : Int} (hb : ¬ b < 0) : Np P .shr (.int k a) (.int k2 b) (.int k (a.fdiv (2 ^ min b.toNat k.bits))) := fun ty ox oy w => by
 simp [eqGuard, binOp, Op.shift, hb]
theorem binAnd {k : IntKind} {a b : Int} : Np P .and (.int k a) (.int k b) (.int k (k.wrap ((BitVec.ofInt k.bits a &&& BitVec.ofInt k.bits b).toNat : Nat))) := fun ty ox oy w => by
 simp [eqGuard, binOp, Op.intBits]
theorem I5 {src dst t : Nat} {x : Operand} {td : TypeDesc} {k k0 : IntKind} {n m : Int} (hg : o.guard = none) (hd : o.dst = some t) (ht : t < c.n) (ho : o.op = .convert src dst x)
  (h1 : P.underlying src = some td) (h2 : P.underlying dst = some (.int k)) (hx : opd s.fr x = .t (.v (.int k0 n))) (hw : k.wrap n = m)
  (kk : WO P c ops rest ⟨(t, .t (.v (.int k m))) :: s.fr, s.M⟩ Q) : WO P c ops (o :: rest) s Q := by
 subst hw; exact WO_conv hg hd ht ho h1 h2 hx kk
theorem Ni {Q : St → Prop} {src dst t : Nat} {x : Operand} {td : TypeDesc} {k k0 : IntKind} {n m : Int} (hg : o.guard = none) (hd : o.dst = some t) (ht : t < c.n) (ho : o.op = .convert src dst x)
  (h1 : P.underlying src = some td) (h2 : P.underlying dst = some (.int k)) (hx : opd s.fr x = .t (.v (.int k0 n))) (hw : k.wrap n = m)
  (kk : QL P c ops rest ⟨(t, .t (.v (.int k m))) :: s.fr, s.M⟩ Q) : QL P c ops (o :: rest) s Q :=
 ⟨t, _, hd, fun s' ha Q h => I5 hg hd ht ho h1 h2 (by rw [ha.opd (by rw [ho]; simp [Op.operands])]; exact hx) hw h, kk⟩
end
end Go.Eng
end
section
/- Regions of open order that write, with a tail in order. -/
namespace Go.Eng
open Go.RowKit
section
variable {P : Program} {c : Ctx} {s : St} {Q : Exit → St → Prop}
end
end Go.Eng
end
section
/- A struct that is read, of which some cells are not told. -/
namespace Go.Eng
open Go.RowKit
section
variable {P : Program} {c : Ctx} {s : St} {Q : Exit → St → Prop} {ops : Array Oper} {rest : List Oper} {o : Oper}
theorem Le.blur5 {t : Nat} {x0 x1 x2 x3 x4 : T} (h1 : look s.fr t = .t (.agg [x0, x1, x2, x3, x4])) : Le c s ⟨(t, .agg [.t x0, .t x1, .top, .top, .top]) :: s.fr, s.M⟩ := by
 rintro a w ⟨F, β, fb, mb, ow, hi⟩
 have hr := hi.fr t
 rw [h1] at hr
 have hfb : fb t = [] := hr.free1 rfl
 refine ⟨F, β, fb, mb, ow, { hi with fr := fun y => ?_ }⟩;simp only [look];split
 ·rename_i e
  subst e;rw [hfb];generalize a.tmps.getD t undef = v at hr
  cases hr with
  | t q1 q2 => cases q1
  | tagg q1 q2 =>
   rename_i arr
   have h5 := relL_one' q1
   obtain ⟨l, hl⟩ : ∃ l, l = arr.toList := ⟨_, rfl⟩
   rw [← hl] at q1 h5
   have key : RelD w F β l [.t x0, .t x1, .top, .top, .top] [] := by
    cases l with
    | nil => cases q1
    | cons v0 l =>
     obtain ⟨g0, q1⟩ := q1.cons
     cases l with
     | nil => cases q1
     | cons v1 l =>
      obtain ⟨g1, q1⟩ := q1.cons
      cases l with
      | nil => cases q1
      | cons v2 l =>
       obtain ⟨_, q1⟩ := q1.cons
       cases l with
       | nil => cases q1
       | cons v3 l =>
        obtain ⟨_, q1⟩ := q1.cons
        cases l with
        | nil => cases q1
        | cons v4 l =>
         obtain ⟨_, q1⟩ := q1.cons
         cases q1;exact .t g0 (.t g1 (.top (.top (.top .done))))
   exact .agg (bs := []) (bs' := []) (by rw [← hl]; exact h5) (by rw [← hl]; exact key) .done
 ·exact hi.fr y
theorem EC {code : Code} {u j : Nat} {x : T} {cells : List D} (idp : Nat) (hB : lookM s.M u = some (.box cells)) (h1 : cells[j]? = some (.own x)) (h2 : lookM s.M idp = none)
  (k : ∀ v : Value, W P c code ⟨s.fr, (u, .box (cells.set j (.t (.v v)))) :: (idp, .rawV [v] [x]) :: s.M⟩ Q) : W P c code s Q := by
 have hne : ¬ u = idp := fun e => by rw [e, h2] at hB; cases hB
 intro a w hi0
 have hi00 := hi0
 obtain ⟨F, β, fb, mb, ow, hi⟩ := hi00
 have hb := hi.mem u
 rw [hB] at hb
 obtain ⟨b0, arr, e0, bs0, p1, p2, p3, p4, p5⟩ := hb
 obtain ⟨v, b1, b2, b3, hbs, q1, qv, q2⟩ := B5 j p3 h1
 have hnd := hi.nmem u
 rw [p5, hbs] at hnd
 obtain ⟨n1, n2⟩ := Qq.1 hnd
 obtain ⟨n3, n4, n5⟩ := Qm.1 n2
 obtain ⟨n6, n7, n8⟩ := Qm.1 n3
 have hone : v.oneCell' = true := by
  rw [Qn] at p4;exact p4 v (RE qv)
 have hO : OwnL w [v] [x] b2 := by
  cases q1 with
  | own h3 h4 => cases h4; simpa using h3
 refine k v a w (hi.re2 hne (mp := b0 :: (b1 ++ [] ++ b3)) (mq := b2) (fun i h1 h2' => .inl (by simp only [lookM]; rw [if_neg (fun e => h1 e.symm), if_neg (fun e => h2' e.symm)])) ?_ ?_ (fun b h => .inl ?_) (fun b h => .inl (by rw [p5, hbs]; simp [h])) ?_ n7 (fun b h h' => ?_))
 ·simp only [lookM, if_true]
  exact ⟨b0, arr, e0, b1 ++ [] ++ b3, by simpa using p1, p2, q2 _ [] (.t (.v hone .nil) .done), p4, rfl⟩
 ·simp only [lookM, if_neg hne, if_true]; exact hO
 ·rw [p5, hbs]
  rcases Qp.1 h with rfl | h
  ·simp
  ·simp only [Q3] at h
   rcases Qj.1 h with h | h <;> simp [h]
 ·simp only [Q3]
  refine Qq.2 ⟨fun h => n1 ?_, Qm.2 ⟨n6, n4, fun x hx y hy => n5 x (by simp [hx]) y hy⟩⟩
  rcases Qj.1 h with h | h <;> simp [h]
 ·simp only [Q3] at h
  rcases Qp.1 h with rfl | h
  ·exact n1 (by simp [h'])
  ·rcases Qj.1 h with h | h
   ·exact n8 b h b h' rfl
   ·exact n5 b (by simp [h']) b h rfl
theorem OQ {w : World} {v : Value} {x : T} {b : List Nat} (h : OwnL w [v] [x] b) (m n : Nat) : OwnL w (List.replicate m (.int .i64 0) ++ v :: List.replicate n (.int .i64 0)) (List.replicate m (T.int 0) ++ x :: List.replicate n (T.int 0)) b := by
 have e : ∀ k : Nat, OwnL w (List.replicate k (Value.int .i64 0)) (List.replicate k (T.int 0)) [] := fun k => by
  have := DS (w := w) (us := List.replicate k (Value.int .i64 0)) (fun v hv => by rw [(List.mem_replicate.1 hv).2]; rfl)
  rwa [List.map_replicate] at this
 have h1 := (e m).append (OwnL.cons' h (e n))
 simpa using h1
theorem Mix.keeps : ∀ (ys : List T), Mix (List.replicate ys.length (.int .i64 0)) (List.replicate ys.length (T.int 0)) ys ys
 | [] => .nil
 | y :: ys => .keep (Mix.keeps ys)
theorem Le.claim1 {id idp n : Nat} {xs ys : List T} {v : Value} {x : T} (A B : List T) (hM : lookM s.M id = some (.L n ys)) (h2 : lookM s.M idp = some (.rawV [v] [x])) (hy : ys.flatMap T.cells = A ++ .v v :: B) (hx : xs.flatMap T.cells = A ++ x :: B) (hl : xs.length = ys.length) (hn : ∀ x, x ∈ xs → (T.cells x).length = n) (hne' : (id == idp) = false) :
  Le c s ⟨s.fr, (id, .L n xs) :: dropM (some idp) s.M⟩ := by
 have hne : ¬ id = idp := by simpa using hne'
 have h3 : Le c s ⟨s.fr, (idp, .rawV (List.replicate A.length (.int .i64 0) ++ v :: List.replicate B.length (.int .i64 0)) (List.replicate A.length (T.int 0) ++ x :: List.replicate B.length (T.int 0))) :: s.M⟩ := by
  rintro a w ⟨F, β, fb, mb, ow, hi⟩
  refine ⟨F, β, fb, mb, ow, { hi with mem := fun i => ?_ }⟩;simp only [lookM]
  by_cases hid : idp = i
  ·subst hid
   rw [if_pos rfl]
   have hm := hi.mem idp
   rw [h2] at hm;exact OQ hm _ _
  ·rw [if_neg hid]; exact hi.mem i
 refine h3.trans ?_
 have h4 := Le.claimMix (c := c) (s := ⟨s.fr, (idp, .rawV (List.replicate A.length (.int .i64 0) ++ v :: List.replicate B.length (.int .i64 0)) (List.replicate A.length (T.int 0) ++ x :: List.replicate B.length (T.int 0))) :: s.M⟩) (id := id) (idp := idp) (n := n) (xs := xs) (ys := ys)
  (by simp only [lookM]; rw [if_neg (fun e => hne e.symm)]; exact hM) (by simp only [lookM, if_true]; rfl) (by rw [hy, hx]; exact (Mix.keeps A).app (.claim (Mix.keeps B))) hl hn hne'
 have e : ∀ (k : Blk), dropM (some idp) ((idp, k) :: s.M) = dropM (some idp) s.M := fun k => by simp [dropM]
 dsimp only at h4;rw [e] at h4;exact h4
theorem Conc.reCell {a : Act} {w : World} {F β fb mb ow} (hi : Conc c s a w F β fb mb ow) {u j : Nat} {d e : D} {cells : List D} (hB : lookM s.M u = some (.box cells)) (h1 : cells[j]? = some d) (h2 : ∀ v b, RelD w F β [v] [d] b → v.oneCell' = true → RelD w F β [v] [e] b) : Is c ⟨s.fr, (u, .box (cells.set j e)) :: s.M⟩ a w := by
 refine ⟨F, β, fb, mb, ow, { hi with mem := fun i => ?_ }⟩;simp only [lookM]
 by_cases hiu : u = i
 ·subst hiu
  rw [if_pos rfl]
  have hb := hi.mem u
  rw [hB] at hb
  obtain ⟨b0, arr, e0, bs0, p1, p2, p3, p4, p5⟩ := hb
  obtain ⟨v, b1, b2, b3, rfl, q1, qv, q2⟩ := B5 j p3 h1
  have hone : v.oneCell' = true := by
   rw [Qn] at p4;exact p4 v (RE qv)
  exact ⟨b0, arr, e0, _, by simpa using p1, p2, q2 _ b2 (h2 v b2 q1 hone), p4, p5⟩
 ·rw [if_neg hiu]; exact hi.mem i
theorem Le.nilTold {u j : Nat} {cells : List D} (hB : lookM s.M u = some (.box cells)) (h1 : cells[j]? = some .nil) : Le c s ⟨s.fr, (u, .box (cells.set j (.t (.v (.slice none 0 0))))) :: s.M⟩ := by
 rintro a w ⟨F, β, fb, mb, ow, hi⟩
 refine hi.reCell hB h1 fun v b h hone => ?_
 cases h with
 | nil h => cases h; exact .t (.v rfl .nil) .done
theorem Le.toldNil {u j : Nat} {cells : List D} (n : Nat) (hB : lookM s.M u = some (.box cells)) (h1 : cells[j]? = some (.t (.v (.slice none 0 0)))) : Le c s ⟨s.fr, (u, .box (cells.set j (.own (.list n [])))) :: s.M⟩ := by
 rintro a w ⟨F, β, fb, mb, ow, hi⟩
 refine hi.reCell hB h1 fun v b h hone => ?_
 cases h with
 | t h1 h => cases h; cases h1 with | v _ _ => exact .own (bs := []) (bs' := []) (.none .nil) .done
end
end Go.Eng
end
section
/- Functions that are lent memory and answer what is then only read. -/
namespace Go.Eng
open Go.RowKit
theorem RelB.monoF {w w' : World} {F F' : Nat → Prop} {β : Aw} {id : Nat} {k : Blk} {bs : List Nat} (hF : ∀ b, F b → F' b) (h : RelB w F β id k bs) (hw : ∀ b, F b → w'.heap[b]? = w.heap[b]?) (hb : ∀ b, b ∈ bs → w'.heap[b]? = w.heap[b]?) : RelB w' F' β id k bs := by
 cases k with
 | L n xs =>
  rcases h with h | ⟨b, cap, arr, e, bs', h1, h2, h3, h4, h5, h6, h7, h8⟩
  ·exact .inl h
  ·subst h8
   exact .inr ⟨b, cap, arr, e, bs', h1, (hb b (by simp)).trans h2, h3, h4, h5, h6, h7.mono fun b h => hb b (by simp [h]), rfl⟩
 | box cells =>
  obtain ⟨b, arr, e, bs', h1, h2, h3, h4, h5⟩ := h
  subst h5;exact ⟨b, arr, e, bs', h1, (hb b (by simp)).trans h2, h3.mono hF hw (fun b h => hb b (by simp [h])) fun _ => rfl, h4, rfl⟩
 | raw b sz vs ts =>
  obtain ⟨arr, e, bs', h1, h2, h3, h4, h5⟩ := h
  subst h5;exact ⟨arr, e, bs', (hb b (by simp)).trans h1, h2, h3, h4.mono fun b h => hb b (by simp [h]), rfl⟩
 | rawV vs ts => exact OwnL.mono h hb
 | ro vs ts => exact ⟨h.1.mono hF hw, h.2⟩
 | pin j b n c => exact h
 | obox pv cells =>
  rcases h with h | ⟨b, arr, e, bs', h1, h2, h3, h4, h5⟩
  ·exact .inl h
  ·subst h5
   exact .inr ⟨b, arr, e, bs', h1, (hb b (by simp)).trans h2, h3.mono hF hw (fun b h => hb b (by simp [h])) fun _ => rfl, h4, rfl⟩
def ProcF (P : Program) (f : FuncId) (ds : List D) (rv : List Value) (rt : List T) (ks : List Blk) (r : D) (ks' : List Blk) : Prop :=
 DJ P f ∧ ∀ (w : World) (F : Nat → Prop) (args : Array Value) (bs : List Nat), (∀ b, F b → b < w.heap.size) → RelD w F BO args.toList ds [] → RelL w F rv rt → GL w ks bs → bs.Nodup → (∀ b, b ∈ bs → b < w.heap.size ∧ ¬ F b) →
  Calls P f args w fun e w' => ∃ v F' br bs', e = .returned v ∧ (∀ b, F b → F' b) ∧ (∀ b, F' b → F b ∨ b ∈ bs ∨ w.heap.size ≤ b) ∧ (∀ b, F' b → b < w'.heap.size) ∧ RelD w' F' BO [v] [r] br ∧ GL w' ks' bs' ∧ (br ++ bs').Nodup ∧ (∀ b, b ∈ br ++ bs' → ¬ F' b ∧ (b ∈ bs ∨ (w.heap.size ≤ b ∧ b < w'.heap.size))) ∧
   w'.os = w.os ∧ w'.tape = w.tape ∧ w'.output = w.output ∧ w.heap.size ≤ w'.heap.size ∧ ∀ b, b < w.heap.size → b ∉ bs → w'.heap[b]? = w.heap[b]?
section
variable {P : Program} {c : Ctx} {s : St} {Q : Exit → St → Prop} {ops : Array Oper} {rest : List Oper} {o : Oper}
def Ph (Γ : Tys) (fn : Func) (ids : List Nat) (r : D) (ks' : List Blk) : Exit → St → Prop
 | .normal, s | .ret, s => ∃ ds' ys, ED Γ s fn.results.toList ds' ys ∧ A5 ds' = r ∧ ys.Nodup ∧ D.closed.closedL ds' = true ∧ LookMs s.M ids ks' ∧ ∀ id, id ∈ ids → Sum.inr id ∉ ys
 | _, _ => False
theorem Nn {Γ : Tys} {fn : Func} {ids : List Nat} {r : D} {ks ks' : List Blk} {e : Exit} {ds' : List D} {ys : List (Nat ⊕ Nat)} (he : e = .normal ∨ e = .ret) (h : ED Γ s fn.results.toList ds' ys) (hn : ys.Nodup) (hi : D.closed.closedL ds' = true) (hy : ∀ id, id ∈ ids → Sum.inr id ∉ ys)
  (hl : LookMs s.M ids ks) (hr : A5 ds' = r) (hk : ks = ks') : Ph Γ fn ids r ks' e s := by
 subst hk
 rcases he with rfl | rfl <;> exact ⟨ds', ys, h, hr, hn, hi, hl, hy⟩
theorem ProcF.intro {Γ : Tys} (hΓ : Γ.ok P) {f : FuncId} {fn : Func} {code : Code} (hf : P.funcs[f]? = some fn) (hb : fn.body = some code) (hname : (fn.name == "runtime.NumGoroutine") = false) {N : Nat} {ds : List D} {rv : List Value} {rt : List T} {ks : List Blk} {r : D} {ks' : List Blk} (ids : List Nat) (rid : Nat) (fr : List (Nat × D)) (M : List (Nat × Blk))
  (hN : ds.length + (fn.ntmps - ds.length) = N) (hfr : (List.range ds.length).zip ds = fr) (hM : ids.zip ks ++ [(rid, .ro rv rt)] = M) (hids : ids.length = ks.length) (hnd : ids.Nodup) (hrid : rid ∉ ids) (hsh : ks.all Blk.shut = true)
  (h : ∀ w0 G F0, W P ⟨w0, G, F0, N⟩ code ⟨fr, M⟩ (Ph Γ fn ids r ks')) : ProcF P f ds rv rt ks r ks' := by
 classical
 subst hfr hM;refine ⟨⟨fn, hf, by rw [hb]; rfl, hname⟩, ?_⟩;intro w F args bs hF hargs hrd hms hbn hblt
 have hlen := hargs.length
 simp only [Qv] at hlen
 obtain ⟨mb0, hmb, rfl⟩ := CP hids hnd hms
 have hshut : ∀ p, p ∈ ids.zip ks → p.2.shut = true := fun p hp => by
  rw [Qn] at hsh;exact hsh p.2 (List.of_mem_zip (a := p.1) (b := p.2) hp).2
 have hin : ∀ {i b}, i ∈ ids → b ∈ mb0 i → b ∈ ids.flatMap mb0 := fun hi hb => Q7.2 ⟨_, hi, hb⟩
 refine calls_of_wp hf hb ?_
 have h0 : Is ⟨w, fun b => b ∈ ids.flatMap mb0, F, N⟩ ⟨(List.range ds.length).zip ds, ids.zip ks ++ [(rid, .ro rv rt)]⟩ { tmps := args ++ Array.replicate (fn.ntmps - args.size) undef, defers := [] } w := by
  refine ⟨F, fun _ => none, fun _ => [], fun i => if i ∈ ids then mb0 i else [], fun b => if h : ∃ i, i ∈ ids ∧ b ∈ mb0 i then some (.inr h.choose) else none, ?_⟩
  have hlook : ∀ (l : List D) (k t : Nat), look ((List.range' k l.length).zip l) (k + t) = (l[t]?).getD .top := by
   intro l
   induction l with
   | nil => intro k t; simp [look]
   | cons d l ih =>
    intro k t;rw [Qk, List.range'_succ, List.zip_cons_cons];simp only [look]
    cases t with
    | zero => simp
    | succ t =>
     rw [if_neg (by omega), show k + (t + 1) = k + 1 + t from by omega, ih]
     simp
  have hl0 : ∀ t, look ((List.range ds.length).zip ds) t = (ds[t]?).getD .top := fun t => by
   have := hlook ds 0 t
   simpa [List.range_eq_range'] using this
  exact {
   fr := fun t => by
    rw [hl0]
    cases hd : ds[t]? with
    | none => exact .top .done
    | some d =>
     have hlt := (List.getElem?_eq_some_iff.1 hd).1
     obtain ⟨v, h1, h2⟩ := hargs.get0 t hd
     have hlt2 : t < args.size := by rw [hlen]; exact hlt
     have hv : (args ++ Array.replicate (fn.ntmps - args.size) undef).getD t undef = v := by
      rw [Ql, Array.getElem?_append_left hlt2]
      have : args[t]? = some v := by simpa using h1
      rw [this]; rfl
     rw [hv];exact h2
   mem := fun i => by
    by_cases hi : i ∈ ids
    ·obtain ⟨k, h1, h2⟩ := DV (M := [(rid, .ro rv rt)]) hids hi
     rw [h1];simp only [if_pos hi];exact (hmb _ h2).shut (hshut _ h2)
    ·rw [Cs hi]
     simp only [lookM, if_neg hi]
     by_cases hr : rid = i
     ·rw [if_pos hr]; exact ⟨hrd, rfl⟩
     ·rw [if_neg hr]; trivial
   ofr := by simp
   omem := fun i b hb => by
    split at hb
    ·rename_i hi
     have hex : ∃ i, i ∈ ids ∧ b ∈ mb0 i := ⟨i, hi, hb⟩
     rw [dif_pos hex]
     have := hex.choose_spec
     rw [DZ hbn this.1 hi this.2 hb]
    ·cases hb
   nfr := by simp
   nmem := fun i => by
    split
    ·rename_i hi; exact flat_nodup_at hbn hi
    ·simp
   own := fun b hb => by
    split at hb
    ·rename_i hex
     obtain ⟨h1, h2⟩ := hex.choose_spec
     have := hblt b (hin h1 h2)
     exact ⟨this.2, this.1, .inr (hin h1 h2)⟩
    ·exact absurd rfl hb
   fin := hF
   f0 := fun _ h => h
   fnew := fun _ h => .inl h
   f0in := fun b h => ⟨hF b h, fun h2 => (hblt b h2).2 h⟩
   gin := fun b h => (hblt b h).1
   os := rfl
   tape := rfl
   output := rfl
   size := Qu _
   keep := fun _ _ _ => rfl
   defers := rfl
   tmps := by simp [hlen, hN] }
 refine Code.wp_mono ?_ (h w _ F _ _ h0)
 rintro e a' w' ⟨s', ⟨F', β, fb, mb, ow, hi⟩, hq⟩
 have key : (∃ ds' ys, ED Γ s' fn.results.toList ds' ys ∧ A5 ds' = r ∧ ys.Nodup ∧ D.closed.closedL ds' = true ∧ LookMs s'.M ids ks' ∧ ∀ id, id ∈ ids → Sum.inr id ∉ ys) → a'.defers = [] ∧ ∃ v, (results fn a'.tmps).run P w' = .ok v w' ∧
   ∃ v' F'' br bs', Ending.returned v = .returned v' ∧ (∀ b, F b → F'' b) ∧ (∀ b, F'' b → F b ∨ b ∈ ids.flatMap mb0 ∨ w.heap.size ≤ b) ∧ (∀ b, F'' b → b < w'.heap.size) ∧ RelD w' F'' BO [v'] [r] br ∧ GL w' ks' bs' ∧ (br ++ bs').Nodup ∧ (∀ b, b ∈ br ++ bs' → ¬ F'' b ∧ (b ∈ ids.flatMap mb0 ∨ (w.heap.size ≤ b ∧ b < w'.heap.size))) ∧
   w'.os = w.os ∧ w'.tape = w.tape ∧ w'.output = w.output ∧ w.heap.size ≤ w'.heap.size ∧ ∀ b, b < w.heap.size → b ∉ ids.flatMap mb0 → w'.heap[b]? = w.heap[b]? := by
  rintro ⟨ds', ys, h1, hr, h2, h3, h4, h5⟩
  obtain ⟨vs, br, q1, q2, q3, q4⟩ := Df hΓ hi h1 h2
  have q5 := q2.closed (β' := BO) h3
  have hres := Bt (P := P) fn a'.tmps q1
  have hfn : (ids.flatMap mb).Nodup := Cx hnd (fun i _ => hi.nmem i) fun i j b _ _ h6 h7 => by
   have e1 := hi.omem i b h6
   rw [hi.omem j b h7] at e1;cases e1; rfl
  refine ⟨hi.defers, _, hres, _, F', br, ids.flatMap mb, rfl, hi.f0, fun b hb => ?_, hi.fin, ?_, EL h4.len fun p hp => ?_, Qm.2 ⟨q3, hfn, fun p hp q hq e => ?_⟩, fun b hb => ?_, hi.os, hi.tape, hi.output, hi.size, fun b hb hn => hi.keep b hb hn⟩
  ·rcases hi.fnew b hb with h | h | h
   ·exact .inl h
   ·exact .inr (.inr h)
   ·exact .inr (.inl h)
  ·rw [← hr]
   have hl := q5.length
   match vs, ds', hl, q5 with
   | [], [], _, q5 => cases q5; exact RelD.tup (arr := #[]) (l := []) .done .done
   | [v], [d], _, q5 => exact q5
   | v :: v2 :: vs, d :: d2 :: ds', _, q5 => simpa [A5] using RelD.tup (arr := (v :: v2 :: vs).toArray) q5 .done
  ·obtain ⟨g1, g2⟩ := h4.at p hp
   have := hi.mem p.1
   rw [g1] at this;exact this.shut g2
  ·subst e
   obtain ⟨y, g1, g2⟩ := q4 p hp
   obtain ⟨i, hii, hpi⟩ := Q7.1 hq
   rw [hi.omem i p hpi] at g1;cases g1;exact h5 i hii g2
  ·have : ow b ≠ none := by
    rcases Qj.1 hb with hb | hb
    ·obtain ⟨y, g1, _⟩ := q4 b hb; rw [g1]; simp
    ·obtain ⟨i, hii, hpi⟩ := Q7.1 hb; rw [hi.omem i b hpi]; simp
   obtain ⟨g1, g2, g3⟩ := hi.own b this
   exact ⟨g1, g3.symm.imp (fun h => h) fun h => ⟨h, g2⟩⟩
 cases e with
 | normal => exact key hq
 | ret => exact key hq
 | _ => exact hq.elim
inductive ResQ (s : St) : List D → List D → Prop
 | done : ResQ s [] []
 | t {x ds es} : ResQ s ds es → ResQ s (.t x :: ds) (.t x :: es)
 | nil {ds es} (n : Nat) : ResQ s ds es → ResQ s (.nil :: ds) (.t (.list n []) :: es)
 | pin {id i off b n cc ds es} (pid : Nat) : lookM s.M pid = some (.pin id b n cc) → ResQ s ds es → ResQ s (.ref id i off :: ds) (.t (.v (.pointer (some ⟨b, i * n + off, none⟩))) :: es)
theorem ResQ.pin0 {id b n cc ds es} (pid : Nat) (h : lookM s.M pid = some (.pin id b n cc)) (k : ResQ s ds es) : ResQ s (.ref id 0 0 :: ds) (.t (.v (.pointer (some ⟨b, 0, none⟩))) :: es) := by
 have := ResQ.pin (i := 0) (off := 0) pid h k
 rwa [Nat.zero_mul] at this
theorem ResQ.sound {a : Act} {w : World} {F β fb mb ow} (hi : Conc c s a w F β fb mb ow) {ds es : List D} (h : ResQ s ds es) : ∀ {vs bs}, RelD w F β vs ds bs → RelD w F BO vs es [] := by
 induction h with
 | done => intro vs bs hr; cases hr; exact .done
 | t _ ih =>
  intro vs bs hr
  cases hr with
  | t h1 h2 => exact .t h1 (ih h2)
  | tagg h1 h2 => exact .tagg h1 (ih h2)
 | nil n _ ih =>
  intro vs bs hr
  cases hr with
  | nil h2 => exact .t (.none .nil) (ih h2)
 | @pin id i off b n cc ds es pid hM _ ih =>
  intro vs bs hr
  have hm := hi.mem pid
  rw [hM] at hm
  cases hr with
  | ref q1 q2 =>
   have := hm.1
   rw [this] at q1;cases q1;exact .t (.v rfl .nil) (ih q2)
theorem Conc.lentF {a : Act} {w w' : World} {F β fb mb ow} (hi : Conc c s a w F β fb mb ow) {t : Nat} (ht : t < c.n) {v : Value} {r : D} {br bs' : List Nat} {ids : List Nat} {ks' : List Blk} (hnd : ids.Nodup) (hl : ids.length = ks'.length) (hsh : ks'.all Blk.shut = true) (hrn : r.closed = true) {F' : Nat → Prop} (p1 : ∀ b, F b → F' b) (p2 : ∀ b, F' b → F b ∨ b ∈ ids.flatMap mb ∨ w.heap.size ≤ b) (p3 : ∀ b, F' b → b < w'.heap.size) (p4 : ∀ b, b ∈ br ++ bs' → ¬ F' b)
  (q1 : RelD w' F' BO [v] [r] br) (q2 : GL w' ks' bs') (q3 : (br ++ bs').Nodup) (q4 : ∀ b, b ∈ br ++ bs' → b ∈ ids.flatMap mb ∨ (w.heap.size ≤ b ∧ b < w'.heap.size))
  (q5 : w'.os = w.os) (q6 : w'.tape = w.tape) (q7 : w'.output = w.output) (q8 : w.heap.size ≤ w'.heap.size) (q9 : ∀ b, b < w.heap.size → b ∉ ids.flatMap mb → w'.heap[b]? = w.heap[b]?) : Is c ⟨(t, r) :: s.fr, ids.zip ks' ++ s.M⟩ (a.put (some t) v) w' := by
 classical
 obtain ⟨mbn, hmb, rfl⟩ := CP hl hnd q2
 obtain ⟨n1, n2, n3⟩ := Qm.1 q3
 have hshut : ∀ p, p ∈ ids.zip ks' → p.2.shut = true := fun p hp => by
  rw [Qn] at hsh;exact hsh p.2 (List.of_mem_zip (a := p.1) (b := p.2) hp).2
 have hlent : ∀ b, b ∈ ids.flatMap mb → ∃ i, i ∈ ids ∧ ow b = some (.inr i) := fun b hb => by
  obtain ⟨i, h1, h2⟩ := Q7.1 hb
  exact ⟨i, h1, hi.omem i b h2⟩
 -- a block of what is not lent
 have stay : ∀ b y, ow b = some y → (∀ i, i ∈ ids → y ≠ .inr i) → b ∉ ids.flatMap mb ∧ b ∉ br ∧ (¬ ∃ i, i ∈ ids ∧ b ∈ mbn i) ∧ w'.heap[b]? = w.heap[b]? := fun b y hy hne => by
  have h1 : b ∉ ids.flatMap mb := fun h => by
   obtain ⟨i, h2, h3⟩ := hlent b h
   rw [hy] at h3; cases h3;exact hne i h2 rfl
  have hlt := (hi.own b (by rw [hy]; simp)).2.1
  have h2 : b ∉ br ++ ids.flatMap mbn := fun h => by
   rcases q4 b h with h | h
   ·exact h1 h
   ·omega
  refine ⟨h1, fun h => h2 (by simp [h]), fun ⟨i, h3, h4⟩ => h2 (RL _ (Q7.2 ⟨i, h3, h4⟩)), q9 b hlt h1⟩
 have hFw : ∀ b, F b → w'.heap[b]? = w.heap[b]? := fun b hb => q9 b (hi.fin b hb) fun h => by
  obtain ⟨i, _, h3⟩ := hlent b h
  exact (hi.own b (by rw [h3]; simp)).1 hb
 have hnF : ∀ b, ow b ≠ none → b ∉ ids.flatMap mb → ¬ F' b := fun b h1 h2 h3 => by
  obtain ⟨g1, g2, _⟩ := hi.own b h1
  rcases p2 b h3 with h | h | h
  ·exact g1 h
  ·exact h2 h
  ·omega
 refine ⟨F', β, fun u => if t = u then br else fb u, fun i => if i ∈ ids then mbn i else mb i, fun b => if b ∈ br then some (.inl t) else if h : ∃ i, i ∈ ids ∧ b ∈ mbn i then some (.inr h.choose) else if b ∈ ids.flatMap mb then none else ow b, ?_⟩
 have howof : ∀ b y, ow b = some y → (∀ i, i ∈ ids → y ≠ .inr i) → (if b ∈ br then some (.inl t) else if h : ∃ i, i ∈ ids ∧ b ∈ mbn i then some (.inr h.choose) else if b ∈ ids.flatMap mb then none else ow b) = some y := fun b y hy hne => by
  obtain ⟨h1, h2, h3, _⟩ := stay b y hy hne
  rw [if_neg h2, dif_neg h3, if_neg h1, hy]
 exact { hi with
  fr := fun u => by
   rw [BZ _ _ _ _ (by rw [hi.tmps]; exact ht)];simp only [look];split
   ·exact q1.closed (by simp [D.closed.closedL, hrn])
   ·exact (hi.fr u).mono p1 hFw (fun b h => (stay b _ (hi.ofr u b h) (by simp)).2.2.2) fun _ => rfl
  mem := fun i => by
   by_cases hii : i ∈ ids
   ·obtain ⟨k, h1, h2⟩ := DV (M := s.M) hl hii
    rw [h1];simp only [if_pos hii];exact (hmb _ h2).shut (hshut _ h2)
   ·rw [Cs hii]
    simp only [if_neg hii]
    have := hi.mem i
    cases h : lookM s.M i with
    | none => rw [h] at this; exact this
    | some k =>
     rw [h] at this
     exact RelB.monoF p1 this hFw fun b h => (stay b _ (hi.omem i b h) (fun j hj e => by cases e; exact hii hj)).2.2.2
  ofr := fun u b hb => by
   split at hb
   ·rename_i e; subst e; rw [if_pos hb]
   ·exact howof b _ (hi.ofr u b hb) (by simp)
  omem := fun i b hb => by
   split at hb
   ·rename_i hii
    have hnb : b ∉ br := fun h => n3 b h b (Q7.2 ⟨i, hii, hb⟩) rfl
    have hex : ∃ i, i ∈ ids ∧ b ∈ mbn i := ⟨i, hii, hb⟩
    rw [if_neg hnb, dif_pos hex]
    have := hex.choose_spec
    rw [DZ n2 this.1 hii this.2 hb]
   ·rename_i hii
    exact howof b _ (hi.omem i b hb) (fun j hj e => by cases e; exact hii hj)
  nfr := fun u => by
   split
   ·exact n1
   ·exact hi.nfr u
  nmem := fun i => by
   split
   ·rename_i hii; exact flat_nodup_at n2 hii
   ·exact hi.nmem i
  own := fun b hb => by
   have hq : b ∈ br ++ ids.flatMap mbn → ¬ F' b ∧ b < w'.heap.size ∧ (c.w0.heap.size ≤ b ∨ c.G b) := fun h0 => by
    rcases q4 b h0 with h | ⟨h1, h2⟩
    ·obtain ⟨i, _, h3⟩ := hlent b h
     obtain ⟨g1, g2, g3⟩ := hi.own b (by rw [h3]; simp)
     exact ⟨p4 b h0, RH g2 q8, g3⟩
    ·exact ⟨p4 b h0, h2, .inl (RK hi.size h1)⟩
   split at hb
   ·rename_i h; exact hq (by simp [h])
   ·split at hb
    ·rename_i h; obtain ⟨i, h1, h2⟩ := h; exact hq (RL _ (Q7.2 ⟨i, h1, h2⟩))
    ·split at hb
     ·exact absurd rfl hb
     ·rename_i hnl
      obtain ⟨g1, g2, g3⟩ := hi.own b hb
      exact ⟨hnF b hb hnl, RH g2 q8, g3⟩
  fin := p3
  f0 := fun b h => p1 b (hi.f0 b h)
  fnew := fun b h => by
   rcases p2 b h with h | h | h
   ·exact hi.fnew b h
   ·obtain ⟨i, _, h3⟩ := hlent b h
    exact .inr (hi.own b (by rw [h3]; simp)).2.2
   ·exact .inr (.inl (RK hi.size h))
  os := q5.trans hi.os
  tape := q6.trans hi.tape
  output := q7.trans hi.output
  size := RK hi.size q8
  keep := fun b h hg => by
   rw [q9 b (RH h hi.size) fun h2 => ?_]
   ·exact hi.keep b h hg
   ·obtain ⟨i, _, h3⟩ := hlent b h2
    rcases (hi.own b (by rw [h3]; simp)).2.2 with h4 | h4
    ·omega
    ·exact hg h4
  defers := (BB a _ v).trans hi.defers
  tmps := (Bl a _ v).trans hi.tmps }
theorem I7 {t rid : Nat} {fo : Operand} {args : Array Operand} {tys : Array TypeId} {f : FuncId} {es : List D} {rv : List Value} {rt : List T} {ks : List Blk} {r : D} {ks' : List Blk} (ids : List Nat) (hg : o.guard = none) (hd : o.dst = some t) (ht : t < c.n)
  (ho : o.op = .call { callee := .value fo, args := args, argTypes := tys }) (hf : opd s.fr fo = .clo f []) (hes : ResQ s (args.toList.map (opd s.fr)) es) (hro : lookM s.M rid = some (.ro rv rt)) (hM : LookMs s.M ids ks) (hnd : ids.Nodup)
  (hm : ProcF P f es rv rt ks r ks') (hr : r.closed = true) (hl' : ids.length = ks'.length) (hks' : ks'.all Blk.shut = true)
  (k : WO P c ops rest ⟨(t, r) :: s.fr, ids.zip ks' ++ s.M⟩ Q) : WO P c ops (o :: rest) s Q := by
 rintro a w ⟨F, β, fb, mb, ow, hi⟩
 obtain ⟨bf, hrf, h1⟩ := hi.opd fo
 rw [hf] at hrf
 obtain ⟨arr, bs', hv, hr1, rfl⟩ := Bd hrf
 have ha : arr = #[] := by
  have := hr1.length
  simpa using this
 subst ha
 obtain ⟨bs, hr2, h2⟩ := Fn hi args.toList
 have hsound := hes.sound hi hr2
 have hrun : (execOp a.eval o).run P w = .ok (.enter f (args.map a.eval)) w := by
  simp [execOp, ho, resolve, hv, Deferred.ofValue, invoke, Bc hm.1]
 refine wpList_plain hg fun K hK => ?_
 unfold Oper.wp;rw [hrun, Oper.upon_enter]
 have hrel : ∀ p, p ∈ ids.zip ks → RelB w CQ BO 0 p.2 (mb p.1) := fun p hp => by
  obtain ⟨g1, g2⟩ := hM.at p hp
  have := hi.mem p.1
  rw [g1] at this;exact this.shut g2
 have hfn : (ids.flatMap mb).Nodup := Cx hnd (fun i _ => hi.nmem i) fun i j b _ _ h6 h7 => by
  have e1 := hi.omem i b h6
  rw [hi.omem j b h7] at e1;cases e1; rfl
 have hrr := hi.mem rid
 rw [hro] at hrr;refine (hm.2 w F (args.map a.eval) (ids.flatMap mb) hi.fin (by simpa using hsound) hrr.1 (EL hM.len hrel) hfn fun b hb => ?_).mono ?_
 ·obtain ⟨i, h3, h4⟩ := Q7.1 hb
  have g := hi.own b (by rw [hi.omem i b h4]; simp)
  exact ⟨g.2.1, g.1⟩
 rintro e w' ⟨v, F', br, bs', rfl, p1, p2, p3, q1, q2, q3, q4, q5, q6, q7, q8, q9⟩
 dsimp only;rw [hd];exact hK _ _ (k _ _ (hi.lentF ht hnd hl' hks' hr p1 p2 p3 (fun b hb => (q4 b hb).1) q1 q2 q3 (fun b hb => (q4 b hb).2) q5 q6 q7 q8 q9))
end
end Go.Eng
end
section
/- A list that has a name is from now on only read; what is read, read by what is known of a cell. -/
namespace Go.Eng
open Go.RowKit
section
variable {P : Program} {c : Ctx} {s : St} {Q : Exit → St → Prop} {ops : Array Oper} {rest : List Oper} {o : Oper}
theorem Le.freezeL {id pid b n cap k c' : Nat} {a : Option Addr} {xs : List T} (hM : lookM s.M id = some (.L n xs)) (hp : lookM s.M pid = some (.pin id b n cap)) (ha : xs.length ≤ k ∨ a = some ⟨b, k * n, none⟩) (hc : xs.length - k ≤ c') :
  Le c s ⟨s.fr, (id, .ro [.slice a (xs.length - k) c'] [.list n (xs.drop k)]) :: s.M⟩ := by
 classical
 rintro ac w ⟨F, β, fb, mb, ow, hi⟩
 have hm := hi.mem id
 rw [hM] at hm
 have hpm := hi.mem pid
 rw [hp] at hpm
 have hbs : ∀ b', b' ∈ mb id → ow b' = some (.inr id) := fun b' hb => hi.omem id b' hb
 have hrel : RelL w (fun b' => F b' ∨ b' ∈ mb id) [.slice a (xs.length - k) c'] [.list n (xs.drop k)] := by
  by_cases hk : xs.length ≤ k
  ·rw [List.drop_eq_nil_of_le hk, show xs.length - k = 0 from by omega]
   exact .none .nil
  ·have ha' := ha.resolve_left hk
   subst ha'
   rcases hm with ⟨h, h2, _⟩ | ⟨b1, cap1, arr, e, bs1, h1, h2, h3, h4, h5, h6, h7, h8⟩
   ·subst h2; simp at hk
   ·have := hpm.1
    rw [h1] at this;cases this
    have h9 := (h7.rel (F := fun b' => F b' ∨ b' ∈ mb id) fun b' hb' => .inr (by rw [h8]; simp [hb'])).drop (k * n)
    rw [F7 h4] at h9
    have h10 := RelL.list (o := k * n) (cap := c') (xs := xs.drop k) (n := n) (fz := (0, 0)) (F := fun b' => F b' ∨ b' ∈ mb id) (.inr (by rw [h8]; simp)) h2 (fun j hj => by
     simp only [Qo, RV, Qv] at hj;simp only [List.getElem?_take, List.getElem?_drop];rw [if_pos (by omega)]
     simp) (fun z hz => h4 z (Re hz)) (by rw [RV]; exact hc) h9 .nil
    rw [RV] at h10;exact h10
 refine ⟨fun b' => F b' ∨ b' ∈ mb id, β, fb, fun i => if id = i then [] else mb i, fun b' => if b' ∈ mb id then none else ow b', ?_⟩
 exact { hi with
  fr := fun v => (hi.fr v).mono (w := w) (w' := w) (fun _ h => .inl h) (fun _ _ => rfl) (fun _ _ => rfl) fun _ => rfl
  mem := fun i => by
   simp only [lookM]
   by_cases hid : id = i
   ·subst hid
    rw [if_pos rfl, if_pos rfl];exact ⟨hrel, rfl⟩
   ·rw [if_neg hid, if_neg hid]
    have := hi.mem i
    cases hM' : lookM s.M i with
    | none => rw [hM'] at this; exact this
    | some k => rw [hM'] at this; exact relB_wider this (fun _ h => .inl h)
  ofr := fun v b' hb => by
   have h6 := hi.ofr v b' hb
   rw [if_neg (fun h => by rw [hbs b' h] at h6; cases h6)];exact h6
  omem := fun i b' hb => by
   by_cases hid : id = i
   ·rw [if_pos hid] at hb; cases hb
   ·rw [if_neg hid] at hb
    have h6 := hi.omem i b' hb
    rw [if_neg (fun h => by rw [hbs b' h] at h6; cases h6; exact hid rfl)];exact h6
  nmem := fun i => by
   by_cases hid : id = i
   ·rw [if_pos hid]; simp
   ·rw [if_neg hid]; exact hi.nmem i
  own := fun b' hb => by
   split at hb
   ·exact absurd rfl hb
   ·rename_i hn
    obtain ⟨q1, q2, q3⟩ := hi.own b' hb
    exact ⟨fun h => h.elim q1 hn, q2, q3⟩
  fin := fun b' h => h.elim (hi.fin b') fun h => (hi.own b' (by rw [hbs b' h]; simp)).2.1
  f0 := fun b' h => .inl (hi.f0 b' h)
  fnew := fun b' h => h.elim (hi.fnew b') fun h => .inr (hi.own b' (by rw [hbs b' h]; simp)).2.2 }
theorem Hz {w : World} {F : Nat → Prop} {u : Value} {y : T} {B : List T} : ∀ {A : List T} {vs : List Value}, RelL w F vs (A ++ .v u :: B) → RelL w F [u] [y] → RelL w F vs (A ++ y :: B)
 | [], vs, h, hy => by
  cases vs with
  | nil => cases h
  | cons v vs =>
   obtain ⟨h1, h2⟩ := RelL.cons h
   rw [Dg h1];exact RelL.cons' hy h2
 | a :: A, vs, h, hy => by
  cases vs with
  | nil => cases h
  | cons v vs =>
   obtain ⟨h1, h2⟩ := RelL.cons h
   exact RelL.cons' h1 (Hz h2 hy)
theorem MP {w : World} {F : Nat → Prop} {v : Value} {n : Nat} {xs xs' : List T} (h : RelL w F [v] [.list n xs]) (hl : xs'.length = xs.length) (hn : ∀ x, x ∈ xs' → (T.cells x).length = n) (hc : ∀ cs, RelL w F cs (xs.flatMap T.cells) → RelL w F cs (xs'.flatMap T.cells)) : RelL w F [v] [.list n xs'] := by
 cases h with
 | none h1 =>
  cases RD (by simpa using hl);exact .none .nil
 | list h1 h2 h3 h4 h5 h6 h7 =>
  rw [← hl];exact .list h1 h2 h3 hn (by rw [hl]; exact h5) (hc _ h6) .nil
theorem Le.convB {u j idr : Nat} {x : T} {ws : List Value} {us : List T} {cells : List D} (y : T) (hM : lookM s.M u = some (.box cells)) (hj : cells[j]? = some (.t x)) (hr : lookM s.M idr = some (.ro ws us)) (h : ∀ {w : World} {F : Nat → Prop} {v}, RelL w F [v] [x] → RelL w F ws us → RelL w F [v] [y]) : Le c s ⟨s.fr, (u, .box (cells.set j (.t y))) :: s.M⟩ := by
 rintro a w ⟨F, β, fb, mb, ow, hi⟩
 have hm := hi.mem u
 rw [hM] at hm
 obtain ⟨b, arr, e, bs, h1, h2, h3, h4, h5⟩ := hm
 have hro := hi.mem idr
 rw [hr] at hro
 have key : ∀ {vs : List Value} {ds : List D} {bs : List Nat} {j : Nat}, RelD w F β vs ds bs → vs.all (·.oneCell') = true → ds[j]? = some (.t x) → RelD w F β vs (ds.set j (.t y)) bs := by
  intro vs
  induction vs with
  | nil =>
   intro ds bs j hr _ hj
   have := hr.length
   cases ds with
   | nil => simp at hj
   | cons _ _ => simp at this
  | cons v vs ih =>
   intro ds bs j hr ho hj
   cases ds with
   | nil => simp at hj
   | cons d ds =>
    obtain ⟨b1, b2, g1, g2, rfl⟩ := hr.cons
    rw [RG, Qf] at ho
    cases j with
    | zero =>
     simp at hj
     subst hj
     cases g1 with
     | t q1 q2 =>
      cases q2;exact RelD.cons' (.t (h q1 hro.1) .done) g2
     | tagg q1 q2 => simp [Value.oneCell'] at ho
    | succ j => exact RelD.cons' g1 (ih g2 ho.2 (by simpa using hj))
 refine ⟨F, β, fb, mb, ow, { hi with mem := fun i => ?_ }⟩;simp only [lookM]
 by_cases hid : u = i
 ·subst hid
  rw [if_pos rfl];exact ⟨b, arr, e, bs, by rw [RQ]; exact h1, h2, key h3 h4 hj, h4, h5⟩
 ·rw [if_neg hid]; exact hi.mem i
end
end Go.Eng
end
section
/- Structs of two whole numbers, compared with themselves. -/
namespace Go.Eng
open Go.RowKit
section
variable {P : Program} {c : Ctx} {s : St} {Q : Exit → St → Prop} {ops : Array Oper} {rest : List Oper} {o : Oper}
def fld0 : Field := ⟨"", 0, 0, false, "", "", 0⟩
theorem eq_two {ty ti : Nat} {f g : Field} {w : World} {a b : Int} (hs : P.underlying ty = some (.struct #[f, g])) (hh : P.stoodInHeld ty = false) (h0 : f.offset = 0) (h1 : g.offset = 1) (ht : f.type = ti) (ht2 : g.type = ti) (hi : P.underlying ti = some (.int .i64)) (hk : P.plainKey ti = true) :
  (Op.equal ty (.agg #[.int .i64 a, .int .i64 b]) (.agg #[.int .i64 a, .int .i64 b])).run P w = .ok true w := by
 have hf : P.fieldsOf ty = #[f, g] := by simp [Program.fieldsOf, hs]
 rw [Op.equal, show Op.maxDepth = 9999 + 1 from rfl, run_equalIn_struct w 9999 ty _ _ (by rw [hf]; exact hs) hh, hf];subst ht
 have e0 : (part f.type #[Value.int .i64 a, Value.int .i64 b] f.offset).run P w = .ok (.int .i64 a) w := run_part_plain w hk (by rw [h0]; rfl)
 have e1 : (part f.type #[Value.int .i64 a, Value.int .i64 b] g.offset).run P w = .ok (.int .i64 b) w := run_part_plain w hk (by rw [h1]; rfl)
 have e2 : ∀ x : Int, (Op.equalIn 9999 f.type (.int .i64 x) (.int .i64 x)).run P w = .ok true w := fun x => by
  rw [show (9999 : Nat) = 9998 + 1 from rfl, run_equalIn_int w 9998 f.type .i64 .i64 x x hi]; simp
 show (Op.eqFields 9999 _ _ [f, g]).run P w = _;simp only [Op.eqFields];split
 ·simp only [Qw, e0, Qs, e2, Bool.not_true, Bool.false_eq_true, if_false]
  split
  ·simp only [ht2, Qw, e1, Qs, e2, Bool.not_true, Bool.false_eq_true, if_false, RJ]
  ·simp only [RJ]
 ·split
  ·simp only [ht2, Qw, e1, Qs, e2, Bool.not_true, Bool.false_eq_true, if_false, RJ]
  ·simp only [RJ]
theorem K8 {w : World} {F : Nat → Prop} {arr : Array Value} {a b : Int} (h : RelL w F arr.toList [T.int a, T.int b]) : arr = #[.int .i64 a, .int .i64 b] := by
 obtain ⟨l⟩ := arr
 have h' : RelL w F l [T.int a, T.int b] := h
 match l, h' with
 | [], h' => cases h'
 | [x], h' => obtain ⟨_, h2⟩ := RelL.cons h'; cases h2
 | [x, y], h' =>
  obtain ⟨h1, h2⟩ := RelL.cons h'
  rw [Dg h1, Dg h2]
 | x :: y :: z :: l, h' =>
  obtain ⟨_, h2⟩ := RelL.cons h'
  obtain ⟨_, h3⟩ := RelL.cons h2
  cases h3
theorem NX {t ty ty' : Nat} {x y : Operand} {a b : Int} (fs : Field × Field) (hg : o.guard = none) (hd : o.dst = some t) (ht : t < c.n) (ho : o.op = .binOp .neq ty x y ty') (hx : opd s.fr x = .t (.agg [T.int a, T.int b])) (hy : opd s.fr y = .t (.agg [T.int a, T.int b]))
  (hs : P.underlying ty = some (.struct #[fs.1, fs.2])) (hh : P.stoodInHeld ty = false) (h0 : fs.1.offset = 0) (h1 : fs.2.offset = 1) (ht2 : fs.2.type = fs.1.type) (hi : P.underlying fs.1.type = some (.int .i64)) (hk : P.plainKey fs.1.type = true) (hq : P.eqGuardType P.depth ty = false)
  (kk : WO P c ops rest ⟨(t, .t (.v (.bool false))) :: s.fr, s.M⟩ Q) : WO P c ops (o :: rest) s Q := by
 refine BV hg hd ht _ (fun a' w F β fb mb ow hi' => ?_) kk;refine ⟨.bool false, ?_, .t (.v rfl .nil) .done⟩
 have key : ∀ {z : Operand}, opd s.fr z = .t (.agg [T.int a, T.int b]) → a'.eval z = .agg #[.int .i64 a, .int .i64 b] := fun {z} hz => by
  obtain ⟨bz, hr, _⟩ := hi'.opd z
  rw [hz] at hr;generalize a'.eval z = v at hr
  cases hr with
  | t q1 _ => cases q1
  | tagg q1 _ => rw [K8 q1]
 simp [execOp, ho, key hx, key hy, eqGuard, binOp, eq_two hs hh h0 h1 rfl ht2 hi hk, hq]
theorem Nf {Q : St → Prop} {t ty ty' : Nat} {x y : Operand} {a b : Int} (fs : Field × Field) (hg : o.guard = none) (hd : o.dst = some t) (ht : t < c.n) (ho : o.op = .binOp .neq ty x y ty') (hx : opd s.fr x = .t (.agg [T.int a, T.int b])) (hy : opd s.fr y = .t (.agg [T.int a, T.int b]))
  (hs : P.underlying ty = some (.struct #[fs.1, fs.2])) (hh : P.stoodInHeld ty = false) (h0 : fs.1.offset = 0) (h1 : fs.2.offset = 1) (ht2 : fs.2.type = fs.1.type) (hi : P.underlying fs.1.type = some (.int .i64)) (hk : P.plainKey fs.1.type = true) (hq : P.eqGuardType P.depth ty = false)
  (kk : QL P c ops rest ⟨(t, .t (.v (.bool false))) :: s.fr, s.M⟩ Q) : QL P c ops (o :: rest) s Q :=
 ⟨t, _, hd, fun s' ha Q h => NX fs hg hd ht ho (by rw [ha.opd (by rw [ho]; simp [Op.operands])]; exact hx) (by rw [ha.opd (by rw [ho]; simp [Op.operands])]; exact hy) hs hh h0 h1 ht2 hi hk hq h, kk⟩
end
end Go.Eng
end
section
/- Runs of operations in order, cut in two: where ways meet. -/
namespace Go.Eng
open Go.RowKit
section
variable {P : Program} {c : Ctx} {s : St} {Q : Exit → St → Prop} {ops : Array Oper} {rest : List Oper} {o : Oper}
theorem GX {ds : List Nat} {a0 : Act} {Q1 Q2 : Exit → Act → World → Prop} {l2 : List Oper} (hN : ∀ a w, Q1 .normal a w → wpList P ops Q2 l2 a w) (hE : ∀ e a w, e ≠ .normal → Q1 e a w → Q2 e a w) :
  ∀ {l1 : List Oper} {a : Act} {w : World}, (∀ o, o ∈ l1 → ∀ t, o.dst = some t → t ∈ ds) → sameOut ds a0 a → wpList P ops Q1 l1 a w → wpList P ops Q2 (l1 ++ l2) a w
 | [], a, w, _, _, h => hN a w h
 | o :: l1, a, w, hds, ha, h => by
  rw [RT];unfold wpList at h ⊢
  have hd := hds o (by simp)
  have ih : ∀ a w, sameOut ds a0 a → wpList P ops Q1 l1 a w → wpList P ops Q2 (l1 ++ l2) a w := fun a w hs hh => GX hN hE (fun o ho => hds o (by simp [ho])) hs hh
  split at h
  ·rename_i hw
   rw [if_pos hw]
   refine h.imp (fun h2 => ?_) fun h2 => ⟨h2.1, ?_⟩
   ·exact Lu ha hd ih hE h2
   ·obtain ⟨a1, w1, h3⟩ := h2.2
    exact ⟨a1, w1, hE _ _ _ (by simp) h3⟩
  ·rename_i hw
   rw [if_neg hw];exact ih _ _ (ha.put hd undef) h
def J0 {α : Type} : List Oper → (List Oper → Option α) → Option α
 | [], k => k []
 | o :: l, k => J0 l fun l' => k (o :: l')
theorem Hm {α : Type} : ∀ (l : List Oper) (k : List Oper → Option α), J0 l k = k l
 | [], k => rfl
 | o :: l, k => Hm l fun l' => k (o :: l')
theorem E2 {α : Type} {l l1 l2 : List Oper} (n : Nat) (hl1 : J0 (l.take n) some = some l1) (hl2 : J0 (l.drop n) some = some l2) (ks km : List Nat) (fr : α → List (Nat × D)) (M : α → List (Nat × Blk)) (inv : α → Prop)
  (h : WO P c ops l1 s (Oa (fun a => ⟨fr a ++ Ct s.fr ks, M a ++ keepM s.M km⟩) inv Q)) (k : ∀ a, inv a → WO P c ops l2 ⟨fr a ++ Ct s.fr ks, M a ++ keepM s.M km⟩ Q) : WO P c ops l s Q := by
 rw [Hm] at hl1 hl2;cases hl1;cases hl2;intro a w hi
 have h1 := h a w hi
 rw [← RZ n l];refine GX (ds := (l.take n).filterMap (·.dst)) (a0 := a) (fun a' w' hq => ?_) (fun e a' w' he hq => ?_) (fun o ho t ht => List.mem_filterMap.2 ⟨o, ho, ht⟩) (fun _ _ => rfl) h1
 ·obtain ⟨s', hi', x, g1, g2, g3⟩ := hq
  exact k x g3 a' w' (Le.sub g1 g2 a' w' hi')
 ·obtain ⟨s', hi', hq⟩ := hq
  refine ⟨s', hi', ?_⟩
  cases e with
  | normal => exact absurd rfl he
  | _ => exact hq
end
end Go.Eng
end
section
/- Functions whose answer is one of many: what is told of it is a property; the rules for their calls. -/
namespace Go.Eng
open Go.RowKit
section
variable {P : Program} {c : Ctx} {ops : Array Oper} {rest : List Oper} {s : St} {Q : Exit → St → Prop} {o : Oper}
end
end Go.Eng
end
