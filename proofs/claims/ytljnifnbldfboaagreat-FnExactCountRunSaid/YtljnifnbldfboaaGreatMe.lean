import Derived.Test.YtljnifnbldfboaaGreatMd
import Derived.Laws.StructEq
import Derived.ChangeKeysEq
import Derived.Laws.IdiomStrings
import Derived.Laws.Strings2
import Derived.Stop.IfaceNil
import Derived.Test.YtljnifnbldfboaaGreatMb
import Derived.OpenVars
import Derived.Handed
import Derived.HandedShaped
import Derived.Lib.LaidTab
import Derived.Lib.FrozenHead
import Derived.Shelf.Strings.BuilderK
import Derived.Lib.FrozenHead2
set_option linter.unusedVariables false
set_option linter.unusedSimpArgs false
section
/- What is known of values, put in order; memory that is not there. -/
namespace Go.Eng
open Go.RowKit
section
variable {P : Program} {c : Ctx} {s : St} {Q : Exit → St → Prop} {ops : Array Oper} {rest : List Oper} {o : Oper}
end
end Go.Eng
end
section
/- Structs whose fields are structs, put together out of their parts. -/
namespace Go.Eng
open Go.RowKit
def setAt {α : Type} : List α → Nat → List α → List α
 | l, _, [] => l
 | l, k, x :: xs => setAt (l.set k x) (k + 1) xs
theorem DM {α : Type} : ∀ (xs l : List α) (k : Nat), (setAt l k xs).length = l.length
 | [], _, _ => rfl
 | x :: xs, l, k => by rw [setAt, DM]; simp
def okAt : List D → Nat → List D → Bool
 | _, _, [] => true
 | l, k, d :: ds => (match l[k]? with | some e => e.free | none => false) && okAt (l.set k d) (k + 1) ds
def Eh {α : Type} (pl : List (Nat × Nat)) : List (Nat × List α) → List α → List α
 | [], l => l
 | (i, xs) :: ps, l => Eh pl ps (setAt l (pl.getD i (0, 0)).1 xs)
def Lj (d : D) : List D := (boxD d).getD []
def setsOkW (pl : List (Nat × Nat)) : List (Nat × D) → List D → Bool
 | [], _ => true
 | (i, d) :: ps, l => Nat.blt i pl.length && (match boxD d with | none => false | some ds => Nat.beq ds.length (pl.getD i (0, 0)).2 && (Nat.ble ((pl.getD i (0, 0)).1 + ds.length) l.length && (okAt l (pl.getD i (0, 0)).1 ds && setsOkW pl ps (setAt l (pl.getD i (0, 0)).1 ds))))
theorem GO {w : World} {F : Nat → Prop} {β : A2} : ∀ {xs : List Value} {ds : List D} {b1 : List Nat}, RelD w F β xs ds b1 → ∀ {vs es bs} (k : Nat), RelD w F β vs es bs → okAt es k ds = true → ∃ bs', RelD w F β (setAt vs k xs) (setAt es k ds) bs' ∧ bs'.Perm (b1 ++ bs)
 | [], [], b1, h1, vs, es, bs, k, hr, _ => by
  cases h1;exact ⟨bs, hr, by simp⟩
 | [], _ :: _, _, h1, _, _, _, _, _, _ => by cases h1
 | _ :: _, [], _, h1, _, _, _, _, _, _ => by cases h1
 | x :: xs, d :: ds, b1, h1, vs, es, bs, k, hr, h => by
  obtain ⟨b2, b3, q1, q2, rfl⟩ := h1.cons
  simp only [okAt, Qd] at h
  obtain ⟨bs1, r1, r2⟩ := Gz q1 k hr h.1
  obtain ⟨bs', r3, r4⟩ := GO q2 (k + 1) r1 h.2
  refine ⟨bs', r3, r4.trans ?_⟩;refine (List.Perm.append_left b3 r2).trans ?_;rw [← Qt];exact List.Perm.append_right bs List.perm_append_comm
section
variable {P : Program} {c : Ctx} {s : St} {Q : Exit → St → Prop} {ops : Array Oper} {rest : List Oper} {o : Oper}
theorem GP {a : Act} {w : World} {F β fb mb ow} (hi : Conc c s a w F β fb mb ow) {pl : List (Nat × Nat)} : ∀ {ps : List (Nat × Operand)} {vs : List Value} {ds : List D} {bs : List Nat}, RelD w F β vs ds bs → bs.Nodup → (∀ b, b ∈ bs → ∀ u, ow b = some (.inl u) → u ∉ Aj s.fr (ps.map (·.2))) →
  setsOkW pl (ps.map fun p => (p.1, opd s.fr p.2)) ds = true → (Aj s.fr (ps.map (·.2))).Nodup →
  ∃ bs', RelD w F β (Eh pl (ps.map fun p => (p.1, (a.eval p.2).cells.toList)) vs) (Eh pl (ps.map fun p => (p.1, Lj (opd s.fr p.2))) ds) bs' ∧ bs'.Nodup ∧ (∀ b, b ∈ bs' → b ∈ bs ∨ ∃ u, ow b = some (.inl u) ∧ u ∈ Aj s.fr (ps.map (·.2))) ∧
   (∀ p, p ∈ ps → (a.eval p.2).cells.toList.length = (pl.getD p.1 (0, 0)).2 ∧ (a.eval p.2).cells.toList.all (·.oneCell') = true ∧ p.1 < pl.length ∧ (pl.getD p.1 (0, 0)).1 + (pl.getD p.1 (0, 0)).2 ≤ ds.length)
 | [], vs, ds, bs, hr, hn, _, _, _ => ⟨bs, hr, hn, fun b hb => .inl hb, by simp⟩
 | (i, x) :: ps, vs, ds, bs, hr, hn, hbs, hok, hm => by
  simp only [RA, setsOkW, Qd] at hok
  obtain ⟨h0, hok⟩ := hok
  cases hbd : boxD (opd s.fr x) with
  | none => rw [hbd] at hok; cases hok
  | some es =>
  rw [hbd] at hok;simp only [Qd] at hok
  obtain ⟨h1, h1', h2, h3⟩ := hok
  obtain ⟨b1, hr1, hn1, hb1⟩ := hi.opdOwn x
  obtain ⟨hr1, hone⟩ := hr1.boxD hbd
  obtain ⟨bs1, q1, q2⟩ := GO hr1 _ hr h2
  have hmc : Aj s.fr (((i, x) :: ps).map (·.2)) = Aj s.fr [x] ++ Aj s.fr (ps.map (·.2)) := by
   unfold Aj;rw [RA, ← List.filterMap_append];rfl
  rw [hmc] at hm hbs
  have hb1' : ∀ b, b ∈ b1 → ∃ u, ow b = some (.inl u) ∧ u ∈ Aj s.fr [x] := fun b hb => by
   obtain ⟨y, hy, he, u, rfl, rfl⟩ := hb1 b hb
   refine ⟨u, hy, ?_⟩;unfold Aj;rw [List.filterMap_cons, if_neg (by rw [he]; simp)]
   simp
  obtain ⟨hm1, hm2, hm3⟩ := Qh.1 hm
  have hn2 : bs1.Nodup := by
   refine q2.nodup_iff.2 (Qh.2 ⟨hn1, hn, fun b hb b' hb' e => ?_⟩);subst e
   obtain ⟨u, hu, hu2⟩ := hb1' b hb
   exact hbs b hb' u hu (Ra _ hu2)
  obtain ⟨bs', r1, r2, r3, r4⟩ := GP hi q1 hn2 (fun b hb u hu => by
   rcases Qg.1 (q2.mem_iff.1 hb) with hb | hb
   ·obtain ⟨u', hu', hu2⟩ := hb1' b hb
    rw [hu] at hu'; cases hu'
    exact fun h => hm3 u hu2 u h rfl
   ·exact fun h => hbs b hb u hu (RV _ h)) h3 hm2
  have hlen : (a.eval x).cells.toList.length = es.length := hr1.length
  have h1 : es.length = (pl.getD i (0, 0)).2 := Nat.eq_of_beq_eq_true h1
  have h1' : (pl.getD i (0, 0)).1 + es.length ≤ ds.length := Qe h1'
  refine ⟨bs', by simpa only [RA, Eh, Lj, hbd, Option.getD_some] using r1, r2, fun b hb => ?_, fun p hp => ?_⟩
  ·rcases r3 b hb with h | ⟨u, hu, hu2⟩
   ·rcases Qg.1 (q2.mem_iff.1 h) with h | h
    ·obtain ⟨u, hu, hu2⟩ := hb1' b h
     exact .inr ⟨u, hu, by rw [hmc]; exact Ra _ hu2⟩
    ·exact .inl h
   ·exact .inr ⟨u, hu, by rw [hmc]; exact RV _ hu2⟩
  ·rcases Qn.1 hp with rfl | hp
   ·exact ⟨by rw [hlen, h1], hone, by simpa using h0, by rw [← h1]; exact h1'⟩
   ·have := r4 p hp
    rw [DM] at this;exact this
theorem Hm : ∀ (l : List Value) (cells : Array Value) (off k : Nat), (l.zipIdx k).foldl (fun cs (x : Value × Nat) => cs.setIfInBounds (off + x.2) x.1) cells = (setAt cells.toList (off + k) l).toArray
 | [], cells, off, k => by simp [setAt]
 | x :: l, cells, off, k => by
  rw [List.zipIdx_cons, List.foldl_cons, Hm l, setAt]
  simp [Nat.add_assoc]
theorem GX {places : Array (Nat × Nat)} {pl : List (Nat × Nat)} (hpl : ∀ i, i < pl.length → places[i]? = some (pl.getD i (0, 0))) : ∀ (ps : List (Nat × Value)) (cells : List Value), (∀ p, p ∈ ps → p.2.cells.toList.length = (pl.getD p.1 (0, 0)).2 ∧ p.1 < pl.length ∧ (pl.getD p.1 (0, 0)).1 + (pl.getD p.1 (0, 0)).2 ≤ cells.length) →
  Instr.fill (places[·]?) cells.toArray ps = some (Eh pl (ps.map fun p => (p.1, p.2.cells.toList)) cells).toArray
 | [], cells, _ => rfl
 | (i, v) :: ps, cells, h => by
  obtain ⟨h1, h2, h3⟩ := h _ (Q9 ..)
  dsimp only at h1 h2 h3;rw [Qr] at h1;rw [Instr.fill, hpl i h2];dsimp only;rw [if_neg (by simp [h1, -List.getD_eq_getElem?_getD]; omega)]
  have e : (v.cells.zipIdx.foldl (fun cs (x : Value × Nat) => cs.setIfInBounds ((pl.getD i (0, 0)).1 + x.2) x.1) cells.toArray) = (setAt cells (pl.getD i (0, 0)).1 v.cells.toList).toArray := by
   have := Hm v.cells.toList cells.toArray (pl.getD i (0, 0)).1 0
   rw [← Array.foldl_toList, Array.toList_zipIdx]
   simpa using this
  rw [e, RA, Eh]
  exact GX hpl ps _ (fun p hp => by
   have := h p (Qy _ hp)
   rw [DM]
   exact this)
def G7 (P : Program) (ty : Nat) : Option (List (Nat × Nat)) := match P.underlying ty with
 | some (.struct fs) => fs.toList.mapM fun f => match P.info? f.type with | some i => some (f.offset, i.size) | none => none
 | _ => none
theorem FP {w : World} : ∀ {fs : List Field} {pl : List (Nat × Nat)} (h : (fs.mapM fun f => match P.info? f.type with | some i => some (f.offset, i.size) | none => none) = some pl),
  (fs.mapM fun f => (do pure (f.offset, ← sizeOf f.type) : Sem (Nat × Nat))).run P w = .ok pl w
 | [], pl, h => by
  rw [List.mapM_nil] at h; cases h; simp
 | f :: fs, pl, h => by
  rw [List.mapM_cons] at h
  cases hf : P.info? f.type with
  | none => rw [hf] at h; simp at h
  | some i =>
   rw [hf] at h;simp only [Option.bind_eq_bind, Option.bind_some] at h
   cases hr : (fs.mapM fun f => match P.info? f.type with | some i => some (f.offset, i.size) | none => none) with
   | none => rw [hr] at h; simp at h
   | some pl' =>
    rw [hr] at h;simp only [Option.bind_some, Option.pure_def, Option.some.injEq] at h;subst h
    have hsz : (sizeOf f.type).run P w = .ok i.size w := by simp [sizeOf, typeInfo, hf]
    rw [List.mapM_cons];simp only [Qs, hsz, Qp, RL, FP hr]
theorem Jr {Γ : Tys} (hΓ : Γ.ok P) {ty t : Nat} {parts : Array (Nat × Operand)} {ti : TI} {offs : List Nat} {pl : List (Nat × Nat)} {cells : List D} {ms : List Nat} (hg : o.guard = none) (hd : o.dst = some t) (ht : t < c.n) (ho : o.op = .build ty parts)
  (h1 : A3 Γ ty = some ti) (h2 : ti.kind = .agg offs) (h3 : G7 P ty = some pl) (h4' : ti.zero.all (·.oneCell') = true) (h5 : setsOkW pl (parts.toList.map fun p => (p.1, opd s.fr p.2)) (ti.zero.map BO) = true)
  (h6 : Eh pl (parts.toList.map fun p => (p.1, Lj (opd s.fr p.2))) (ti.zero.map BO) = cells) (hms : Aj s.fr (parts.toList.map (·.2)) = ms) (hm : ms.Nodup)
  (kk : WO P c ops rest ⟨(t, .agg cells) :: Kf ms s.fr, s.M⟩ Q) : WO P c ops (o :: rest) s Q := by
 subst hms h6
 rintro a w ⟨F, β, fb, mb, ow, hi⟩
 obtain ⟨⟨i, z, q1, q2, q3, q4, q5⟩, hk⟩ := hΓ.get h1
 rw [h2] at hk
 obtain ⟨fs, hu, hoffs, _⟩ := hk
 unfold G7 at h3;rw [hu] at h3;dsimp only at h3
 obtain ⟨bs', r1, r2, r3, r4⟩ := GP hi (pl := pl) (ps := parts.toList) (CQ (w := w) (F := F) (β := β) ti.zero) List.nodup_nil (by simp) h5 hm
 have hzv : (zeroValue ty).run P w = .ok z w := by simp [zeroValue, typeInfo, q1, q4]
 have hpl : (fs.mapM fun f => (do pure (f.offset, ← sizeOf f.type) : Sem (Nat × Nat))).run P w = .ok pl.toArray w := by
  rw [Array.mapM_eq_mapM_toList];simp only [Sem.run_map, FP h3];simp only [Qp, RL]
 have hfill : Instr.fill (pl.toArray[·]?) z.cells (parts.toList.map fun p => (p.1, a.eval p.2)) = some (Eh pl (parts.toList.map fun p => (p.1, (a.eval p.2).cells.toList)) ti.zero).toArray := by
  have := GX (places := pl.toArray) (pl := pl) (fun i hi => by
   simp [hi]) (parts.toList.map fun p => (p.1, a.eval p.2)) ti.zero (fun p hp => by
    obtain ⟨q, hq, rfl⟩ := RB.1 hp
    obtain ⟨g1, g2, g3, g4⟩ := r4 q hq
    exact ⟨g1, g3, by simpa using g4⟩)
  rw [List.map_map] at this
  have e : z.cells = ti.zero.toArray := by rw [← q5, Array.toArray_toList]
  rw [e];exact this
 have hrun : (execOp a.eval o).run P w = .ok (.value (.agg (Eh pl (parts.toList.map fun p => (p.1, (a.eval p.2).cells.toList)) ti.zero).toArray)) w := by
  simp only [execOp, ho, Instr.build, Qs, hzv, Qp, run_underlying hu, hpl];rw [show (parts.map fun (x : Nat × Operand) => (x.1, a.eval x.2)).toList = parts.toList.map fun p => (p.1, a.eval p.2) from by simp];rw [hfill];rfl
 have hone : (Eh pl (parts.toList.map fun p => (p.1, (a.eval p.2).cells.toList)) ti.zero).all (·.oneCell') = true := by
  have key1 : ∀ (xs l : List Value) (k : Nat), l.all (·.oneCell') = true → xs.all (·.oneCell') = true → (setAt l k xs).all (·.oneCell') = true := by
   intro xs
   induction xs with
   | nil => intro l k h _; exact h
   | cons x xs ih =>
    intro l k h hx;rw [RH, Qd] at hx;refine ih _ _ ?_ hx.2;rw [Ql] at h ⊢;intro y hy
    rcases RD hy with hy | rfl
    ·exact h y hy
    ·exact hx.1
  have key : ∀ (ps : List (Nat × List Value)) (l : List Value), l.all (·.oneCell') = true → (∀ p, p ∈ ps → p.2.all (·.oneCell') = true) → (Eh pl ps l).all (·.oneCell') = true := by
   intro ps
   induction ps with
   | nil => intro l h _; exact h
   | cons p ps ih =>
    intro l h hp
    exact ih _ (key1 _ _ _ h (hp p (Q9 ..))) fun q hq => hp q (Qy _ hq)
  refine key _ _ h4' fun p hp => ?_
  obtain ⟨q, hq, rfl⟩ := RB.1 hp
  exact (r4 q hq).2.1
 refine wpList_plain hg fun K hK => ?_
 unfold Oper.wp;rw [hrun, Oper.upon_value, hd];refine hK _ _ (kk _ _ (hi.putOwn ht (bs := bs') ?_ r2 fun b hb => (r3 b hb).resolve_left (by simp)))
 have := RelD.agg (arr := (Eh pl (parts.toList.map fun p => (p.1, (a.eval p.2).cells.toList)) ti.zero).toArray) (by simpa using hone) (by simpa using r1) (RelD.done (w := w) (F := F) (β := β))
 simpa using this
end
section
variable {P : Program} {c : Ctx} {s : St} {M0 : List (Nat × Blk)} {acc : List Dl} {Q : St → List Dl → Prop} {ops : Array Oper} {rest : List Oper} {o : Oper}
theorem Gi {Γ : Tys} (hΓ : Γ.ok P) {ty t : Nat} {parts : Array (Nat × Operand)} {ti : TI} {offs : List Nat} {pl : List (Nat × Nat)} {cells : List D} {ms : List Nat} (hg : o.guard = none) (hd : o.dst = some t) (ht : t < c.n) (ho : o.op = .build ty parts)
  (h1 : A3 Γ ty = some ti) (h2 : ti.kind = .agg offs) (h3 : G7 P ty = some pl) (h4' : ti.zero.all (·.oneCell') = true) (h5 : setsOkW pl (parts.toList.map fun p => (p.1, opd s.fr p.2)) (ti.zero.map BO) = true)
  (h6 : CV (Eh pl (parts.toList.map fun p => (p.1, Lj (opd s.fr p.2))) (ti.zero.map BO)) some = some cells) (hms : FO (Aj s.fr (parts.toList.map (·.2))) some = some ms) (hm : Fa ms = true)
  (kk : QG P c ops M0 rest ⟨(t, .agg cells) :: ((ms.map fun u => (u, D.top)) ++ s.fr), s.M⟩ (acc ++ [⟨t, .agg cells, ms, [], false⟩]) Q) : QG P c ops M0 (o :: rest) s acc Q :=
 ⟨⟨t, .agg cells, ms, [], false⟩, hd, fun s' ha _ Q h => by
  have hop : ∀ p, p ∈ parts.toList → opd s'.fr p.2 = opd s.fr p.2 := fun p hp => ha.opd (by
   rw [ho];simp only [Op.operands]
   exact List.mem_toArray.2 (RB.2 ⟨p, hp, rfl⟩))
  have e1 : (parts.toList.map fun p => (p.1, opd s'.fr p.2)) = parts.toList.map fun p => (p.1, opd s.fr p.2) := List.map_congr_left fun p hp => by rw [hop p hp]
  have e1' : (parts.toList.map fun p => (p.1, Lj (opd s'.fr p.2))) = parts.toList.map fun p => (p.1, Lj (opd s.fr p.2)) := List.map_congr_left fun p hp => by rw [hop p hp]
  have e2 : Aj s'.fr (parts.toList.map (·.2)) = ms := by
   rw [Dz (fr := s.fr) fun x hx => by
    obtain ⟨p, hp, rfl⟩ := RB.1 hx
    exact hop p hp]
   rw [DJ] at hms;exact Option.some.inj hms
  rw [spineD_eq] at h6
  exact Jr hΓ hg hd ht ho h1 h2 h3 h4' (by rw [e1]; exact h5) (by rw [e1']; exact Option.some.inj h6) e2 (nodupB_sound hm) h, kk⟩
end
end Go.Eng
end
section
/- Slices made of so many, copied into, named: of whole numbers. -/
namespace Go.Eng
open Go.RowKit
section
variable {P : Program} {c : Ctx} {s : St} {Q : Exit → St → Prop} {ops : Array Oper} {rest : List Oper} {o : Oper}
theorem Le.eqK {id : Nat} {k k' : Blk} (h1 : lookM s.M id = some k) (h : k = k') : Le c s ⟨s.fr, (id, k') :: s.M⟩ := by
 subst h;refine Le.of (fun t => .inl rfl) (fun i => .inl ?_);simp only [lookM];split
 ·rename_i e; subst e; exact h1.symm
 ·rfl
theorem D2 (l : List Int) : (l.map (Value.int .i64)).map T.v = l.map T.int := by rw [List.map_map]; rfl
theorem Kn {t id len e : Nat} {ty ty' : TypeId} {x y : Operand} {us zs : List Int} (hg : o.guard = none) (hd : o.dst = some t) (ht : t < c.n) (ho : o.op = .call { callee := .builtin .copy, args := #[x, y], argTypes := #[ty, ty'] })
  (hu : P.underlying ty = some (.slice e)) (hsz : (P.info? e).map (·.size) = some 1)
  (hx : opd s.fr x = .sl id 0 len) (hM : lookM s.M id = some (.L 1 (us.map T.int))) (hlen : us.length = len) (hy : opd s.fr y = .t (.list 1 (zs.map T.int))) (hle : zs.length ≤ us.length)
  (k : WO P c ops rest ⟨(t, .t (.int zs.length)) :: s.fr, (id, .L 1 ((zs ++ us.drop zs.length).map T.int)) :: s.M⟩ Q) : WO P c ops (o :: rest) s Q := by
 refine PQ (us := us.map (Value.int .i64)) (zs := zs.map (Value.int .i64)) hg hd ht ho hu hsz hx (by rw [D2]; exact hM) (by simpa using hlen) (by rw [D2]; exact hy) (by simpa using hle) ?_;rw [Qc, ← List.map_drop, ← List.map_append, D2];exact k
end
section
variable {P : Program} {c : Ctx} {s : St} {M0 : List (Nat × Blk)} {acc : List Dl} {Q : St → List Dl → Prop} {ops : Array Oper} {rest : List Oper} {o : Oper}
theorem FJ {Γ : Tys} (hΓ : Γ.ok P) {ty e t : Nat} {x : Operand} {ti te : TI} {i : Int} (z : T) (hg : o.guard = none) (hd : o.dst = some t) (ht : t < c.n) (ho : o.op = .makeSlice ty x x)
  (h1 : A3 Γ ty = some ti) (h2 : ti.kind = .slice e) (h3 : A3 Γ e = some te) (hx : opd s.fr x = .t (.int i)) (hz : AbsL (te.zero.map BO) z.cells) (hn : z.cells.length = te.size) (h0 : 0 ≤ i)
  (hk : i ≤ 1073741824) (hb : te.bytes ≤ 131072)
  (kk : QG P c ops M0 rest ⟨(t, .own (.list te.size (List.replicate i.toNat z))) :: s.fr, s.M⟩ (acc ++ [⟨t, .own (.list te.size (List.replicate i.toNat z)), [], [], true⟩]) Q) : QG P c ops M0 (o :: rest) s acc Q :=
 QY hΓ z i.toNat hg hd ht ho h1 h2 h3 (by rw [hx, Int.toNat_of_nonneg h0]) hz hn (by omega) hb kk
end
end Go.Eng
end
section
/- Statements of open order that make ready what they lend, once it is read. -/
namespace Go.Eng
open Go.RowKit
section
variable {P : Program} {c : Ctx} {s : St} {ops : Array Oper} {rest : List Oper} {o : Oper}
end
section
variable {P : Program} {c : Ctx} {s : St} {Q : Exit → St → Prop} {ops : Array Oper} {rest : List Oper} {o : Oper}
theorem PN {Γ : Tys} (hΓ : Γ.ok P) {ty e t : Nat} {x : Operand} {ti te : TI} {i : Int} (z : T) (hg : o.guard = none) (hd : o.dst = some t) (ht : t < c.n) (ho : o.op = .makeSlice ty x x)
  (h1 : A3 Γ ty = some ti) (h2 : ti.kind = .slice e) (h3 : A3 Γ e = some te) (hx : opd s.fr x = .t (.int i)) (hz : AbsL (te.zero.map BO) z.cells) (hn : z.cells.length = te.size) (h0 : 0 ≤ i)
  (hk : i ≤ 1073741824) (hb : te.bytes ≤ 131072)
  (kk : WO P c ops rest ⟨(t, .sl t 0 i.toNat) :: killF t s.fr, (t, .L te.size (List.replicate i.toNat z)) :: killM t s.M⟩ Q) : WO P c ops (o :: rest) s Q :=
 Ch hΓ z i.toNat hg hd ht ho h1 h2 h3 (by rw [hx, Int.toNat_of_nonneg h0]) hz hn (by omega) hb kk
end
end Go.Eng
end
section
/- One cell of a list is laid open: the list that it owns gets a name. -/
namespace Go.Eng
open Go.RowKit
section
variable {P : Program} {c : Ctx} {s : St} {Q : Exit → St → Prop} {ops : Array Oper} {rest : List Oper} {o : Oper}
theorem Le.rawListO {id b n cap : Nat} {vs : List Value} {ys : List T} (pid : Nat) (hM : lookM s.M id = some (.raw b (cap * n) vs (ys.flatMap T.cells))) (h2 : lookM s.M pid = none) (h3 : Hl id s.fr = true) (h4 : (s.M.all fun p => Bd id p.2) = true)
  (hn : ∀ y, y ∈ ys → (T.cells y).length = n) (hl : ys.length ≤ cap) (hc : cap ≤ maxLen) :
  Le c s ⟨s.fr, (id, .L n ys) :: (pid, .pin id b n cap) :: s.M⟩ := by
 rintro a w ⟨F, β, fb, mb, ow, hi⟩
 refine hi.name pid hM h2 h3 h4 fun β' hβ hm => ?_
 obtain ⟨arr, e, bs, q1, q2, q3, q4, q5⟩ := hm
 have hvl : vs.length = ys.length * n := by rw [q4.length, Ar hn]
 exact .inr ⟨b, cap, arr, e, bs, hβ, q1, q2, hn, hl, hc, by rw [← hvl, q3]; exact q4, q5⟩
theorem Mix.told : ∀ {vs : List Value} {ts : List T}, vs.length = ts.length → Mix vs ts (vs.map T.v) ts
 | [], [], _ => .nil
 | [], _ :: _, h => by simp at h
 | _ :: _, [], h => by simp at h
 | v :: vs, t :: ts, h => .claim (Mix.told (by simpa using h))
def I8 {β : Type} (C : List (β × List Value)) : List T := C.map fun c => .agg (c.2.map T.v)
theorem GG {β : Type} (C : List (β × List Value)) : (I8 C).flatMap T.cells = (C.flatMap (·.2)).map T.v := by
 rw [I8, List.flatMap_map, List.map_flatMap]; rfl
theorem I7 {β : Type} {C : List (β × List Value)} {n : Nat} (h : ∀ c, c ∈ C → c.2.length = n) : ∀ y, y ∈ I8 C → (T.cells y).length = n := by
 intro y hy
 obtain ⟨c, hc, rfl⟩ := RB.1 hy
 show (c.2.map T.v).length = n;rw [Qc]; exact h c hc
theorem PL {l : List Oper} {id n m i off : Nat} {xs ys : List T} {z : T} (id2 pid idp : Nat) (hM : lookM s.M id = some (.L n xs)) (hn : ∀ x, x ∈ xs → (T.cells x).length = n) (hz : xs[i]? = some z) (hc : z.cells[off]? = some (.list m ys)) (hy : ys ≠ [])
  (h2 : lookM s.M id2 = none) (h3 : lookM s.M pid = none) (h4 : lookM s.M idp = none) (hd : (id2 == pid || (id2 == idp || pid == idp)) = false) (hf : Hl id2 s.fr = true) (hcl : (s.M.all fun p => Bd id2 p.2) = true)
  (k : ∀ b cap : Nat, ys.length ≤ cap → WO P c ops l ⟨s.fr, (id, .L n (xs.set i (.agg (z.cells.set off (.v (.slice (some ⟨b, 0, none⟩) ys.length cap)))))) :: (id2, .L m ys) :: (pid, .pin id2 b m cap) :: s.M⟩ Q) : WO P c ops l s Q := by
 simp only [Q6, beq_eq_false_iff_ne] at hd
 obtain ⟨d1, d2, d3⟩ := hd
 have n1 : ¬ id = id2 := fun e => by rw [e, h2] at hM; cases hM
 have n2 : ¬ id = pid := fun e => by rw [e, h3] at hM; cases hM
 have n3 : ¬ id = idp := fun e => by rw [e, h4] at hM; cases hM
 have n1' : ¬ id2 = id := fun e => n1 e.symm
 have n2' : ¬ pid = id := fun e => n2 e.symm
 have n3' : ¬ idp = id := fun e => n3 e.symm
 have d1' : ¬ pid = id2 := fun e => d1 e.symm
 have d2' : ¬ idp = id2 := fun e => d2 e.symm
 have d3' : ¬ idp = pid := fun e => d3 e.symm
 refine Lq (id := id) (idp := idp) hM h4 fun vs hvs => ?_
 obtain ⟨C, hC1, hC2, rfl⟩ := cutV (l := xs) (vs := vs) (n := n) hvs
 have hCl : C.length = xs.length := by rw [← hC1, Qc]
 refine ⟨I8 C, GG C, by rw [I8, Qc, hCl], I7 hC2, ?_⟩
 have hil := (List.getElem?_eq_some_iff.1 hz).1
 have hzn := hn z (RC hz)
 have hoff : off < n := by rw [← hzn]; exact (List.getElem?_eq_some_iff.1 hc).1
 have hat : (xs.flatMap T.cells)[i * n + off]? = some (.list m ys) := by rw [FE hn hz hoff]; exact hc
 have hlt : i * n + off < xs.length * n := by
  have : (i + 1) * n ≤ xs.length * n := RG n hil
  rw [Nat.succ_mul] at this;omega
 obtain ⟨u, hu⟩ : ∃ u, (C.flatMap (·.2))[i * n + off]? = some u := ⟨_, List.getElem?_eq_getElem (by rw [hvs]; exact hlt)⟩
 refine Gf (id := idp) (j := i * n + off) (id2 := id2) (n := m) (u := u) (xs := ys) (blk := .rawV (C.flatMap (·.2)) (xs.flatMap T.cells)) (by simp [lookM, n1, n2, n3, d1, d2, d3, n1', n2', n3', d1', d2', d3', h2, h3, h4]) rfl hu hat (by simp [lookM, n1, n2, n3, d1, d2, d3, n1', n2', n3', d1', d2', d3', h2, h3, h4]) fun e ad b cap ws hue hb he hlc hcm hcn => ?_
 have he0 : e = false := by cases e with | false => rfl | true => exact absurd (he rfl) hy
 subst he0
 obtain rfl : ad = some ⟨b, 0, none⟩ := hb rfl
 subst hue;refine WO_le (Le.rawListO (id := id2) (b := b) (n := m) (cap := cap) (vs := ws) (ys := ys) pid (by simp [lookM, rb, setV, n1, n2, n3, d1, d2, d3, n1', n2', n3', d1', d2', d3', h2, h3, h4]) (by simp [lookM, n1, n2, n3, d1, d2, d3, n1', n2', n3', d1', d2', d3', h2, h3, h4]) hf (by simp only [RH, hcl, Bool.and_true]; rfl) hcn hlc hcm) ?_;refine WO_le (Le.claimMix (id := id) (idp := idp) (n := n) (ys := I8 C) (xs := xs.set i (.agg (z.cells.set off (.v (.slice (some ⟨b, 0, none⟩) ys.length cap))))) (vs := C.flatMap (·.2)) (ts := (xs.flatMap T.cells).set (i * n + off) (.v (.slice (some ⟨b, 0, none⟩) ys.length cap))) (by simp [lookM, n1, n2, n3, d1, d2, d3, n1', n2', n3', d1', d2', d3', h2, h3, h4]) (by simp [lookM, setV, Pf, n1, n2, n3, d1, d2, d3, n1', n2', n3', d1', d2', d3', h2, h3, h4]) ?_ (by simp [I8, hCl]) ?_ (by simpa using n3)) ?_
 ·rw [GG, ← DQ (y := .agg (z.cells.set off (.v (.slice (some ⟨b, 0, none⟩) ys.length cap)))) hn hz hoff rfl]
  exact Mix.told (by rw [hvs, Qo, Ar hn])
 ·intro x hx
  rcases RD hx with hx | rfl
  ·exact hn x hx
  ·show (z.cells.set off _).length = n
   rw [Qo]; exact hzn
 ·refine WO_le ?_ (k b cap hlc)
  refine Le.of (fun t => .inl rfl) fun j => .inl ?_
  simp only [lookM]
  by_cases g1 : id = j
  ·subst g1; simp
  ·rw [if_neg g1, if_neg g1]
   by_cases g2 : idp = j
   ·subst g2
    rw [BC, if_neg d2, if_neg d3, h4]
   ·rw [Bi (fun e => g2 e.symm)]
    simp only [lookM, if_neg g1, if_neg g2]
    by_cases g3 : id2 = j
    ·simp [g3]
    ·simp [g3]
theorem Bg {code : Code} {id n m i off : Nat} {xs ys : List T} {z : T} (id2 pid idp : Nat) (hM : lookM s.M id = some (.L n xs)) (hn : ∀ x, x ∈ xs → (T.cells x).length = n) (hz : xs[i]? = some z) (hc : z.cells[off]? = some (.list m ys)) (hy : ys ≠ [])
  (h2 : lookM s.M id2 = none) (h3 : lookM s.M pid = none) (h4 : lookM s.M idp = none) (hd : (id2 == pid || (id2 == idp || pid == idp)) = false) (hf : Hl id2 s.fr = true) (hcl : (s.M.all fun p => Bd id2 p.2) = true)
  (k : ∀ b cap : Nat, ys.length ≤ cap → W P c code ⟨s.fr, (id, .L n (xs.set i (.agg (z.cells.set off (.v (.slice (some ⟨b, 0, none⟩) ys.length cap)))))) :: (id2, .L m ys) :: (pid, .pin id2 b m cap) :: s.M⟩ Q) : W P c code s Q := by
 intro a w hi
 obtain ⟨s', h1, b, cap, hl, rfl⟩ := PL (P := P) (ops := #[]) (l := []) (Q := fun _ s' => ∃ b cap : Nat, ys.length ≤ cap ∧ s' = ⟨s.fr, (id, .L n (xs.set i (.agg (z.cells.set off (.v (.slice (some ⟨b, 0, none⟩) ys.length cap)))))) :: (id2, .L m ys) :: (pid, .pin id2 b m cap) :: s.M⟩) id2 pid idp hM hn hz hc hy h2 h3 h4 hd hf hcl (fun b cap hl => Nr ⟨b, cap, hl, rfl⟩) a w hi
 exact k b cap hl a w h1
end
end Go.Eng
end
section
/- A copy within one list of plain values of the function's own. -/
namespace Go.Eng
open Go.RowKit
section
variable {P : Program} {c : Ctx} {s : St} {Q : Exit → St → Prop} {ops : Array Oper} {rest : List Oper} {o : Oper}
theorem PP {t id o1 l1 o2 l2 m e : Nat} {ty ty' : TypeId} {x y : Operand} {us : List Value} (hg : o.guard = none) (hd : o.dst = some t) (ht : t < c.n) (ho : o.op = .call { callee := .builtin .copy, args := #[x, y], argTypes := #[ty, ty'] })
  (hu : P.underlying ty = some (.slice e)) (hsz : (P.info? e).map (·.size) = some 1)
  (hx : opd s.fr x = .sl id o1 l1) (hy : opd s.fr y = .sl id o2 l2) (hM : lookM s.M id = some (.L 1 (us.map T.v))) (h1 : o1 + l1 ≤ us.length) (h2 : o2 + l2 ≤ us.length) (hm : m = Nat.min l2 l1) (hpos : 0 < m)
  (k : WO P c ops rest ⟨(t, .t (.int m)) :: s.fr, (id, .L 1 ((us.take o1 ++ (us.drop o2).take m ++ us.drop (o1 + m)).map T.v)) :: s.M⟩ Q) : WO P c ops (o :: rest) s Q := by
 have hm1 : m ≤ l1 ∧ m ≤ l2 := by rw [hm]; exact ⟨Nat.min_le_right .., Nat.min_le_left ..⟩
 rintro a w ⟨F, β, fb, mb, ow, hi⟩
 obtain ⟨bx, hrx, _⟩ := hi.opd x
 rw [hx] at hrx
 obtain ⟨by', hry, _⟩ := hi.opd y
 rw [hy] at hry
 have hmm := hi.mem id
 rw [hM] at hmm;generalize hevx : a.eval x = xv at hrx;generalize hevy : a.eval y = yv at hry
 rcases hmm with ⟨_, hn, _⟩ | ⟨b, cap, arr, e', bs1, q1, q2, q3, q4, q5, q6, q7, hb5⟩
 ·have : us = [] := List.map_eq_nil_iff.1 hn
  subst this; simp at h1; omega
 ·rw [Qc] at q5
  have hsl : ∀ {v : Value} {of ln : Nat} {bs : List Nat}, RelD w F β [v] [.sl id of ln] bs → 0 < ln → ∃ kc, v = .slice (some ⟨b, of, none⟩) ln kc := by
   intro v of ln bs h hp
   cases h with
   | slnil p1 _ => rw [q1] at p1; cases p1
   | sl p1 p2 p3 p4 _ =>
    rw [q1] at p1;cases p1;exact ⟨_, by rw [p4 (by omega), Nat.mul_one]⟩
  obtain ⟨kx, rfl⟩ := hsl hrx (by omega)
  obtain ⟨ky, rfl⟩ := hsl hry (by omega)
  rw [Qc, Nat.mul_one, DP] at q7
  obtain ⟨e1, e2, hone⟩ := DK q7
  subst e2;rw [Nat.mul_one] at q3
  have hal : us.length ≤ arr.size := by have := congrArg List.length e1; rw [Qk, Qr] at this; omega
  have hat : ∀ j, j < us.length → arr[j]? = us[j]? := fun j hj => by
   rw [← Array.getElem?_toList, ← e1, List.getElem?_take, if_pos hj]
  generalize hzs : (us.drop o2).take m = zs
  have hzl : zs.length = m := by rw [← hzs, Qk, RJ]; omega
  have hzone : ∀ v, v ∈ zs → v.oneCell' = true := fun v hv => hone v (by
   rw [e1];rw [← hzs] at hv
   exact RN (Q7 hv))
  have hsrc : ∀ j v, zs[j]? = some v → w.cell? ((⟨b, o2, none⟩ : Addr).add j) = some v := fun j v hj => by
   rw [BE, Bz q2]
   have hjl := (List.getElem?_eq_some_iff.1 hj).1
   rw [hat _ (by omega)];rw [← hzs, List.getElem?_take, if_pos (by omega), List.getElem?_drop] at hj;exact hj
  have hrun := run_copy_row (P := P) w ty ty' o.type e b o1 l1 kx ⟨b, o2, none⟩ l2 ky arr e' zs hu hsz q2 (by rw [hzl, hm]) hsrc (by rw [hzl]; omega) hzone
  refine wpList_plain hg fun K hK => ?_
  unfold Oper.wp
  have hex : (execOp a.eval o).run P w = .ok (.value (goInt zs.length)) (w.setRow b (arr.toList.take o1 ++ zs ++ arr.toList.drop (o1 + zs.length)).toArray) := by
   simp [execOp, ho, resolve, invoke, builtin, hevx, hevy, hrun, Result.andThen]
  rw [hex, Oper.upon_value, hd];rw [hzs, ← hzl] at k;refine hK _ _ (k _ _ ?_)
  have hob : ow b = some (.inr id) := hi.omem id b (by rw [hb5]; simp)
  have hkeep : ∀ b', b' ≠ b → (w.setRow b (arr.toList.take o1 ++ zs ++ arr.toList.drop (o1 + zs.length)).toArray).heap[b']? = w.heap[b']? := fun b' h => setRow_other w b b' _ h
  have hnl : (us.take o1 ++ zs ++ us.drop (o1 + zs.length)).length = us.length := by
   simp only [Qf, Qk, RJ]; omega
  refine hi.renew id (Anew.same id β) (fun _ => False) [b] (.L 1 ((us.take o1 ++ zs ++ us.drop (o1 + zs.length)).map T.v)) (some (t, goInt zs.length, .t (.int zs.length))) rfl ?_ rfl rfl rfl (by simp)
   (fun b' hb' h => hkeep b' fun e => (h _ (e ▸ hob)).2 rfl) ?_ (by simp [lookM]) ?_ (by simp) ?_ ?_
  ·rintro t' v d h
   cases h;exact ⟨ht, .t (.v rfl .nil) .done, by simp [look]⟩
  ·intro u hu'
   have := hu' _ _ _ rfl
   exact .inl ⟨by simp [look, Ne.symm this], by simp⟩
  ·refine .inr ⟨b, cap, _, e', [], q1, setRow_heap w b arr _ e' _ q2, ?_, fun z hz => ?_, by rw [Qc, hnl]; exact q5, q6, ?_, rfl⟩
   ·simp only [List.size_toArray, Qf, Qk, RJ, Qr]; omega
   ·obtain ⟨v, _, rfl⟩ := RB.1 hz; rfl
   ·rw [DP, Qc, Nat.mul_one, hnl]
    have e3 : (arr.toList.take o1 ++ zs ++ arr.toList.drop (o1 + zs.length)).toArray.toList.take us.length = us.take o1 ++ zs ++ us.drop (o1 + zs.length) := by
     have g1 : us.take o1 = arr.toList.take o1 := by
      conv => lhs; rw [← e1]
      rw [List.take_take]; congr 1; omega
     have g2 : us.drop (o1 + zs.length) = (arr.toList.drop (o1 + zs.length)).take (us.length - (o1 + zs.length)) := by
      conv => lhs; rw [← e1]
      rw [List.drop_take]
     have g3 : (arr.toList.take o1 ++ zs).length = o1 + zs.length := by
      simp only [Qf, Qk, Qr]; omega
     rw [g1, g2];show List.take us.length (arr.toList.take o1 ++ zs ++ arr.toList.drop (o1 + zs.length)) = _;rw [List.take_append, g3, Qi (by rw [g3]; omega)]
    rw [e3]
    refine B5 fun v hv => ?_
    rcases Qg.1 hv with hv | hv
    ·rcases Qg.1 hv with hv | hv
     ·exact hone v (by rw [e1]; exact Q7 hv)
     ·exact hzone v hv
    ·exact hone v (by rw [e1]; exact RN hv)
  ·intro b' h
   rw [Qw] at h;subst h;exact .inr ⟨_, hob, .inr rfl⟩
  ·intro id' hid
   simp only [lookM, if_neg (Ne.symm hid)];refine .inr ⟨by simp, ?_⟩
   cases lookM s.M id' <;> rfl
theorem PV {Q : St → List Dl → Prop} {acc : List Dl} {b : List Nat} {bs : List (List Nat)} {t id o1 l1 o2 l2 m e : Nat} {ty ty' : TypeId} {x y : Operand} {us : List Int} (hg : o.guard = none) (hd : o.dst = some t) (ht : t < c.n) (ho : o.op = .call { callee := .builtin .copy, args := #[x, y], argTypes := #[ty, ty'] })
  (hu : P.underlying ty = some (.slice e)) (hsz : (P.info? e).map (·.size) = some 1)
  (hx : opd s.fr x = .sl id o1 l1) (hy : opd s.fr y = .sl id o2 l2) (hM : lookM (CI b s.M) id = some (.L 1 (us.map T.int))) (h1 : o1 + l1 ≤ us.length) (h2 : o2 + l2 ≤ us.length) (hm : m = Nat.min l2 l1) (hpos : 0 < m)
  (k : QH P c ops bs rest ⟨(t, .t (.int m)) :: s.fr, (id, .L 1 ((us.take o1 ++ (us.drop o2).take m ++ us.drop (o1 + m)).map T.int)) :: s.M⟩ (acc ++ [⟨t, .t (.int m), [], [(id, .L 1 ((us.take o1 ++ (us.drop o2).take m ++ us.drop (o1 + m)).map T.int))], false⟩]) Q) : QH P c ops (b :: bs) (o :: rest) s acc Q :=
 ⟨⟨t, .t (.int m), [], [(id, .L 1 ((us.take o1 ++ (us.drop o2).take m ++ us.drop (o1 + m)).map T.int))], false⟩, fun s' ha _ Q h => by
  refine PP (us := us.map (Value.int .i64)) hg hd ht ho hu hsz (by rw [ha.opd (by rw [ho]; simp [Op.operands, Call.operands])]; exact hx) (by rw [ha.opd (by rw [ho]; simp [Op.operands, Call.operands])]; exact hy) (by rw [D2]; exact ha.1 _ _ hM) (by simpa using h1) (by simpa using h2) hm hpos ?_;rw [← List.map_take, ← List.map_drop, ← List.map_take, ← List.map_drop, ← List.map_append, ← List.map_append, D2]
  exact h, k⟩
theorem Nv {k : IntKind} {t ty ty' : Nat} {x y : Operand} {a b : Int} (hg : o.guard = none) (hd : o.dst = some t) (ht : t < c.n) (ho : o.op = .binOp .gtr ty x y ty') (hx : opd s.fr x = .t (.v (.int k a))) (hy : opd s.fr y = .t (.v (.int k b)))
  (kk : WO P c ops rest ⟨(t, .t (.bool (decide (b < a)))) :: s.fr, s.M⟩ Q) : WO P c ops (o :: rest) s Q := by
 refine CE hg hd ht _ (fun a' w F β fb mb ow hi => ?_) kk;refine ⟨.bool (decide (b < a)), ?_, .t (.v rfl .nil) .done⟩
 have e1 := Bv hi hx
 have e2 := Bv hi hy
 simp only [execOp, ho, e1, e2]
 simp [eqGuard, binOp, Op.intCmp]
theorem Km {Γ : Tys} (hΓ : Γ.ok P) {ty t b sz id off : Nat} {x : Operand} {ti : TI} {vs : List Value} {ts : List T} {y : T} {u : Value} (hg : o.guard = none) (hd : o.dst = some t) (ht : t < c.n) (ho : o.op = .load ty x)
  (h1 : A3 Γ ty = some ti) (h2 : ti.kind.isAgg = false) (hx : opd s.fr x = .t (.v (.pointer (some ⟨b, off, none⟩)))) (hM : lookM s.M id = some (.raw b sz vs ts)) (hy : ts[off]? = some y) (hu : vs[off]? = some u)
  (k : WO P c ops rest ⟨(t, .t (.v u)) :: s.fr, s.M⟩ Q) : WO P c ops (o :: rest) s Q :=
 EZ hΓ hg hd ht ho h1 h2 hx hM hy fun u' hu' => by rw [hu] at hu'; cases hu'; exact k
theorem FI {Q : St → Prop} {Γ : Tys} (hΓ : Γ.ok P) {ty t b sz id off : Nat} {x : Operand} {ti : TI} {vs : List Value} {ts : List T} {y : T} {u : Value} (hg : o.guard = none) (hd : o.dst = some t) (ht : t < c.n) (ho : o.op = .load ty x)
  (h1 : A3 Γ ty = some ti) (h2 : ti.kind.isAgg = false) (hx : opd s.fr x = .t (.v (.pointer (some ⟨b, off, none⟩)))) (hM : lookM s.M id = some (.raw b sz vs ts)) (hy : ts[off]? = some y) (hu : vs[off]? = some u)
  (k : QL P c ops rest ⟨(t, .t (.v u)) :: s.fr, s.M⟩ Q) : QL P c ops (o :: rest) s Q :=
 ⟨t, _, hd, fun s' ha Q h => Km hΓ hg hd ht ho h1 h2 (by rw [ha.opd (by rw [ho]; simp [Op.operands])]; exact hx) (by rw [ha.1]; exact hM) hy hu h, k⟩
theorem Kp {M0 : List (Nat × Blk)} {acc : List Dl} {Q : St → List Dl → Prop} {Γ : Tys} (hΓ : Γ.ok P) {ty t b sz id off : Nat} {x : Operand} {ti : TI} {vs : List Value} {ts : List T} {y : T} {u : Value} (hg : o.guard = none) (hd : o.dst = some t) (ht : t < c.n) (ho : o.op = .load ty x)
  (h1 : A3 Γ ty = some ti) (h2 : ti.kind.isAgg = false) (hx : opd s.fr x = .t (.v (.pointer (some ⟨b, off, none⟩)))) (hM : lookM M0 id = some (.raw b sz vs ts)) (hy : ts[off]? = some y) (hu : vs[off]? = some u)
  (k : QG P c ops M0 rest ⟨(t, .t (.v u)) :: s.fr, s.M⟩ (acc ++ [pl t (.t (.v u))]) Q) : QG P c ops M0 (o :: rest) s acc Q :=
 ⟨pl t _, hd, fun s' ha _ Q h => Km hΓ hg hd ht ho h1 h2 (by rw [ha.opd (by rw [ho]; simp [Op.operands])]; exact hx) (ha.1 _ _ hM) hy hu h, k⟩
theorem I1 {Q : St → List Dl → Prop} {acc : List Dl} {b : List Nat} {bs : List (List Nat)} {Γ : Tys} (hΓ : Γ.ok P) {ty bb sz id off : Nat} {x y : Operand} {ti : TI} {vs : List Value} {ts : List T} {u0 u : Value} (gt : Nat) (hg : o.guard = none) (hd : o.dst = none) (ho : o.op = .store ty x y)
  (h1 : A3 Γ ty = some ti) (h2 : ti.size = 1) (hx : opd s.fr x = .t (.v (.pointer (some ⟨bb, off, none⟩)))) (hM : lookM (CI b s.M) id = some (.raw bb sz vs ts)) (ht : ts[off]? = some (.v u0)) (hy : opd s.fr y = .t (.v u)) (hu : u.cells = #[u]) (hone : u.oneCell' = true)
  (k : QH P c ops bs rest ⟨(gt, .top) :: s.fr, (id, .raw bb sz (vs.set off u) (ts.set off (.v u))) :: s.M⟩ (acc ++ [⟨gt, .top, [], [(id, .raw bb sz (vs.set off u) (ts.set off (.v u)))], false⟩]) Q) : QH P c ops (b :: bs) (o :: rest) s acc Q :=
 ⟨⟨gt, .top, [], [(id, .raw bb sz (vs.set off u) (ts.set off (.v u)))], false⟩, fun s' ha _ Q h => by
  refine Bq hΓ hg hd ho h1 h2 (by rw [ha.opd (by rw [ho]; simp [Op.operands])]; exact hx) (ha.1 _ _ hM) ht (by rw [ha.opd (by rw [ho]; simp [Op.operands])]; exact hy) hu hone ?_
  have hle : Le c ⟨s'.fr, (id, .raw bb sz (vs.set off u) (ts.set off (.v u))) :: s'.M⟩ ⟨(gt, .top) :: s'.fr, (id, .raw bb sz (vs.set off u) (ts.set off (.v u))) :: s'.M⟩ := Le.of (fun v => by
   show (if gt = v then D.top else look s'.fr v) = look s'.fr v ∨ (if gt = v then D.top else look s'.fr v) = D.top;split
   ·exact .inr rfl
   ·exact .inl rfl) (fun v => .inl rfl)
  exact WO_le hle h, k⟩
theorem Le.rawCut {id b sz : Nat} {vs : List Value} (m : Nat) (hM : lookM s.M id = some (.raw b sz vs (vs.map T.v))) : Le c s ⟨s.fr, (id, .raw b sz (vs.take m) ((vs.take m).map T.v)) :: s.M⟩ := by
 rintro a w ⟨F, β, fb, mb, ow, hi⟩
 have hm := hi.mem id
 rw [hM] at hm;refine ⟨F, β, fb, mb, ow, { hi with mem := fun i => ?_ }⟩;simp only [lookM]
 by_cases h : id = i
 ·subst h
  rw [if_pos rfl]
  obtain ⟨arr, e, bs, q1, q2, q3, q4, q5⟩ := hm
  obtain ⟨e1, e2, hone⟩ := DK q4
  subst e2;refine ⟨arr, e, [], q1, q2, ?_, B5 fun v hv => hone v (Q7 hv), q5⟩
  conv => rhs; rw [← q3]
  rw [List.take_take, Qk]
 ·rw [if_neg h]; exact hi.mem i
end
end Go.Eng
end
section
/- A region that only reads, run as if all memory were only read: what it answers of values is kept in a new variable, all else is as before. -/
namespace Go.Eng
open Go.RowKit
section
variable {P : Program} {c : Ctx} {s : St} {Q : Exit → St → Prop} {ops : Array Oper}
theorem DD {Q : St → Prop} {rest : List Oper} {o : Oper} {t ty n cap : Nat} {ad : Option Addr} {x : Operand} (hg : o.guard = none) (hd : o.dst = some t) (ht : t < c.n) (ho : o.op = .call { callee := .builtin .len, args := #[x], argTypes := #[ty] })
  (hu : ∃ e, P.underlying ty = some (.slice e)) (hx : opd s.fr x = .t (.v (.slice ad n cap))) (k : QL P c ops rest ⟨(t, .t (.int n)) :: s.fr, s.M⟩ Q) : QL P c ops (o :: rest) s Q :=
 ⟨t, _, hd, fun s' ha Q h => Br hg hd ht ho hu (by rw [ha.opd (by rw [ho]; simp [Op.operands, Call.operands])]; exact hx) h, k⟩
end
end Go.Eng
end
section
/- An element's inner list, taken out of a list: the list keeps its header, told; what it leads to stands apart. -/
namespace Go.Eng
open Go.RowKit
section
variable {P : Program} {c : Ctx} {s : St} {Q : Exit → St → Prop} {ops : Array Oper} {rest : List Oper} {o : Oper}
theorem Jq {code : Code} {id n m i off : Nat} {xs ys : List T} {z : T} (idq : Nat) (hM : lookM s.M id = some (.L n xs)) (hz : xs[i]? = some z) (hc : z.cells[off]? = some (.list m ys)) (h2 : lookM s.M idq = none) (hne' : (id == idq) = false)
  (k : ∀ (ad : Option Addr) (cap : Nat), W P c code ⟨s.fr, (id, .L n (xs.set i (.agg (z.cells.set off (.v (.slice ad ys.length cap)))))) :: (idq, .rawV [.slice ad ys.length cap] [.list m ys]) :: s.M⟩ Q) : W P c code s Q := by
 have hne : ¬ id = idq := by simpa using hne'
 rintro a w ⟨F, β, fb, mb, ow, hi⟩
 have hmm := hi.mem id
 rw [hM] at hmm
 have hm2 := hi.mem idq
 rw [h2] at hm2
 have hil := (List.getElem?_eq_some_iff.1 hz).1
 rcases hmm with ⟨r1, r2, r3⟩ | ⟨b0, cap0, arr, e', bs', r1, r3, r4, r5, r6, r7, r8, r9⟩
 ·subst r2; simp at hil
 have hzl := r5 z (RC hz)
 have hoff := (List.getElem?_eq_some_iff.1 hc).1
 have hat : (xs.flatMap T.cells)[i * n + off]? = some (.list m ys) := by
  rw [FE r5 hz (by omega)]; exact hc
 obtain ⟨u, hu, huone⟩ := r8.get? hat
 obtain ⟨c1, c2, c3, e1, g1, g2⟩ := OwnL.at (i * n + off) r8 hu hat
 obtain ⟨ad, cap, rfl⟩ : ∃ ad cap, u = .slice ad ys.length cap := by
  cases g1 with
  | none h => exact ⟨_, _, rfl⟩
  | list _ _ _ _ _ _ _ _ => exact ⟨_, _, rfl⟩
 have hnew := g2 w (.v (.slice ad ys.length cap)) [] (fun _ _ => rfl) (.v rfl .nil)
 have hset : (xs.flatMap T.cells).set (i * n + off) (.v (.slice ad ys.length cap)) = (xs.set i (.agg (z.cells.set off (.v (.slice ad ys.length cap))))).flatMap T.cells := DQ r5 hz (by omega) rfl
 rw [hset] at hnew
 have hnd := hi.nmem id
 rw [r9, e1] at hnd
 refine k ad cap a w (hi.re2 hne (mp := b0 :: (c1 ++ [] ++ c3)) (mq := c2) (fun i h1 h3 => .inl (by
  simp only [lookM]; rw [if_neg (fun e => h1 e.symm), if_neg (fun e => h3 e.symm)])) ?_ ?_ (fun x h => ?_) (fun x h => ?_) ?_ ?_ ?_)
 ·simp only [lookM, if_true]
  refine .inr ⟨b0, cap0, arr, e', c1 ++ [] ++ c3, r1, r3, r4, fun x hx => ?_, by simpa using r6, r7, by rw [Qo]; exact hnew, rfl⟩
  rcases RD hx with hx | rfl
  ·exact r5 x hx
  ·show (z.cells.set off _).length = n
   rw [Qo]; exact hzl
 ·simp only [lookM, if_neg hne, if_true]; exact g1
 ·refine .inl ?_
  rw [r9, e1]
  simp at h ⊢
  rcases h with h | h | h
  ·exact .inl h
  ·exact .inr (.inl h)
  ·exact .inr (.inr (.inr h))
 ·exact .inl (by rw [r9, e1]; simp [h])
 ·obtain ⟨n1, n2⟩ := Qm.1 hnd
  obtain ⟨n3, n4, n5⟩ := Qh.1 n2
  obtain ⟨n6, n7, n8⟩ := Qh.1 n3
  refine Qm.2 ⟨fun h => n1 ?_, ?_⟩
  ·simp at h ⊢
   rcases h with h | h
   ·exact .inl h
   ·exact .inr (.inr h)
  ·rw [Qu]
   exact Qh.2 ⟨n6, n4, fun x hx y hy e => n5 x (by simp [hx]) y hy e⟩
 ·exact (Qh.1 (Qh.1 (Qm.1 hnd).2).1).2.1
 ·intro x hx hy
  obtain ⟨n1, n2⟩ := Qm.1 hnd
  obtain ⟨n3, n4, n5⟩ := Qh.1 n2
  obtain ⟨n6, n7, n8⟩ := Qh.1 n3
  simp at hx
  rcases hx with rfl | hx | hx
  ·exact n1 (by simp [hy])
  ·exact n8 x hx x hy rfl
  ·exact n5 x (by simp [hy]) x hx rfl
theorem Le.ownBack0 {t id : Nat} {v : Value} {x : T} (h1 : look s.fr t = .t (.v v)) (h2 : lookM s.M id = some (.rawV [v] [x])) : Le c s ⟨(t, .own x) :: s.fr, (id, .rawV [] []) :: s.M⟩ := by
 classical
 rintro a w ⟨F, β, fb, mb, ow, hi⟩
 have hr := hi.fr t
 rw [h1] at hr
 have e1 := A6 hr
 have hm := hi.mem id
 rw [h2] at hm
 have hO : OwnL w [v] [x] (mb id) := hm
 have ho : ∀ b, b ∈ mb id → ow b = some (.inr id) := fun b h => hi.omem id b h
 have hfb : fb t = [] := hr.free1 rfl
 refine ⟨F, β, fun y => if y = t then mb id else fb y, fun i => if i = id then [] else mb i, fun b => if b ∈ mb id then some (.inl t) else ow b, ?_⟩
 exact { hi with
  fr := fun y => by
   simp only [look]
   by_cases h : t = y
   ·subst h
    rw [if_pos rfl, if_pos rfl, e1]
    simpa using RelD.own (F := F) (β := β) hO .done
   ·rw [if_neg h, if_neg (fun e => h e.symm)]
    exact hi.fr y
  mem := fun i => by
   simp only [lookM]
   by_cases h : i = id
   ·subst h; rw [if_pos rfl, if_pos rfl]; exact OwnL.nil
   ·rw [if_neg (fun e => h e.symm), if_neg h]; exact hi.mem i
  ofr := fun y b hb => by
   split at hb
   ·rename_i h; subst h; rw [if_pos hb]
   ·have h5 := hi.ofr y b hb
    rw [if_neg (fun h => by rw [ho b h] at h5; cases h5)];exact h5
  omem := fun i b hb => by
   split at hb
   ·cases hb
   ·rename_i hne
    have h5 := hi.omem i b hb
    rw [if_neg (fun h => by rw [ho b h] at h5; cases h5; exact hne rfl)];exact h5
  nfr := fun y => by
   split
   ·exact hi.nmem id
   ·exact hi.nfr y
  nmem := fun i => by
   split
   ·exact List.nodup_nil
   ·exact hi.nmem i
  own := fun b hb => by
   split at hb
   ·rename_i h; exact hi.own b (by rw [ho b h]; simp)
   ·exact hi.own b hb }
theorem Le.putBack {id idq n i off : Nat} {xs : List T} {z : T} {u : Value} {y : T} (z' : T) (hM : lookM s.M id = some (.L n xs)) (h2 : lookM s.M idq = some (.rawV [u] [y])) (hz : xs[i]? = some z) (hc : z.cells[off]? = some (.v u)) (hz' : z'.cells = z.cells.set off y) (hne' : (id == idq) = false) :
  Le c s ⟨s.fr, (id, .L n (xs.set i z')) :: dropM (some idq) s.M⟩ := by
 have hne : ¬ id = idq := by simpa using hne'
 rintro a w ⟨F, β, fb, mb, ow, hi⟩
 have hmm := hi.mem id
 rw [hM] at hmm
 have hm2 := hi.mem idq
 rw [h2] at hm2
 have hO : OwnL w [u] [y] (mb idq) := hm2
 have hil := (List.getElem?_eq_some_iff.1 hz).1
 rcases hmm with ⟨r1, r2, r3⟩ | ⟨b0, cap0, arr, e', bs', r1, r3, r4, r5, r6, r7, r8, r9⟩
 ·subst r2; simp at hil
 have hzl := r5 z (RC hz)
 have hoff := (List.getElem?_eq_some_iff.1 hc).1
 have hat : (xs.flatMap T.cells)[i * n + off]? = some (.v u) := by
  rw [FE r5 hz (by omega)]; exact hc
 obtain ⟨u', hu, huone⟩ := r8.get? hat
 obtain ⟨c1, c2, c3, e1, g1, g2⟩ := OwnL.at (i * n + off) r8 hu hat
 have hu2 : u' = u ∧ c2 = [] := by
  cases g1 with
  | v q1 q2 => cases q2; exact ⟨rfl, rfl⟩
 obtain ⟨rfl, rfl⟩ := hu2
 have hnew := g2 w y (mb idq) (fun _ _ => rfl) hO
 have hset : (xs.flatMap T.cells).set (i * n + off) y = (xs.set i z').flatMap T.cells := DQ r5 hz (by omega) hz'
 rw [hset] at hnew
 have hnd := hi.nmem id
 rw [r9, e1] at hnd
 have hnd2 := hi.nmem idq
 simp only [Qu] at hnd
 have hdrop : lookM ((id, Blk.L n (xs.set i z')) :: dropM (some idq) s.M) idq = none := by
  simp only [lookM]; rw [if_neg hne, BC]
 have hd : ∀ x, x ∈ mb idq → x ∉ b0 :: (c1 ++ c3) := fun x hx hy => hi.dis hne (b := x) (by rw [r9, e1]; simpa using hy) hx
 refine hi.re2 hne (mp := b0 :: (c1 ++ mb idq ++ c3)) (mq := []) (fun i h1 h3 => .inl (by
  simp only [lookM]; rw [if_neg (fun e => h1 e.symm), Bi h3])) ?_ ?_ (fun x h => ?_) (by simp) ?_ (by simp) (by simp)
 ·simp only [lookM, if_true]
  refine .inr ⟨b0, cap0, arr, e', c1 ++ mb idq ++ c3, r1, r3, r4, fun x hx => ?_, by simpa using r6, r7, by rw [Qo]; exact hnew, rfl⟩
  rcases RD hx with hx | rfl
  ·exact r5 x hx
  ·rw [hz', Qo]; exact hzl
 ·rw [hdrop]
 ·rcases Qn.1 h with rfl | h
  ·exact .inl (by rw [r9]; simp)
  ·rcases Qg.1 h with h | h
   ·rcases Qg.1 h with h | h
    ·exact .inl (by rw [r9, e1]; simp [h])
    ·exact .inr h
   ·exact .inl (by rw [r9, e1]; simp [h])
 ·obtain ⟨n1, n2⟩ := Qm.1 hnd
  obtain ⟨n3, n4, n5⟩ := Qh.1 n2
  refine Qm.2 ⟨fun h => ?_, ?_⟩
  ·rcases Qg.1 h with h | h
   ·rcases Qg.1 h with h | h
    ·exact n1 (by simp [h])
    ·exact hd _ h (by simp)
   ·exact n1 (by simp [h])
  ·refine Qh.2 ⟨Qh.2 ⟨n3, hnd2, fun x hx y hy e => ?_⟩, n4, fun x hx y hy e => ?_⟩
   ·subst e; exact hd x hy (by simp [hx])
   ·subst e
    rcases Qg.1 hx with hx | hx
    ·exact n5 x hx x hy rfl
    ·exact hd x hx (by simp [hy])
end
end Go.Eng
end
section
/- Calls of readers on own memory; what is told, read by what is known of it. -/
namespace Go.Eng
open Go.RowKit
section
variable {P : Program} {c : Ctx} {s : St} {Q : Exit → St → Prop} {ops : Array Oper} {rest : List Oper} {o : Oper} {M0 : List (Nat × Blk)} {acc : List Dl}
end
end Go.Eng
end
section
/- Arithmetic of words of any width. -/
namespace Go.Eng
open Go.RowKit
section
variable {P : Program} {c : Ctx} {s : St} {Q : Exit → St → Prop} {ops : Array Oper} {rest : List Oper} {o : Oper}
end
end Go.Eng
end
section
/- Regions of open order that write, with a tail in order. -/
namespace Go.Eng
open Go.RowKit
section
variable {P : Program} {c : Ctx} {s : St} {Q : Exit → St → Prop}
theorem WR_Ht {l1 l2 : List Oper} {ops : Array Oper} (bads : List (List Nat)) (he : ops = (l1 ++ l2).toArray) (hB : B6 ops l1.length = true) (hT : l2 = [] ∨ Dr ops l1.length = true)
  (h : QH P c ops bads l1 s [] (fun s' xs => OB ops l1 s xs bads = true ∧ WO P c ops l2 s' Q)) : WR P c ops s Q := by
 obtain ⟨xs, hlen, ⟨hchk, hend⟩, hstep⟩ := h.steps
 simp only [List.nil_append] at hchk
 have hops : ∀ j : Nat, j < l1.length → l1[j]? = ops[j]? := fun j hj => by subst he; rw [List.getElem?_toArray, List.getElem?_append_left hj]
 have hsz : l1.length ≤ ops.size := by subst he; simp
 refine WR_S he hB hT (fun X => mrg xs X s l1.length) (fun X hX => ?_) (fun X i o ho hXi hcl hdep => ?_) (fun X hX => ?_)
 ·rw [BZ (i := 0) (Nat.zero_le _) fun j _ => hX j]
  exact Le.refl
 ·have hil : i < l1.length := (List.getElem?_eq_some_iff.1 ho).1
  obtain ⟨x, hx, hst⟩ := hstep i o ho
  have hoi : ops[i]? = some o := by rw [← hops i hil]; exact ho
  have hlt : ∀ k ok, ops[k]? = some ok → ∀ e, e ∈ ok.after → Region.binds .any e = true → e.on < k := fun k ok hk => Cp hB hk
  have hcl' : ∀ j oj, ops[j]? = some oj → j < l1.length → X j = true → ∀ e, e ∈ oj.after → Region.binds .any e = true → X e.on = true := fun j oj hj hjl hXj => hcl j oj (by rw [hops j hjl]; exact hj) hXj
  -- what is done, and what is not
  have after : ∀ j, rch (DH ops l1.length) i j = true → X j = true := fun j hr => (DY hlt (by omega) hcl' i hil j hr fun oi h' => by rw [hoi] at h'; cases h'; exact hdep).1
  have before : ∀ j, j < l1.length → rch (DH ops l1.length) j i = true → X j = false := fun j hj hr => by
   cases hXj : X j with
   | false => rfl
   | true =>
    have := (DY hlt (by omega) hcl' j hj i hr fun oj h' e he hb => hcl' j oj h' hj hXj e he hb).1
    rw [hXi] at this; cases this
  have hxat : ∀ {j : Nat}, j < l1.length → ∃ oj y, l1[j]? = some oj ∧ xs[j]? = some y := fun {j} hj => by
   have hlj : l1[j]? = some l1[j] := List.getElem?_eq_getElem hj
   obtain ⟨y, hy, _⟩ := hstep j _ hlj
   exact ⟨_, y, hlj, hy⟩
  have apart : ∀ {j : Nat} {y : Dl}, j < l1.length → j ≠ i → xs[j]? = some y → X j ≠ decide (j < i) →
    (∀ u, y.ws.contains u = true → (o.looksAt ops).contains u = false ∧ x.ws.contains u = false) ∧ (∀ p, p ∈ y.M → (bads.getD i []).contains p.1 = true) ∧ (∀ p, p ∈ y.M → inF x.M p.1 = false) := fun {j y} hj hji hy hne => by
   obtain ⟨oj, y', hlj, hy'⟩ := hxat hj
   rw [hy] at hy'; cases hy'
   rcases Nat.lt_or_gt_of_ne hji with h' | h'
   ·have hp := BP hchk h' hlj ho hy hx
    have hnr : rch (DH ops l1.length) i j = false := by
     cases hr : rch (DH ops l1.length) i j with
     | false => rfl
     | true => exact absurd (by rw [after j hr]; simp [h']) hne
    unfold EC at hp;rw [hnr, RI, Qd] at hp
    have hd := hp.1
    unfold QO at hd;simp only [Qd, Ql, Q3] at hd
    obtain ⟨d1, d2, d3, d4⟩ := hd
    refine ⟨fun u hu => ⟨d2 u (by simpa using hu), ?_⟩, fun p hp => d4 p hp, fun p hp => ?_⟩
    ·cases hxu : x.ws.contains u with
     | false => rfl
     | true =>
      have := (d1 u (by simpa using hxu)).2
      rw [hu] at this; cases this
    ·cases hin : inF x.M p.1 with
     | false => rfl
     | true =>
      unfold inF at hin;rw [RK] at hin
      obtain ⟨q, hq1, hq2⟩ := hin
      have := (d3 q hq1).2
      have hin2 : inF y.M q.1 = true := by
       unfold inF;rw [RK];exact ⟨p, hp, by rw [beq_iff_eq] at hq2 ⊢; exact hq2.symm⟩
      rw [hin2] at this; cases this
   ·have hp := BP hchk h' ho hlj hx hy
    have hnr : rch (DH ops l1.length) j i = false := by
     cases hr : rch (DH ops l1.length) j i with
     | false => rfl
     | true => exact absurd (by rw [before j hj hr]; simp; omega) hne
    unfold EC at hp;rw [hnr, RI, Qd] at hp
    have hd := hp.1
    unfold QO at hd;simp only [Qd, Ql, Q3] at hd
    obtain ⟨d1, d2, d3, d4⟩ := hd
    exact ⟨fun u hu => d1 u (by simpa using hu), fun p hp => (d3 p hp).1, fun p hp => (d3 p hp).2⟩
  have hag : AgreeG ops o (onL (xs.take i) s).fr (CI (bads.getD i []) (onL (xs.take i) s).M) (mrg xs X s l1.length) := by
   refine ⟨fun id k hk => ?_, fun u hu => ?_⟩
   ·obtain ⟨hb, hk⟩ := CO hk
    rw [← CB (X := fun j => decide (j < i)) (by omega) (fun j hj => by simpa using hj), ← BZ (X := fun j => decide (j < i)) (i := i) (n := l1.length) (by omega) (fun j hj => by simpa using hj)] at hk;rw [← hk]
    refine HC fun j y hj hy hin => ?_
    by_cases hje : j = i
    ·subst hje; rw [hXi]; simp
    ·refine Classical.byContradiction fun hne => ?_
     have hap := (apart hj hje hy hne).2.1
     unfold inF at hin;rw [RK] at hin
     obtain ⟨p, hp1, hp2⟩ := hin
     have := hap p hp1
     rw [show p.1 = id from by simpa using hp2, hb] at this;cases this
   ·rw [← CB (X := fun j => decide (j < i)) (by omega) (fun j hj => by simpa using hj), ← BZ (X := fun j => decide (j < i)) (i := i) (n := l1.length) (by omega) (fun j hj => by simpa using hj)]
    refine EI fun j y hj hy hin => ?_
    by_cases hje : j = i
    ·subst hje; rw [hXi]; simp
    ·refine Classical.byContradiction fun hne => ?_
     have hap := ((apart hj hje hy hne).1 u (by rw [← EL]; exact hin)).1
     rw [List.contains_eq_mem, decide_eq_false_iff_not] at hap;exact hap hu
  have hcl2 : x.b = true → Cl x.t (mrg xs X s l1.length) := fun hb => by
   refine Cl.mrg ?_ fun j y hj hXj hy => ?_
   ·have := Fv hchk hx
    unfold Nd at this;rw [hb] at this;simp only [RY, RI, Qd] at this;exact ⟨Bp this.1, (Ba this.2).1, (Ba this.2).2⟩
   ·have hji : j ≠ i := fun e => by subst e; rw [hXi] at hXj; cases hXj
    obtain ⟨oj, y', hlj, hy'⟩ := hxat hj
    rw [hy] at hy'; cases hy'
    rcases Nat.lt_or_gt_of_ne hji with h' | h'
    ·have hp := BP hchk h' hlj ho hy hx
     unfold EC at hp;rw [hb] at hp;simp only [RY, RI, Qd] at hp;exact hp.2.2
    ·have hp := BP hchk h' ho hlj hx hy
     have hnr : rch (DH ops l1.length) j i = false := by
      cases hr : rch (DH ops l1.length) j i with
      | false => rfl
      | true => rw [before j hj hr] at hXj; cases hXj
     unfold EC at hp;rw [hb, hnr] at hp;simp only [RY, RI, Qd] at hp;exact hp.2.1
  have later : ∀ {j : Nat} {y : Dl}, j < l1.length → i < j → X j = true → xs[j]? = some y → (∀ u, y.ws.contains u = true → x.ws.contains u = false) ∧ ∀ p, p ∈ y.M → inF x.M p.1 = false := fun {j y} hj hij hXj hy => by
   have hap := apart hj (by omega) hy (by rw [hXj]; simp; omega)
   exact ⟨fun u hu => (hap.1 u hu).2, hap.2.2⟩
  intro Q' hQ;refine hst _ hag hcl2 Q' (WO_le (Le.of (fun u => .inl ?_) (fun u => .inl ?_)) hQ)
  ·simp only [Dl.on, look_app]
   split
   ·rename_i hu
    refine Cq hx hXi hu hil fun j y hj hij hXj hy => ?_
    cases hin : inF y.fr u with
    | false => rfl
    | true =>
     have := (later hj hij hXj hy).1 u (by rw [← EL]; exact hin)
     rw [← EL, hu] at this; cases this
   ·rename_i hu
    refine EI fun j y hj hy hin => ?_
    have : (j == i) = false := by
     rw [beq_eq_false_iff_ne];intro e; subst e; rw [hx] at hy; cases hy; exact hu hin
    rw [this, RM]
  ·simp only [Dl.on, lookM_app]
   split
   ·rename_i hu
    refine DL hx hXi hu hil fun j y hj hij hXj hy => ?_
    cases hin : inF y.M u with
    | false => rfl
    | true =>
     unfold inF at hin;rw [RK] at hin
     obtain ⟨p, hp1, hp2⟩ := hin
     have := (later hj hij hXj hy).2 p hp1
     rw [show p.1 = u from by simpa using hp2, hu] at this;cases this
   ·rename_i hu
    refine HC fun j y hj hy hin => ?_
    have : (j == i) = false := by
     rw [beq_eq_false_iff_ne];intro e; subst e; rw [hx] at hy; cases hy; exact hu hin
    rw [this, RM]
 ·rw [CB (by omega) hX, Qi (by omega)]
  exact hend
theorem BJ {id : Nat} {ops : Array Oper} (m : Nat) (bads : List (List Nat)) (hm : P.follows .mixedOrders = true) (hl : (ops.toList.take m).length = m) (hB : B6 ops m = true) (hT : Dr ops m = true)
  (h : QH P c ops bads (ops.toList.take m) s [] (fun s' xs => OB ops (ops.toList.take m) s xs bads = true ∧ WO P c ops (ops.toList.drop m) s' Q)) : W P c (.region id ops true) s Q :=
 He hm (WR_Ht (l1 := ops.toList.take m) (l2 := ops.toList.drop m) bads (by simp) (by rw [hl]; exact hB) (.inr (by rw [hl]; exact hT)) h)
end
end Go.Eng
end
section
/- A struct that is read, of which some cells are not told. -/
namespace Go.Eng
open Go.RowKit
section
variable {P : Program} {c : Ctx} {s : St} {Q : Exit → St → Prop} {ops : Array Oper} {rest : List Oper} {o : Oper}
theorem Ad {code : Code} {u j : Nat} {x : T} {cells : List D} (idp : Nat) (hB : lookM s.M u = some (.box cells)) (h1 : cells[j]? = some (.own x)) (h2 : lookM s.M idp = none)
  (k : ∀ v : Value, W P c code ⟨s.fr, (u, .box (cells.set j (.t (.v v)))) :: (idp, .rawV [v] [x]) :: s.M⟩ Q) : W P c code s Q := by
 have hne : ¬ u = idp := fun e => by rw [e, h2] at hB; cases hB
 intro a w hi0
 have hi00 := hi0
 obtain ⟨F, β, fb, mb, ow, hi⟩ := hi00
 have hb := hi.mem u
 rw [hB] at hb
 obtain ⟨b0, arr, e0, bs0, p1, p2, p3, p4, p5⟩ := hb
 obtain ⟨v, b1, b2, b3, hbs, q1, qv, q2⟩ := CF j p3 h1
 have hnd := hi.nmem u
 rw [p5, hbs] at hnd
 obtain ⟨n1, n2⟩ := Qm.1 hnd
 obtain ⟨n3, n4, n5⟩ := Qh.1 n2
 obtain ⟨n6, n7, n8⟩ := Qh.1 n3
 have hone : v.oneCell' = true := by
  rw [Ql] at p4;exact p4 v (RC qv)
 have hO : OwnL w [v] [x] b2 := by
  cases q1 with
  | own h3 h4 => cases h4; simpa using h3
 refine k v a w (hi.re2 hne (mp := b0 :: (b1 ++ [] ++ b3)) (mq := b2) (fun i h1 h2' => .inl (by simp only [lookM]; rw [if_neg (fun e => h1 e.symm), if_neg (fun e => h2' e.symm)])) ?_ ?_ (fun b h => .inl ?_) (fun b h => .inl (by rw [p5, hbs]; simp [h])) ?_ n7 (fun b h h' => ?_))
 ·simp only [lookM, if_true]
  exact ⟨b0, arr, e0, b1 ++ [] ++ b3, by simpa using p1, p2, q2 _ [] (.t (.v hone .nil) .done), p4, rfl⟩
 ·simp only [lookM, if_neg hne, if_true]; exact hO
 ·rw [p5, hbs]
  rcases Qn.1 h with rfl | h
  ·simp
  ·simp only [Qu] at h
   rcases Qg.1 h with h | h <;> simp [h]
 ·simp only [Qu]
  refine Qm.2 ⟨fun h => n1 ?_, Qh.2 ⟨n6, n4, fun x hx y hy => n5 x (by simp [hx]) y hy⟩⟩
  rcases Qg.1 h with h | h <;> simp [h]
 ·simp only [Qu] at h
  rcases Qn.1 h with rfl | h
  ·exact n1 (by simp [h'])
  ·rcases Qg.1 h with h | h
   ·exact n8 b h b h' rfl
   ·exact n5 b (by simp [h']) b h rfl
theorem Conc.reCell {a : Act} {w : World} {F β fb mb ow} (hi : Conc c s a w F β fb mb ow) {u j : Nat} {d e : D} {cells : List D} (hB : lookM s.M u = some (.box cells)) (h1 : cells[j]? = some d) (h2 : ∀ v b, RelD w F β [v] [d] b → v.oneCell' = true → RelD w F β [v] [e] b) : Is c ⟨s.fr, (u, .box (cells.set j e)) :: s.M⟩ a w := by
 refine ⟨F, β, fb, mb, ow, { hi with mem := fun i => ?_ }⟩;simp only [lookM]
 by_cases hiu : u = i
 ·subst hiu
  rw [if_pos rfl]
  have hb := hi.mem u
  rw [hB] at hb
  obtain ⟨b0, arr, e0, bs0, p1, p2, p3, p4, p5⟩ := hb
  obtain ⟨v, b1, b2, b3, rfl, q1, qv, q2⟩ := CF j p3 h1
  have hone : v.oneCell' = true := by
   rw [Ql] at p4;exact p4 v (RC qv)
  exact ⟨b0, arr, e0, _, by simpa using p1, p2, q2 _ b2 (h2 v b2 q1 hone), p4, p5⟩
 ·rw [if_neg hiu]; exact hi.mem i
theorem Le.nilTold {u j : Nat} {cells : List D} (hB : lookM s.M u = some (.box cells)) (h1 : cells[j]? = some .nil) : Le c s ⟨s.fr, (u, .box (cells.set j (.t (.v (.slice none 0 0))))) :: s.M⟩ := by
 rintro a w ⟨F, β, fb, mb, ow, hi⟩
 refine hi.reCell hB h1 fun v b h hone => ?_
 cases h with
 | nil h => cases h; exact .t (.v rfl .nil) .done
end
end Go.Eng
end
section
/- Functions that are lent memory and answer what is then only read. -/
namespace Go.Eng
open Go.RowKit
section
variable {P : Program} {c : Ctx} {s : St} {Q : Exit → St → Prop} {ops : Array Oper} {rest : List Oper} {o : Oper}
inductive QX (s : St) : List D → List D → Prop
 | done : QX s [] []
 | t {x ds es} : QX s ds es → QX s (.t x :: ds) (.t x :: es)
 | nil {ds es} (n : Nat) : QX s ds es → QX s (.nil :: ds) (.t (.list n []) :: es)
 | pin {id i off b n cc ds es} (pid : Nat) : lookM s.M pid = some (.pin id b n cc) → QX s ds es → QX s (.ref id i off :: ds) (.t (.v (.pointer (some ⟨b, i * n + off, none⟩))) :: es)
end
end Go.Eng
end
section
/- A list that has a name is from now on only read; what is read, read by what is known of a cell. -/
namespace Go.Eng
open Go.RowKit
section
variable {P : Program} {c : Ctx} {s : St} {Q : Exit → St → Prop} {ops : Array Oper} {rest : List Oper} {o : Oper}
end
end Go.Eng
end
section
/- Structs of two whole numbers, compared with themselves. -/
namespace Go.Eng
open Go.RowKit
section
variable {P : Program} {c : Ctx} {s : St} {Q : Exit → St → Prop} {ops : Array Oper} {rest : List Oper} {o : Oper}
end
end Go.Eng
end
section
/- Runs of operations in order, cut in two: where ways meet. -/
namespace Go.Eng
open Go.RowKit
section
variable {P : Program} {c : Ctx} {s : St} {Q : Exit → St → Prop} {ops : Array Oper} {rest : List Oper} {o : Oper}
end
end Go.Eng
end
section
/- Functions whose answer is one of many: what is told of it is a property; the rules for their calls. -/
namespace Go.Eng
open Go.RowKit
section
variable {P : Program} {c : Ctx} {ops : Array Oper} {rest : List Oper} {s : St} {Q : Exit → St → Prop} {o : Oper}
end
end Go.Eng
end
section
/- An answer that is owned may be taken as one that is only read. -/
namespace Go.Eng
open Go.RowKit
end Go.Eng
end
section
/- Texts: what is known of them, and the operations on them. -/
namespace Go.Eng
open Go.RowKit
section
variable {P : Program} {c : Ctx} {s : St} {Q : Exit → St → Prop} {ops : Array Oper} {rest : List Oper} {o : Oper} {M0 : List (Nat × Blk)} {acc : List Dl}
end
end Go.Eng
end
section
/- Texts, in a region of open order. -/
namespace Go.Eng
open Go.RowKit
section
variable {P : Program} {c : Ctx} {s : St} {ops : Array Oper} {rest : List Oper} {o : Oper} {M0 : List (Nat × Blk)} {acc : List Dl}
end
end Go.Eng
end
section
/- Functions that read variables of the program's that are laid: what lies in them is told by a property of the world. -/
namespace Go.Eng
open Go.RowKit
structure Keeps (Λ : World → (Nat → Prop) → Prop) (c : Ctx) : Prop where
 g : ∀ b, ¬ c.G b
 k : ∀ w F, Below c.w0.heap.size c.w0 w → (∀ b, c.F0 b → F b) → Λ w F
section
variable {P : Program} {Λ : World → (Nat → Prop) → Prop} {c : Ctx} {s : St} {ops : Array Oper} {rest : List Oper} {o : Oper}
end
section
variable {P : Program} {Λ : World → (Nat → Prop) → Prop}
end
section
variable {P : Program} {Λ : World → (Nat → Prop) → Prop} {c : Ctx} {s : St} {Q : Exit → St → Prop} {ops : Array Oper} {rest : List Oper} {o : Oper}
/-! ### Whole functions -/
end
section
variable {P : Program} {Λ : World → (Nat → Prop) → Prop} {c : Ctx} {s : St} {Q : St → Prop} {ops : Array Oper} {rest : List Oper} {o : Oper}
end
section
variable {P : Program} {Λ : World → (Nat → Prop) → Prop} {c : Ctx} {s : St} {Q : St → List Dl → Prop} {M0 : List (Nat × Blk)} {acc : List Dl} {ops : Array Oper} {rest : List Oper} {o : Oper}
end
end Go.Eng
end
section
/- Laid variables that hold a row of texts: their parts read, and a part of the row handed on. -/
namespace Go.Eng
open Go.RowKit
section
variable {P : Program} {Λ : World → (Nat → Prop) → Prop} {c : Ctx} {s : St} {Q : Exit → St → Prop} {ops : Array Oper} {rest : List Oper} {o : Oper} {M0 : List (Nat × Blk)} {acc : List Dl}
end
section
variable {P : Program} {Λ : World → (Nat → Prop) → Prop} {c : Ctx} {s : St} {ops : Array Oper} {rest : List Oper} {o : Oper} {M0 : List (Nat × Blk)} {acc : List Dl}
end
end Go.Eng
end
section
/- Guards in regions of open order that make memory or write; library functions, known by what they answer; an error asked whether it is nil. -/
namespace Go.Eng
open Go.RowKit
section
variable {P : Program} {c : Ctx} {s : St} {ops : Array Oper} {rest : List Oper} {o : Oper} {M0 : List (Nat × Blk)} {acc : List Dl} {Q : St → List Dl → Prop}
end
section
variable {P : Program} {Λ : World → (Nat → Prop) → Prop}
end
section
variable {P : Program} {c : Ctx} {s : St} {ops : Array Oper} {rest : List Oper} {o : Oper} {Q : Exit → St → Prop}
end
end Go.Eng
end
section
/- Rows over laid variables: from a law's walk to its row. -/
namespace Go.Eng
open Go.ChangeShapes Go.WideShapes Go.ChangeAt Go.RowKit
end Go.Eng
end
section
/- A text appended to a row of bytes of the call's own: whose the new row is. -/
namespace Go.Eng
open Go.RowKit Go.Lib
section
variable {P : Program} {w : World}
end
end Go.Eng
end
section
/- A builder of texts of the call's own: its writers, exactly. -/
namespace Go.Proofs
open Go.Shelf Go.RowKit Go.Lib
variable {P : Program} {ρ : Ren}
structure BldKept (b : Nat) (v v' : Value) (w w' : World) : Prop where
 os : w'.os = w.os
 tape : w'.tape = w.tape
 output : w'.output = w.output
 size : w.heap.size ≤ w'.heap.size
 block : ∀ k, k < w.heap.size → k ≠ b → v.ownBlock ≠ some k → w'.heap[k]? = w.heap[k]?
 row : ∀ g, v'.ownBlock = some g → v.ownBlock = some g ∨ (w.heap.size ≤ g ∧ g < w'.heap.size)
set_option maxHeartbeats 2000000
set_option maxRecDepth 100000
end Go.Proofs
end
section
/- A builder of texts of the call's own, lent to its writers. -/
namespace Go.Eng
open Go.RowKit Go.Lib Go.Shelf Go.Proofs
section
variable {P : Program} {ρ : Ren}
end
section
variable {P : Program} {c : Ctx} {s : St} {Q : Exit → St → Prop} {ops : Array Oper} {rest : List Oper} {o : Oper}
end
end Go.Eng
end
section
/- Bytes as a text, in a region of open order. -/
namespace Go.Eng
open Go.RowKit
section
variable {P : Program} {c : Ctx} {s : St} {ops : Array Oper} {rest : List Oper} {o : Oper} {M0 : List (Nat × Blk)} {acc : List Dl}
end
end Go.Eng
end
section
/- Cells appended to a row of the call's own: whose the new row is. -/
namespace Go.Eng
open Go.RowKit Go.Lib
section
variable {P : Program} {w : World}
end
end Go.Eng
end
section
/- Rows: lists of the call's own that lie at a told place; lent, named, told. -/
namespace Go.Eng
open Go.RowKit
section
variable {P : Program} {c : Ctx} {s : St} {Q : Exit → St → Prop} {ops : Array Oper} {rest : List Oper} {o : Oper}
theorem AA {s1 : St} {e : Exit} {Q : Exit → St → Prop} (h : Le c s s1) (k : ∃ s2, Le c s1 s2 ∧ Q e s2) : ∃ s2, Le c s s2 ∧ Q e s2 := by
 obtain ⟨s2, h1, h2⟩ := k
 exact ⟨s2, h.trans h1, h2⟩
theorem AF {e : Exit} {Q : Exit → St → Prop} (k : Q e s) : ∃ s2, Le c s s2 ∧ Q e s2 := ⟨s, Le.refl, k⟩
theorem AB {s1 : St} {e : Exit} {Q : Exit → St → Prop} (h : Cb s = some s1) (k : ∃ s2, Le c s1 s2 ∧ Q e s2) : ∃ s2, Le c s s2 ∧ Q e s2 := by rw [Cs h]; exact k
theorem Le.nameR {u b n cap : Nat} {xs : List T} (pid : Nat) (hM : lookM s.M u = some (.row b cap n xs)) (h2 : lookM s.M pid = none) (h3 : Hl u s.fr = true) (h4 : (s.M.all fun p => Bd u p.2) = true) :
  Le c s ⟨s.fr, (u, .L n xs) :: (pid, .pin u b n cap) :: s.M⟩ := by
 rintro a w ⟨F, β, fb, mb, ow, hi⟩
 refine hi.name pid hM h2 h3 h4 fun β' hβ hm => ?_
 obtain ⟨arr, e, bs, q1, q2, q3, q4, q5, q6, q7⟩ := hm
 exact .inr ⟨b, cap, arr, e, bs, hβ, q1, q2, q3, q4, q5, q6, q7⟩
theorem Le.closeR {u b n cap : Nat} {xs : List T} (pid : Nat) (hM : lookM s.M u = some (.L n xs)) (hp : lookM s.M pid = some (.pin u b n cap)) : Le c s ⟨s.fr, (u, .row b cap n xs) :: s.M⟩ := by
 rintro a w ⟨F, β, fb, mb, ow, hi⟩
 have hm := hi.mem u
 rw [hM] at hm
 have h6 := hi.mem pid
 rw [hp] at h6;refine ⟨F, β, fb, mb, ow, { hi with mem := fun i => ?_ }⟩;simp only [lookM]
 by_cases hu : u = i
 ·subst hu
  rw [if_pos rfl]
  rcases hm with ⟨q, _⟩ | ⟨b', cap', arr, e, bs, q0, q1, q2, q3, q4, q5, q6, q7⟩
  ·rw [h6.1] at q; cases q
  ·rw [h6.1] at q0
   cases q0;exact ⟨arr, e, bs, q1, q2, q3, q4, q5, q6, q7⟩
 ·rw [if_neg hu]; exact hi.mem i
theorem Le.openR {u b n cap : Nat} {xs : List T} (pid : Nat) (hM : lookM s.M u = some (.row b cap n xs)) (hp : lookM s.M pid = some (.pin u b n cap)) : Le c s ⟨s.fr, (u, .L n xs) :: s.M⟩ := by
 rintro a w ⟨F, β, fb, mb, ow, hi⟩
 have hm := hi.mem u
 rw [hM] at hm
 have h6 := hi.mem pid
 rw [hp] at h6;refine ⟨F, β, fb, mb, ow, { hi with mem := fun i => ?_ }⟩;simp only [lookM]
 by_cases hu : u = i
 ·subst hu
  rw [if_pos rfl]
  obtain ⟨arr, e, bs, q1, q2, q3, q4, q5, q6, q7⟩ := hm
  exact .inr ⟨b, cap, arr, e, bs, h6.1, q1, q2, q3, q4, q5, q6, q7⟩
 ·rw [if_neg hu]; exact hi.mem i
theorem Le.namedR {t u b n cc o : Nat} (pid i off : Nat) (h1 : look s.fr t = .t (.v (.pointer (some ⟨b, o, none⟩)))) (hp : lookM s.M pid = some (.pin u b n cc)) (ho : o = i * n + off) : Le c s ⟨(t, .ref u i off) :: s.fr, s.M⟩ := by
 subst ho
 rintro a w ⟨F, β, fb, mb, ow, hi⟩
 have h6 := hi.mem pid
 rw [hp] at h6
 have hr := hi.fr t
 rw [h1] at hr
 have e1 := A6 hr
 have hf : fb t = [] := hr.free1 rfl
 refine ⟨F, β, fb, mb, ow, { hi with fr := fun v => ?_ }⟩;simp only [look];split
 ·rename_i e
  subst e;rw [e1, hf];exact RelD.ref (w := w) (F := F) (β := β) (i := i) (off := off) h6.1 RelD.done
 ·exact hi.fr v
theorem Le.rowV {id b n cap : Nat} {xs : List T} (hM : lookM s.M id = some (.row b cap n xs)) : Le c s ⟨s.fr, (id, .rawV [.slice (some ⟨b, 0, none⟩) xs.length cap] [.list n xs]) :: s.M⟩ := by
 rintro a w ⟨F, β, fb, mb, ow, hi⟩
 have hm := hi.mem id
 rw [hM] at hm;refine ⟨F, β, fb, mb, ow, { hi with mem := fun i => ?_ }⟩;simp only [lookM]
 by_cases hu : id = i
 ·subst hu
  rw [if_pos rfl]
  obtain ⟨arr, e, bs, q1, q2, q3, q4, q5, q6, q7⟩ := hm
  have := OwnL.list (vs := []) (ts := []) (bs' := []) q1 q2 rfl q3 q4 q5 q6 .nil
  show OwnL w _ _ _;rw [q7]
  simpa using this
 ·rw [if_neg hu]; exact hi.mem i
theorem QT {l : List Oper} {id n : Nat} {v : Value} {xs : List T} (hM : lookM s.M id = some (.rawV [v] [.list n xs])) (hx : xs ≠ [])
  (k : ∀ b cap : Nat, v = .slice (some ⟨b, 0, none⟩) xs.length cap → xs.length ≤ cap → WO P c ops l ⟨s.fr, (id, .row b cap n xs) :: s.M⟩ Q) : WO P c ops l s Q := by
 intro a w hi0
 have hi00 := hi0
 obtain ⟨F, β, fb, mb, ow, hi⟩ := hi00
 have hm := hi.mem id
 rw [hM] at hm
 have key : ∃ b cap, v = .slice (some ⟨b, 0, none⟩) xs.length cap ∧ xs.length ≤ cap ∧ RelB w F β id (.row b cap n xs) (mb id) := by
  have hm' : OwnL w [v] [.list n xs] (mb id) := hm
  generalize mb id = m at hm'
  cases hm' with
  | none q => exact absurd rfl hx
  | list q1 q2 q3 q4 q5 q6 q7 q8 =>
   cases q8;exact ⟨_, _, rfl, q5, _, _, _, q1, q2, q4, q5, q6, by rw [q3]; exact q7, by simp⟩
 obtain ⟨b, cap, e, hc, hr⟩ := key
 refine k b cap e hc a w ⟨F, β, fb, mb, ow, { hi with mem := fun i => ?_ }⟩;simp only [lookM]
 by_cases hu : id = i
 ·subst hu; rw [if_pos rfl]; exact hr
 ·rw [if_neg hu]; exact hi.mem i
theorem Dq {x : Code} {id n : Nat} {v : Value} {xs : List T} (hM : lookM s.M id = some (.rawV [v] [.list n xs])) (hx : xs ≠ [])
  (k : ∀ b cap : Nat, v = .slice (some ⟨b, 0, none⟩) xs.length cap → xs.length ≤ cap → W P c x ⟨s.fr, (id, .row b cap n xs) :: s.M⟩ Q) : W P c x s Q := by
 intro a w hi
 obtain ⟨s', h1, b, cap, e, hl, rfl⟩ := QT (P := P) (ops := #[]) (l := []) (Q := fun _ s' => ∃ b cap : Nat, v = .slice (some ⟨b, 0, none⟩) xs.length cap ∧ xs.length ≤ cap ∧ s' = ⟨s.fr, (id, .row b cap n xs) :: s.M⟩) hM hx (fun b cap e hl => Nr ⟨b, cap, e, hl, rfl⟩) a w hi
 exact k b cap e hl a w h1
theorem Le.rowTake {id b n cap : Nat} {xs : List T} (k : Nat) (hM : lookM s.M id = some (.row b cap n xs)) : Le c s ⟨s.fr, (id, .row b cap n (xs.take k)) :: s.M⟩ := by
 rintro a w ⟨F, β, fb, mb, ow, hi⟩
 have hm := hi.mem id
 rw [hM] at hm
 obtain ⟨arr, e, bs, q1, q2, q3, q4, q5, q6, q7⟩ := hm
 have hnd := hi.nmem id
 rw [q7] at hnd
 have hfl : (xs.flatMap T.cells).length = xs.length * n := Ar q3
 have hx : xs.flatMap T.cells = (xs.take k).flatMap T.cells ++ (xs.drop k).flatMap T.cells := by rw [← RX, RU]
 have hl1 : ((xs.take k).flatMap T.cells).length = (xs.take k).length * n := Ar fun x hx => q3 x (Q7 hx)
 have hle : (xs.take k).length ≤ xs.length := by rw [Qk]; omega
 have hmul := RG n hle
 obtain ⟨b1, b2, g4, g2, _⟩ := OwnL.split ((xs.take k).length * n) q6
 have e9 : (xs.flatMap T.cells).take ((xs.take k).length * n) = (xs.take k).flatMap T.cells := by rw [hx, ← hl1]; exact List.take_left
 rw [List.take_take, RS hmul, e9] at g2;refine ⟨F, β, fb, fun i => if i = id then b :: b1 else mb i, ow, { hi with mem := ?_, omem := ?_, nmem := ?_ }⟩
 ·intro i
  simp only [lookM]
  by_cases hu : id = i
  ·subst hu
   rw [if_pos rfl, if_pos rfl];exact ⟨arr, e, b1, q1, q2, fun x hx => q3 x (Q7 hx), by omega, q5, g2, rfl⟩
  ·rw [if_neg hu, if_neg (fun e => hu e.symm)]
   exact hi.mem i
 ·intro i x hx'
  by_cases hu : i = id
  ·subst hu
   rw [if_pos rfl] at hx';refine hi.omem _ x ?_;rw [q7, g4]
   rcases Qn.1 hx' with rfl | h
   ·simp
   ·simp [h]
  ·rw [if_neg hu] at hx'
   exact hi.omem i x hx'
 ·intro i
  by_cases hu : i = id
  ·subst hu
   rw [if_pos rfl];rw [g4] at hnd
   obtain ⟨n1, n2⟩ := Qm.1 hnd
   obtain ⟨n3, n4, n5⟩ := Qh.1 n2
   exact Qm.2 ⟨fun h => n1 (by simp [h]), n3⟩
  ·rw [if_neg hu]
   exact hi.nmem i
end
end Go.Eng
end
section
/- Calls that are lent memory and leave it as it was: in regions of open order, too; and where the answer is a place in a named list. -/
namespace Go.Eng
open Go.RowKit
section
variable {P : Program} {c : Ctx} {s : St} {ops : Array Oper} {rest : List Oper} {o : Oper}
theorem I4 {ids : List Nat} {ks : List Blk} {u : Nat} (h : u ∈ (ids.zip ks).map (·.1)) : u ∈ ids := by
 obtain ⟨p, hp, rfl⟩ := RB.1 h
 exact (List.of_mem_zip (a := p.1) (b := p.2) hp).1
inductive OpenAs (A : List Nat) (M : List (Nat × Blk)) (i : Nat) : Blk → Prop
 | same {k : Blk} : lookM M i = some k → k.shut = true → OpenAs A M i k
 | box {cells : List D} {b n : Nat} (pid : Nat) : lookM M i = some (.box cells) → lookM M pid = some (.pin i b n 1) → cells.length = n → D.noImm.noImmL cells = true → A.contains pid = false → OpenAs A M i (.obox (.pointer (some ⟨b, 0, none⟩)) cells)
 | row {b n cap : Nat} {xs : List T} (pid : Nat) : lookM M i = some (.L n xs) → lookM M pid = some (.pin i b n cap) → A.contains pid = false → OpenAs A M i (.row b cap n xs)
def LookMo (A : List Nat) (M : List (Nat × Blk)) : List Nat → List Blk → Prop
 | [], [] => True
 | i :: ids, k :: ks => OpenAs A M i k ∧ LookMo A M ids ks
 | _, _ => False
theorem LookMo.len {A : List Nat} {M : List (Nat × Blk)} : ∀ {ids : List Nat} {ks : List Blk}, LookMo A M ids ks → ids.length = ks.length
 | [], [], _ => rfl
 | [], _ :: _, h => h.elim
 | _ :: _, [], h => h.elim
 | _ :: ids, _ :: ks, h => by rw [Q1, Q1, LookMo.len h.2]
theorem LookMo.at {A : List Nat} {M : List (Nat × Blk)} : ∀ {ids : List Nat} {ks : List Blk}, LookMo A M ids ks → ∀ p, p ∈ ids.zip ks → OpenAs A M p.1 p.2
 | [], [], _, p, hp => by simp at hp
 | [], _ :: _, h, _, _ => h.elim
 | _ :: _, [], h, _, _ => h.elim
 | i :: ids, k :: ks, h, p, hp => by
  rw [List.zip_cons_cons] at hp
  rcases Qn.1 hp with rfl | hp
  ·exact h.1
  ·exact h.2.at p hp
theorem OpenAs.up {A : List Nat} {M M' : List (Nat × Blk)} (hM : ∀ id k, lookM M id = some k → lookM M' id = some k) {i : Nat} {k : Blk} (h : OpenAs A M i k) : OpenAs A M' i k := by
 cases h with
 | same h1 h2 => exact .same (hM _ _ h1) h2
 | box pid h1 h2 h3 h4 h5 => exact .box pid (hM _ _ h1) (hM _ _ h2) h3 h4 h5
 | row pid h1 h2 h5 => exact .row pid (hM _ _ h1) (hM _ _ h2) h5
theorem LookMo.up {A : List Nat} {M M' : List (Nat × Blk)} (hM : ∀ id k, lookM M id = some k → lookM M' id = some k) : ∀ {ids : List Nat} {ks : List Blk}, LookMo A M ids ks → LookMo A M' ids ks
 | [], [], _ => trivial
 | [], _ :: _, h => h.elim
 | _ :: _, [], h => h.elim
 | _ :: _, _ :: _, h => ⟨h.1.up hM, h.2.up hM⟩
theorem OpenAs.shut {A : List Nat} {M : List (Nat × Blk)} {i : Nat} {k : Blk} (h : OpenAs A M i k) : k.shut = true := by
 cases h with
 | same h1 h2 => exact h2
 | box pid h1 h2 h3 h4 h5 => exact h4
 | row pid h1 h2 h5 => rfl
theorem LL {A : List Nat} {M : List (Nat × Blk)} {ids : List Nat} {ks : List Blk} (h : LookMo A M ids ks) (hnd : ids.Nodup) : LookMs (ids.zip ks ++ M) ids ks := by
 have key : ∀ (pre : List (Nat × Blk)) (ids : List Nat) (ks : List Blk), (∀ i, i ∈ ids → i ∉ pre.map (·.1)) → ids.Nodup → LookMo A M ids ks → LookMs (pre ++ (ids.zip ks ++ M)) ids ks := by
  intro pre ids
  induction ids generalizing pre with
  | nil =>
   intro ks h1 h2 h
   cases ks with
   | nil => trivial
   | cons k ks => exact h.elim
  | cons i ids ih =>
   intro ks h1 h2 h
   cases ks with
   | nil => exact h.elim
   | cons k ks =>
    obtain ⟨n1, n2⟩ := Qm.1 h2
    refine ⟨?_, h.1.shut, ?_⟩
    ·have hl : ∀ (pre : List (Nat × Blk)), i ∉ pre.map (·.1) → ∀ L, lookM (pre ++ (i, k) :: L) i = some k := by
      intro pre hp L
      induction pre with
      | nil => simp [lookM]
      | cons q pre ihp =>
       simp only [RA, Qn, not_or] at hp;rw [RE, lookM, if_neg (fun e => hp.1 e.symm)];exact ihp hp.2
     rw [List.zip_cons_cons, RE];exact hl pre (h1 i (by simp)) _
    ·have := ih (pre ++ [(i, k)]) ks (fun j hj => by
      simp only [List.map_append, Qg, RA, List.map_nil, Qw, not_or]
      exact ⟨h1 j (by simp [hj]), fun e => n1 (e ▸ hj)⟩) n2 h.2
     simpa using this
 exact key [] ids ks (by simp) hnd h
theorem CN {M : List (Nat × Blk)} {u : Nat} : ∀ {pre : List (Nat × Blk)}, u ∉ pre.map (·.1) → lookM (pre ++ M) u = lookM M u
 | [], _ => rfl
 | q :: pre, h => by
  simp only [RA, Qn, not_or] at h;rw [RE, lookM, if_neg (fun e => h.1 e.symm)];exact CN h.2
theorem EK {M : List (Nat × Blk)} {u : Nat} : ∀ {pre : List (Nat × Blk)}, u ∈ pre.map (·.1) → ∃ k, (u, k) ∈ pre ∧ lookM (pre ++ M) u = some k
 | [], h => by simp at h
 | q :: pre, h => by
  by_cases e : q.1 = u
  ·subst e
   exact ⟨q.2, by simp, by rw [RE, lookM, if_pos rfl]⟩
  ·simp only [RA, Qn] at h
   obtain ⟨k, h1, h2⟩ := EK (h.resolve_left (fun h => e h.symm))
   exact ⟨k, by simp [h1], by rw [RE, lookM, if_neg e]; exact h2⟩
theorem Le.closeAll {ids : List Nat} {ks : List Blk} (h : LookMo ids s.M ids ks) : Le c s ⟨s.fr, ids.zip ks ++ s.M⟩ := by
 rintro a w ⟨F, β, fb, mb, ow, hi⟩
 refine ⟨F, β, fb, mb, ow, { hi with mem := fun i => ?_ }⟩;dsimp only
 by_cases hin : i ∈ (ids.zip ks).map (·.1)
 ·obtain ⟨k, h1, h2⟩ := EK (M := s.M) hin
  rw [h2]
  have hm := hi.mem i
  cases h.at _ h1 with
  | same g1 g2 => rw [show lookM s.M i = some k from g1] at hm; exact hm
  | box pid g1 g2 g3 g4 g5 =>
   have h6 := hi.mem pid
   rw [show lookM s.M pid = _ from g2] at h6;rw [show lookM s.M i = _ from g1] at hm
   obtain ⟨b', arr, e, bs', q1, q2, q3, q4, q5⟩ := hm
   rw [h6.1] at q1;cases q1;exact .inr ⟨_, arr, e, bs', rfl, q2, q3.noImm g4, q4, q5⟩
  | row pid g1 g2 g5 =>
   have h6 := hi.mem pid
   rw [show lookM s.M pid = _ from g2] at h6;rw [show lookM s.M i = _ from g1] at hm
   rcases hm with ⟨q, _⟩ | ⟨b', cap', arr, e, bs, q0, q1, q2, q3, q4, q5, q6, q7⟩
   ·rw [h6.1] at q; cases q
   ·rw [h6.1] at q0
    cases q0;exact ⟨arr, e, bs, q1, q2, q3, q4, q5, q6, q7⟩
 ·rw [CN hin]; exact hi.mem i
theorem Le.openAll {fr : List (Nat × D)} {M : List (Nat × Blk)} {ids : List Nat} {ks : List Blk} (h : LookMo ids M ids ks) : Le c ⟨fr, ids.zip ks ++ M⟩ ⟨fr, M⟩ := by
 rintro a w ⟨F, β, fb, mb, ow, hi⟩
 refine ⟨F, β, fb, mb, ow, { hi with mem := fun i => ?_ }⟩;dsimp only
 have hm := hi.mem i
 dsimp only at hm
 by_cases hin : i ∈ (ids.zip ks).map (·.1)
 ·obtain ⟨k, h1, h2⟩ := EK (M := M) hin
  rw [h2] at hm
  cases h.at _ h1 with
  | same g1 g2 => rw [show lookM M i = some k from g1]; exact hm
  | box pid g1 g2 g3 g4 g5 =>
   have h6 := hi.mem pid
   dsimp only at h6;rw [CN (fun e => by have := I4 e; simp at g5; exact g5 this), show lookM M pid = _ from g2] at h6;rw [show lookM M i = _ from g1]
   rcases hm with ⟨q, _⟩ | ⟨b', arr, e, bs', q1, q2, q3, q4, q5⟩
   ·cases q
   ·cases q1
    exact ⟨_, arr, e, bs', by rw [g3]; exact h6.1, q2, q3.noImm g4, q4, q5⟩
  | row pid g1 g2 g5 =>
   have h6 := hi.mem pid
   dsimp only at h6;rw [CN (fun e => by have := I4 e; simp at g5; exact g5 this), show lookM M pid = _ from g2] at h6;rw [show lookM M i = _ from g1]
   obtain ⟨arr, e, bs, q1, q2, q3, q4, q5, q6, q7⟩ := hm
   exact .inr ⟨_, _, arr, e, bs, h6.1, q1, q2, q3, q4, q5, q6, q7⟩
 ·rw [CN hin] at hm; exact hm
theorem ResP.pinR {ids : List Nat} {id i off b n cc p : Nat} {ds es : List D} (pid : Nat) (h : lookM s.M pid = some (.pin id b n cc)) (hp : p = i * n + off) (k : ResP s ids ds es) : ResP s ids (.ref id i off :: ds) (.t (.v (.pointer (some ⟨b, p, none⟩))) :: es) := by
 subst hp; exact .pin pid h k
theorem GR {M : List (Nat × Blk)} : ∀ {ids : List Nat} {ks : List Blk}, LookMs M ids ks → ∀ u, lookM (ids.zip ks ++ M) u = lookM M u
 | [], [], _, u => rfl
 | [], _ :: _, h, _ => h.elim
 | _ :: _, [], h, _ => h.elim
 | i :: ids, k :: ks, h, u => by
  rw [List.zip_cons_cons, RE, lookM]
  by_cases hu : i = u
  ·subst hu; rw [if_pos rfl]; exact h.1.symm
  ·rw [if_neg hu]; exact GR h.2.2 u
theorem OX {A : List Nat} {ids : List Nat} {ks : List Blk} (hM : LookMo A s.M ids ks) {ds es : List D} (h : ResP s ids ds es) : ResP ⟨s.fr, ids.zip ks ++ s.M⟩ ids ds es := by
 have hno : ∀ {id : Nat} {k : Blk}, lookM s.M id = some k → (id ∉ (ids.zip ks).map (·.1)) → lookM (ids.zip ks ++ s.M) id = some k := fun h1 h2 => by rw [CN h2]; exact h1
 induction h with
 | done => exact .done
 | t _ ih => exact .t ih
 | nil n _ ih => exact .nil n ih
 | nil' _ ih => exact .nil' ih
 | own _ ih => exact .own ih
 | sl h1 h2 h3 _ ih =>
  refine .sl (hno h1 fun e => ?_) h2 h3 ih
  have := I4 e
  simp at h2
  exact h2 this
 | pin pid h1 _ ih =>
  refine .pin pid (hno h1 fun e => ?_) ih
  obtain ⟨kk, g1, g2⟩ := EK (M := s.M) e
  cases hM.at _ g1 with
  | same q1 q2 => rw [h1] at q1; cases q1; simp [Blk.shut] at q2
  | box pid' q1 q2 q3 q4 q5 => rw [h1] at q1; cases q1
  | row pid' q1 q2 q5 => rw [h1] at q1; cases q1
 | agg _ _ ih1 ih2 => exact .agg ih1 ih2
 | aggT _ _ ih1 ih2 => exact .aggT ih1 ih2
 | top _ ih => exact .top ih
theorem DT {Q : Exit → St → Prop} {t rid : Nat} {fo : Operand} {args : Array Operand} {tys : Array TypeId} {f : FuncId} {es : List D} {rv : List Value} {rt : List T} {ks : List Blk} {r : D} (ids : List Nat) (hg : o.guard = none) (hd : o.dst = some t) (ht : t < c.n)
  (ho : o.op = .call { callee := .value fo, args := args, argTypes := tys }) (hf : opd s.fr fo = .clo f []) (hes : ResP s ids (args.toList.map (opd s.fr)) es) (hro : lookM s.M rid = some (.ro rv rt)) (hM : LookMo ids s.M ids ks) (hnd : ids.Nodup)
  (hm : Proc P f es rv rt ks r ks) (hr : r.noImm = true) (hks : ks.all Blk.shut = true)
  (k : WO P c ops rest ⟨(t, r) :: s.fr, s.M⟩ Q) : WO P c ops (o :: rest) s Q := by
 refine WO_le (Le.closeAll hM) ?_
 have hzk : LookMs (ids.zip ks ++ s.M) ids ks := LL hM hnd
 have hrid : rid ∉ (ids.zip ks).map (·.1) := fun h => by
  obtain ⟨kk, h1, h2⟩ := EK (M := s.M) h
  cases hM.at _ h1 with
  | same g1 g2 => rw [hro] at g1; cases g1; simp [Blk.shut] at g2
  | box pid g1 g2 g3 g4 g5 => rw [hro] at g1; cases g1
  | row pid g1 g2 g5 => rw [hro] at g1; cases g1
 refine AK ids hg hd ht ho hf (OX hM hes) (by rw [CN hrid]; exact hro) hzk hnd hm hr hM.len hks ?_;refine WO_le (Le.of (s' := ⟨(t, r) :: s.fr, ids.zip ks ++ s.M⟩) (fun u => .inl rfl) (fun u => .inl ?_)) (WO_le (Le.openAll hM) k);exact (GR hzk u).symm
theorem AQ {Q : Exit → St → Prop} {t rid : Nat} {fo : Operand} {args : Array Operand} {tys : Array TypeId} {f : FuncId} {es : List D} {rv : List Value} {rt : List T} {ks : List Blk} {u b n cc p : Nat} (ids : List Nat) (pid i : Nat) (hg : o.guard = none) (hd : o.dst = some t) (ht : t < c.n)
  (ho : o.op = .call { callee := .value fo, args := args, argTypes := tys }) (hf : opd s.fr fo = .clo f []) (hes : ResP s ids (args.toList.map (opd s.fr)) es) (hro : lookM s.M rid = some (.ro rv rt)) (hM : LookMo ids s.M ids ks) (hnd : ids.Nodup)
  (hm : Proc P f es rv rt ks (.t (.v (.pointer (some ⟨b, p, none⟩)))) ks) (hks : ks.all Blk.shut = true) (hp : lookM s.M pid = some (.pin u b n cc)) (hpo : p = i * n + 0)
  (k : WO P c ops rest ⟨(t, .ref u i 0) :: s.fr, s.M⟩ Q) : WO P c ops (o :: rest) s Q := by
 refine DT ids hg hd ht ho hf hes hro hM hnd hm rfl hks ?_;refine WO_le (Le.namedR (t := t) pid i 0 (by simp [look]) hp hpo) ?_;refine WO_le (Le.of (s' := ⟨(t, .ref u i 0) :: s.fr, s.M⟩) (fun v => .inl ?_) (fun v => .inl rfl)) k;simp only [look]
 split <;> rfl
theorem Lt {Q : St → Prop} {t rid : Nat} {fo : Operand} {args : Array Operand} {tys : Array TypeId} {f : FuncId} {es : List D} {rv : List Value} {rt : List T} {ks : List Blk} {u b n cc p : Nat} (ids : List Nat) (pid i : Nat) (hg : o.guard = none) (hd : o.dst = some t) (ht : t < c.n)
  (ho : o.op = .call { callee := .value fo, args := args, argTypes := tys }) (hf : opd s.fr fo = .clo f []) (hes : ResP s ids (args.toList.map (opd s.fr)) es) (hro : lookM s.M rid = some (.ro rv rt)) (hM : LookMo ids s.M ids ks) (hnd : ids.Nodup)
  (hm : Proc P f es rv rt ks (.t (.v (.pointer (some ⟨b, p, none⟩)))) ks) (hks : ks.all Blk.shut = true) (hp : lookM s.M pid = some (.pin u b n cc)) (hpo : p = i * n + 0)
  (k : QL P c ops rest ⟨(t, .ref u i 0) :: s.fr, s.M⟩ Q) : QL P c ops (o :: rest) s Q :=
 ⟨t, .ref u i 0, hd, fun s' ha Q h => by
  have e1 : opd s'.fr fo = opd s.fr fo := ha.opd (by rw [ho]; simp [Op.operands, Call.operands])
  have e2 : args.toList.map (opd s'.fr) = args.toList.map (opd s.fr) := ha.opds fun x hx => by
   rw [ho];simp only [Op.operands, Call.operands, Array.mem_append];exact .inr (by simpa using hx)
  have hup : ∀ id k, lookM s.M id = some k → lookM s'.M id = some k := fun id k h => by rw [ha.1]; exact h
  exact AQ ids pid i hg hd ht ho (by rw [e1]; exact hf) (by rw [e2]; exact (show ResP ⟨s.fr, s.M⟩ ids _ es from hes).up hup) (hup _ _ hro) (hM.up hup) hnd hm hks (hup _ _ hp) hpo h, k⟩
variable {M0 : List (Nat × Blk)} {acc : List Dl}
theorem Lv {Q : St → List Dl → Prop} {t rid : Nat} {fo : Operand} {args : Array Operand} {tys : Array TypeId} {f : FuncId} {es : List D} {rv : List Value} {rt : List T} {ks : List Blk} {u b n cc p : Nat} (ids : List Nat) (pid i : Nat) (hg : o.guard = none) (hd : o.dst = some t) (ht : t < c.n)
  (ho : o.op = .call { callee := .value fo, args := args, argTypes := tys }) (hf : opd s.fr fo = .clo f []) (hes : ResP ⟨s.fr, M0⟩ ids (args.toList.map (opd s.fr)) es) (hro : lookM M0 rid = some (.ro rv rt)) (hM : LookMo ids M0 ids ks) (hnd : ids.Nodup)
  (hm : Proc P f es rv rt ks (.t (.v (.pointer (some ⟨b, p, none⟩)))) ks) (hks : ks.all Blk.shut = true) (hp : lookM M0 pid = some (.pin u b n cc)) (hpo : p = i * n + 0)
  (k : QG P c ops M0 rest ⟨(t, .ref u i 0) :: s.fr, s.M⟩ (acc ++ [pl t (.ref u i 0)]) Q) : QG P c ops M0 (o :: rest) s acc Q :=
 ⟨pl t (.ref u i 0), hd, fun s' ha _ Q h => by
  have e1 : opd s'.fr fo = opd s.fr fo := ha.opd (by rw [ho]; simp [Op.operands, Call.operands])
  have e2 : args.toList.map (opd s'.fr) = args.toList.map (opd s.fr) := ha.opds fun x hx => by
   rw [ho];simp only [Op.operands, Call.operands, Array.mem_append];exact .inr (by simpa using hx)
  exact AQ ids pid i hg hd ht ho (by rw [e1]; exact hf) (by rw [e2]; exact hes.up ha.1) (ha.1 _ _ hro) (hM.up ha.1) hnd hm hks (ha.1 _ _ hp) hpo h, k⟩
end
theorem GN {w : World} {F : Nat → Prop} {β : A2} : ∀ {vs : List Value}, vs.all (·.oneCell') = true → RelD w F β vs (vs.map fun v => D.t (.v v)) []
 | [], _ => .done
 | v :: vs, h => by
  rw [RH, Qd] at h;exact .t (.v h.1 .nil) (GN h.2)
theorem KC {w : World} {F : Nat → Prop} {β : A2} : ∀ {us vs : List Value} {bs : List Nat}, RelD w F β us (vs.map fun v => D.t (.v v)) bs → us = vs ∧ bs = []
 | us, [], bs, h => by cases h; exact ⟨rfl, rfl⟩
 | us, v :: vs, bs, h => by
  rw [RA] at h
  cases h with
  | t h1 h2 =>
   obtain ⟨rfl, rfl⟩ := KC h2
   cases h1 with
   | v q1 q2 => exact ⟨rfl, rfl⟩
theorem Proc.frame {P : Program} {f : FuncId} {ds : List D} {rv : List Value} {rt : List T} {ks ks' : List Blk} {r : D} {pv u : Value} {n j : Nat} {cells : List D} (hc : cells[j]? = some (.t (.v u))) (hn : cells.length = n) (hno : D.noImm.noImmL cells = true)
  (h : ∀ vs : List Value, vs.length = n → vs[j]? = some u → Proc P f ds rv rt (.obox pv (vs.map fun v => D.t (.v v)) :: ks) r (.obox pv (vs.map fun v => D.t (.v v)) :: ks')) (hcall : DF P f) (hpv : pv ≠ .pointer none) :
  Proc P f ds rv rt (.obox pv cells :: ks) r (.obox pv cells :: ks') := by
 refine ⟨hcall, fun w F args bs hF hargs hro hms hnd hbs => ?_⟩
 obtain ⟨b1, b2, hm, hks, rfl⟩ := hms
 rcases hm with ⟨q, _⟩ | ⟨b, arr, e, bs', q1, q2, q3, q4, rfl⟩
 ·exact absurd q hpv
 have hlen : arr.toList.length = n := by rw [q3.length, hn]
 obtain ⟨v, c1, c2, c3, hb, g1, gv, g2⟩ := CF j q3 hc
 have hvu : v = u := by
  cases g1 with
  | t g1 _ =>
   cases g1 with
   | v _ _ => rfl
 subst hvu
 have hnd2 : (b :: b2).Nodup := by
  rw [RE, Qm] at hnd
  obtain ⟨n1, n2⟩ := hnd
  exact Qm.2 ⟨fun h => n1 (by simp [h]), (Qh.1 n2).2.1⟩
 refine ((h arr.toList hlen gv).2 w F args (b :: b2) hF hargs hro ⟨[b], b2, .inr ⟨b, arr, e, [], q1, q2, GN q4, q4, rfl⟩, hks, rfl⟩ hnd2 (fun x hx => hbs x (by rcases Qn.1 hx with rfl | hx <;> simp_all))).mono ?_
 rintro e' w' ⟨v', br, bs2, rfl, k1, k2, k3, k4, k5, k6, k7, k8, k9⟩
 obtain ⟨b1', b2', hm', hks', rfl⟩ := k2
 rcases hm' with ⟨q, _⟩ | ⟨b0, arr', e0, bs0, p1, p2, p3, p4, rfl⟩
 ·exact absurd q hpv
 rw [q1] at p1;cases p1
 obtain ⟨harr, rfl⟩ := KC p3
 have hbw : ∀ x, x ∈ bs' → x < w.heap.size ∧ x ≠ b ∧ x ∉ b2 := fun x hx => by
  have := hbs x (by simp [hx])
  rw [RE, Qm] at hnd
  obtain ⟨n1, n2⟩ := hnd
  exact ⟨this.1, fun e => n1 (by rw [← e]; simp [hx]), fun h => (Qh.1 n2).2.2 x hx x h rfl⟩
 refine ⟨v', br, (b :: bs') ++ b2', rfl, k1, ⟨b :: bs', b2', .inr ⟨b, arr', e0, bs', q1, p2, ?_, p4, rfl⟩, hks', rfl⟩, ?_, fun x hx => ?_, k5, k6, k7, k8, fun x hx hn => ?_⟩
 ·rw [harr]
  exact q3.mono (fun _ h => h) (fun _ h => h.elim) (fun x hx => k9 x (hbw x hx).1 (by simp only [Qn, not_or]; exact ⟨(hbw x hx).2.1, (hbw x hx).2.2⟩)) fun _ => rfl
 ·have hk3 := k3
  have hdis : ∀ x, x ∈ bs' → x ∉ br ++ ([b] ++ b2') := fun x hx hin => by
   rcases k4 x (by simpa using hin) with h | h
   ·simp only [Qn] at h
    rcases h with rfl | h
    ·exact (hbw x hx).2.1 rfl
    ·exact (hbw x hx).2.2 h
   ·have := (hbw x hx).1; omega
  have hbs' : bs'.Nodup := by
   rw [RE, Qm] at hnd;exact (Qh.1 hnd.2).1
  simp only [Qh, Qm, RE, Qn, Qg, Qu, List.nil_append] at hk3 hdis ⊢;refine ⟨hk3.1, ⟨fun h => ?_, hbs', hk3.2.1.2, fun x hx y hy e => ?_⟩, fun x hx y hy e => ?_⟩
  ·rcases h with h | h
   ·exact (hbw b h).2.1 rfl
   ·exact hk3.2.1.1 h
  ·subst e; exact hdis x hx (.inr (.inr hy))
  ·subst e
   rcases hy with rfl | hy | hy
   ·exact hk3.2.2 x hx x (.inl rfl) rfl
   ·exact hdis x hy (.inl hx)
   ·exact hk3.2.2 x hx x (.inr hy) rfl
 ·simp only [Qg, Qn] at hx
  rcases hx with hx | (rfl | hx) | hx
  ·rcases k4 x (by simp [hx]) with h | h
   ·left
    simp only [Qn] at h
    rcases h with rfl | h <;> simp_all
   ·exact .inr h
  ·left; simp
  ·left; simp [hx]
  ·rcases k4 x (by simp [hx]) with h | h
   ·left
    simp only [Qn] at h
    rcases h with rfl | h <;> simp_all
   ·exact .inr h
 ·refine k9 x hx fun h => hn ?_
  simp only [Qn] at h
  rcases h with rfl | h <;> simp_all
end Go.Eng
end
section
/- A told header is loaded in a region of open order, and what it leads to is taken along. -/
namespace Go.Eng
open Go.RowKit
section
variable {P : Program} {c : Ctx} {s : St} {ops : Array Oper} {rest : List Oper} {o : Oper}
theorem DV {Q : St → List Dl → Prop} {acc : List Dl} {b : List Nat} {bs : List (List Nat)} {Γ : Tys} (hΓ : Γ.ok P) {t : Nat} {y : T} {v : Value} (idq : Nat) (hg : o.guard = none) (hd : o.dst = some t) (ht : t < c.n)
  (he : evF Γ ⟨s.fr, CI b s.M⟩ o.op = some (.t (.v v))) (hq : lookM (CI b s.M) idq = some (.rawV [v] [y]))
  (k : QH P c ops bs rest ⟨(t, .own y) :: s.fr, (idq, .rawV [] []) :: s.M⟩ (acc ++ [⟨t, .own y, [], [(idq, .rawV [] [])], false⟩]) Q) : QH P c ops (b :: bs) (o :: rest) s acc Q :=
 ⟨⟨t, .own y, [], [(idq, .rawV [] [])], false⟩, fun s' ha _ Q h => by
  refine WO_evF hΓ hg hd ht (Dc ha he) ?_
  have h3 : Le c ⟨(t, .own y) :: (t, .t (.v v)) :: s'.fr, (idq, .rawV [] []) :: s'.M⟩ ⟨(t, .own y) :: s'.fr, (idq, .rawV [] []) :: s'.M⟩ := Le.of (fun u => .inl (by
   show (if t = u then D.own y else look s'.fr u) = if t = u then D.own y else if t = u then _ else look s'.fr u
   split <;> rfl)) (fun u => .inl rfl)
  have h2 : Le c ⟨(t, .t (.v v)) :: s'.fr, s'.M⟩ ⟨(t, .own y) :: (t, .t (.v v)) :: s'.fr, (idq, .rawV [] []) :: s'.M⟩ := Le.ownBack0 (t := t) (id := idq) (v := v) (by show (if t = t then _ else _) = _; rw [if_pos rfl]) (ha.1 _ _ hq)
  exact WO_le (h2.trans h3) h, k⟩
end
end Go.Eng
end
section
/- Regions of open order that write, in which an operation may look at what another one writes, if it reads the same either way. -/
namespace Go.Eng
open Go.RowKit
section
variable {P : Program} {c : Ctx} {s : St}
def QV (P : Program) (c : Ctx) (ops : Array Oper) (V : St → Prop) : List (List Nat) → List Oper → St → List Dl → (St → List Dl → Prop) → Prop
 | _, [], s, acc, Q => Q s acc
 | bs, o :: rest, s, acc, Q => ∃ x : Dl, (∀ s', AgreeG ops o s.fr (CI (bs.headD []) s.M) s' → V s' → (x.b = true → Cl x.t s') → StepTo P c ops o s' (x.on s')) ∧ QV P c ops V bs.tail rest (x.on s) (acc ++ [x]) Q
theorem QV.steps {ops : Array Oper} {V : St → Prop} : ∀ {l : List Oper} {bs : List (List Nat)} {s : St} {acc : List Dl} {Q : St → List Dl → Prop}, QV P c ops V bs l s acc Q → ∃ xs : List Dl, xs.length = l.length ∧ Q (onL xs s) (acc ++ xs) ∧
  ∀ i o, l[i]? = some o → ∃ x, xs[i]? = some x ∧ ∀ s', AgreeG ops o (onL (xs.take i) s).fr (CI (bs.getD i []) (onL (xs.take i) s).M) s' → V s' → (x.b = true → Cl x.t s') → StepTo P c ops o s' (x.on s')
 | [], _, s, acc, Q, h => ⟨[], rfl, by rw [Qu]; exact h, by simp⟩
 | o :: rest, bs, s, acc, Q, h => by
  obtain ⟨x, h2, h3⟩ := h
  obtain ⟨xs, q1, q2, q3⟩ := QV.steps h3
  refine ⟨x :: xs, by simp [q1], by simpa [onL] using q2, fun i o' hi => ?_⟩
  cases i with
  | zero =>
   simp at hi; subst hi
   refine ⟨x, rfl, ?_⟩
   have e : bs.getD 0 [] = bs.headD [] := by cases bs <;> rfl
   rw [e];exact h2
  | succ i =>
   obtain ⟨y, p1, p3⟩ := q3 i o' (by simpa using hi)
   refine ⟨y, by simpa using p1, ?_⟩
   have e : bs.getD (i + 1) [] = bs.tail.getD i [] := by cases bs <;> simp
   rw [e]
   simpa [onL] using p3
variable {Q : Exit → St → Prop}
theorem WR_Vt {l1 l2 : List Oper} {ops : Array Oper} (V : St → Prop) (bads : List (List Nat)) (he : ops = (l1 ++ l2).toArray) (hB : B6 ops l1.length = true) (hT : l2 = [] ∨ Dr ops l1.length = true)
  (h : QV P c ops V bads l1 s [] (fun s' xs => OB ops l1 s xs bads = true ∧ (∀ X, V (mrg xs X s l1.length)) ∧ WO P c ops l2 s' Q)) : WR P c ops s Q := by
 obtain ⟨xs, hlen, ⟨hchk, hV, hend⟩, hstep⟩ := h.steps
 simp only [List.nil_append] at hchk hV
 have hops : ∀ j : Nat, j < l1.length → l1[j]? = ops[j]? := fun j hj => by subst he; rw [List.getElem?_toArray, List.getElem?_append_left hj]
 have hsz : l1.length ≤ ops.size := by subst he; simp
 refine WR_S he hB hT (fun X => mrg xs X s l1.length) (fun X hX => ?_) (fun X i o ho hXi hcl hdep => ?_) (fun X hX => ?_)
 ·rw [BZ (i := 0) (Nat.zero_le _) fun j _ => hX j]
  exact Le.refl
 ·have hil : i < l1.length := (List.getElem?_eq_some_iff.1 ho).1
  obtain ⟨x, hx, hst⟩ := hstep i o ho
  have hoi : ops[i]? = some o := by rw [← hops i hil]; exact ho
  have hlt : ∀ k ok, ops[k]? = some ok → ∀ e, e ∈ ok.after → Region.binds .any e = true → e.on < k := fun k ok hk => Cp hB hk
  have hcl' : ∀ j oj, ops[j]? = some oj → j < l1.length → X j = true → ∀ e, e ∈ oj.after → Region.binds .any e = true → X e.on = true := fun j oj hj hjl hXj => hcl j oj (by rw [hops j hjl]; exact hj) hXj
  -- what is done, and what is not
  have after : ∀ j, rch (DH ops l1.length) i j = true → X j = true := fun j hr => (DY hlt (by omega) hcl' i hil j hr fun oi h' => by rw [hoi] at h'; cases h'; exact hdep).1
  have before : ∀ j, j < l1.length → rch (DH ops l1.length) j i = true → X j = false := fun j hj hr => by
   cases hXj : X j with
   | false => rfl
   | true =>
    have := (DY hlt (by omega) hcl' j hj i hr fun oj h' e he hb => hcl' j oj h' hj hXj e he hb).1
    rw [hXi] at this; cases this
  have hxat : ∀ {j : Nat}, j < l1.length → ∃ oj y, l1[j]? = some oj ∧ xs[j]? = some y := fun {j} hj => by
   have hlj : l1[j]? = some l1[j] := List.getElem?_eq_getElem hj
   obtain ⟨y, hy, _⟩ := hstep j _ hlj
   exact ⟨_, y, hlj, hy⟩
  have apart : ∀ {j : Nat} {y : Dl}, j < l1.length → j ≠ i → xs[j]? = some y → X j ≠ decide (j < i) →
    (∀ u, y.ws.contains u = true → (o.looksAt ops).contains u = false ∧ x.ws.contains u = false) ∧ (∀ p, p ∈ y.M → (bads.getD i []).contains p.1 = true) ∧ (∀ p, p ∈ y.M → inF x.M p.1 = false) := fun {j y} hj hji hy hne => by
   obtain ⟨oj, y', hlj, hy'⟩ := hxat hj
   rw [hy] at hy'; cases hy'
   rcases Nat.lt_or_gt_of_ne hji with h' | h'
   ·have hp := BP hchk h' hlj ho hy hx
    have hnr : rch (DH ops l1.length) i j = false := by
     cases hr : rch (DH ops l1.length) i j with
     | false => rfl
     | true => exact absurd (by rw [after j hr]; simp [h']) hne
    unfold EC at hp;rw [hnr, RI, Qd] at hp
    have hd := hp.1
    unfold QO at hd;simp only [Qd, Ql, Q3] at hd
    obtain ⟨d1, d2, d3, d4⟩ := hd
    refine ⟨fun u hu => ⟨d2 u (by simpa using hu), ?_⟩, fun p hp => d4 p hp, fun p hp => ?_⟩
    ·cases hxu : x.ws.contains u with
     | false => rfl
     | true =>
      have := (d1 u (by simpa using hxu)).2
      rw [hu] at this; cases this
    ·cases hin : inF x.M p.1 with
     | false => rfl
     | true =>
      unfold inF at hin;rw [RK] at hin
      obtain ⟨q, hq1, hq2⟩ := hin
      have := (d3 q hq1).2
      have hin2 : inF y.M q.1 = true := by
       unfold inF;rw [RK];exact ⟨p, hp, by rw [beq_iff_eq] at hq2 ⊢; exact hq2.symm⟩
      rw [hin2] at this; cases this
   ·have hp := BP hchk h' ho hlj hx hy
    have hnr : rch (DH ops l1.length) j i = false := by
     cases hr : rch (DH ops l1.length) j i with
     | false => rfl
     | true => exact absurd (by rw [before j hj hr]; simp; omega) hne
    unfold EC at hp;rw [hnr, RI, Qd] at hp
    have hd := hp.1
    unfold QO at hd;simp only [Qd, Ql, Q3] at hd
    obtain ⟨d1, d2, d3, d4⟩ := hd
    exact ⟨fun u hu => d1 u (by simpa using hu), fun p hp => (d3 p hp).1, fun p hp => (d3 p hp).2⟩
  have hag : AgreeG ops o (onL (xs.take i) s).fr (CI (bads.getD i []) (onL (xs.take i) s).M) (mrg xs X s l1.length) := by
   refine ⟨fun id k hk => ?_, fun u hu => ?_⟩
   ·obtain ⟨hb, hk⟩ := CO hk
    rw [← CB (X := fun j => decide (j < i)) (by omega) (fun j hj => by simpa using hj), ← BZ (X := fun j => decide (j < i)) (i := i) (n := l1.length) (by omega) (fun j hj => by simpa using hj)] at hk;rw [← hk]
    refine HC fun j y hj hy hin => ?_
    by_cases hje : j = i
    ·subst hje; rw [hXi]; simp
    ·refine Classical.byContradiction fun hne => ?_
     have hap := (apart hj hje hy hne).2.1
     unfold inF at hin;rw [RK] at hin
     obtain ⟨p, hp1, hp2⟩ := hin
     have := hap p hp1
     rw [show p.1 = id from by simpa using hp2, hb] at this;cases this
   ·rw [← CB (X := fun j => decide (j < i)) (by omega) (fun j hj => by simpa using hj), ← BZ (X := fun j => decide (j < i)) (i := i) (n := l1.length) (by omega) (fun j hj => by simpa using hj)]
    refine EI fun j y hj hy hin => ?_
    by_cases hje : j = i
    ·subst hje; rw [hXi]; simp
    ·refine Classical.byContradiction fun hne => ?_
     have hap := ((apart hj hje hy hne).1 u (by rw [← EL]; exact hin)).1
     rw [List.contains_eq_mem, decide_eq_false_iff_not] at hap;exact hap hu
  have hcl2 : x.b = true → Cl x.t (mrg xs X s l1.length) := fun hb => by
   refine Cl.mrg ?_ fun j y hj hXj hy => ?_
   ·have := Fv hchk hx
    unfold Nd at this;rw [hb] at this;simp only [RY, RI, Qd] at this;exact ⟨Bp this.1, (Ba this.2).1, (Ba this.2).2⟩
   ·have hji : j ≠ i := fun e => by subst e; rw [hXi] at hXj; cases hXj
    obtain ⟨oj, y', hlj, hy'⟩ := hxat hj
    rw [hy] at hy'; cases hy'
    rcases Nat.lt_or_gt_of_ne hji with h' | h'
    ·have hp := BP hchk h' hlj ho hy hx
     unfold EC at hp;rw [hb] at hp;simp only [RY, RI, Qd] at hp;exact hp.2.2
    ·have hp := BP hchk h' ho hlj hx hy
     have hnr : rch (DH ops l1.length) j i = false := by
      cases hr : rch (DH ops l1.length) j i with
      | false => rfl
      | true => rw [before j hj hr] at hXj; cases hXj
     unfold EC at hp;rw [hb, hnr] at hp;simp only [RY, RI, Qd] at hp;exact hp.2.1
  have later : ∀ {j : Nat} {y : Dl}, j < l1.length → i < j → X j = true → xs[j]? = some y → (∀ u, y.ws.contains u = true → x.ws.contains u = false) ∧ ∀ p, p ∈ y.M → inF x.M p.1 = false := fun {j y} hj hij hXj hy => by
   have hap := apart hj (by omega) hy (by rw [hXj]; simp; omega)
   exact ⟨fun u hu => (hap.1 u hu).2, hap.2.2⟩
  intro Q' hQ;refine hst _ hag (hV X) hcl2 Q' (WO_le (Le.of (fun u => .inl ?_) (fun u => .inl ?_)) hQ)
  ·simp only [Dl.on, look_app]
   split
   ·rename_i hu
    refine Cq hx hXi hu hil fun j y hj hij hXj hy => ?_
    cases hin : inF y.fr u with
    | false => rfl
    | true =>
     have := (later hj hij hXj hy).1 u (by rw [← EL]; exact hin)
     rw [← EL, hu] at this; cases this
   ·rename_i hu
    refine EI fun j y hj hy hin => ?_
    have : (j == i) = false := by
     rw [beq_eq_false_iff_ne];intro e; subst e; rw [hx] at hy; cases hy; exact hu hin
    rw [this, RM]
  ·simp only [Dl.on, lookM_app]
   split
   ·rename_i hu
    refine DL hx hXi hu hil fun j y hj hij hXj hy => ?_
    cases hin : inF y.M u with
    | false => rfl
    | true =>
     unfold inF at hin;rw [RK] at hin
     obtain ⟨p, hp1, hp2⟩ := hin
     have := (later hj hij hXj hy).2 p hp1
     rw [show p.1 = u from by simpa using hp2, hu] at this;cases this
   ·rename_i hu
    refine HC fun j y hj hy hin => ?_
    have : (j == i) = false := by
     rw [beq_eq_false_iff_ne];intro e; subst e; rw [hx] at hy; cases hy; exact hu hin
    rw [this, RM]
 ·rw [CB (by omega) hX, Qi (by omega)]
  exact hend
theorem Eu {id : Nat} {ops : Array Oper} (m : Nat) (V : St → Prop) (bads : List (List Nat)) (hm : P.follows .mixedOrders = true) (hl : (ops.toList.take m).length = m) (hB : B6 ops m = true) (hT : Dr ops m = true)
  (h : QV P c ops V bads (ops.toList.take m) s [] (fun s' xs => OB ops (ops.toList.take m) s xs bads = true ∧ (∀ X, V (mrg xs X s (ops.toList.take m).length)) ∧ WO P c ops (ops.toList.drop m) s' Q)) : W P c (.region id ops true) s Q :=
 He hm (WR_Vt (l1 := ops.toList.take m) (l2 := ops.toList.drop m) V bads (by simp) (by rw [hl]; exact hB) (.inr (by rw [hl]; exact hT)) h)
variable {ops : Array Oper} {rest : List Oper} {o : Oper} {V : St → Prop}
theorem N0 {Q : St → List Dl → Prop} {acc : List Dl} {bs : List (List Nat)} (h : Q s acc) : QV P c ops V bs [] s acc Q := h
theorem QV_H {Q : St → List Dl → Prop} {acc : List Dl} {b : List Nat} {bs : List (List Nat)} (h : QH P c ops [b] [o] s acc (fun s' acc' => QV P c ops V bs rest s' acc' Q)) : QV P c ops V (b :: bs) (o :: rest) s acc Q := by
 obtain ⟨x, h1, h2⟩ := h
 exact ⟨x, fun s' a _ d => h1 s' a d, h2⟩
def L0 (id : Nat) (k1 : Blk) : List Dl → Prop
 | [] => True
 | x :: xs => (∀ p, p ∈ x.M → p.1 = id → p.2 = k1) ∧ L0 id k1 xs
theorem Hn {id : Nat} {k1 : Blk} : ∀ {xs : List Dl}, L0 id k1 xs → ∀ {j : Nat} {x : Dl}, xs[j]? = some x → ∀ p, p ∈ x.M → p.1 = id → p.2 = k1
 | [], _, _, _, h => by simp at h
 | y :: ys, h, 0, x, hx => by simp at hx; subst hx; exact h.1
 | y :: ys, h, j + 1, x, hx => Hn h.2 (by simpa using hx)
theorem IR {id : Nat} {k : Blk} : ∀ {M : List (Nat × Blk)}, lookM M id = some k → (id, k) ∈ M
 | [], h => by cases h
 | (j, k0) :: M, h => by
  rw [lookM] at h;split at h
  ·rename_i e; subst e; cases h; simp
  ·exact Qy _ (IR h)
theorem HB {id : Nat} {k0 k1 : Blk} {xs : List Dl} (h0 : lookM s.M id = some k0) (h : L0 id k1 xs) (X : Nat → Bool) : ∀ n, lookM (mrg xs X s n).M id = some k0 ∨ lookM (mrg xs X s n).M id = some k1
 | 0 => .inl h0
 | n + 1 => by
  have ih := HB h0 h X n
  rw [mrg];split
  ·rename_i x hx
   split
   ·simp only [Dl.on, lookM_app]
    split
    ·rename_i hin
     right
     have : ∃ k, lookM x.M id = some k := by
      clear ih
      revert hin
      generalize x.M = M
      induction M with
      | nil => intro h; simp [inF] at h
      | cons p M ih =>
       intro h
       obtain ⟨j, k⟩ := p
       rw [lookM]
       by_cases e : j = id
       ·exact ⟨k, by rw [if_pos e]⟩
       ·rw [if_neg e]
        refine ih ?_
        simpa [inF, e] using h
     obtain ⟨k, hk⟩ := this
     have hkk : k = k1 := Hn h hx (id, k) (IR hk) rfl
     rw [hk, hkk]
    ·exact ih
   ·exact ih
  ·exact ih
theorem Ge {Γ : Tys} (hΓ : Γ.ok P) {ty t id i off n b cap : Nat} {x : Operand} {ti : TI} {xs : List T} {y : T} {d : D} (pid : Nat) (hg : o.guard = none) (hd : o.dst = some t) (ht : t < c.n) (ho : o.op = .load ty x)
  (h1 : A3 Γ ty = some ti) (hx : opd s.fr x = .ref id i off) (hM : lookM s.M id = some (.row b cap n xs)) (hp : lookM s.M pid = some (.pin id b n cap)) (hne : (pid == id) = false) (hy : xs[i]? = some y) (hpd : Ej ti.kind ti.size (y.cells.map OT) off = some d)
  (k : WO P c ops rest ⟨(t, d) :: s.fr, s.M⟩ Q) : WO P c ops (o :: rest) s Q := by
 have hne' : ¬ pid = id := by simpa using hne
 refine WO_le (Le.openR (u := id) pid hM hp) ?_;refine AG (n := n) (xs := xs) hΓ hg hd ht ho h1 hx (by simp [lookM]) hy hpd ?_;refine WO_le (Le.closeR (u := id) (b := b) (cap := cap) (n := n) (xs := xs) pid (by simp [lookM]) (by simp only [lookM]; rw [if_neg (fun e => hne' e.symm)]; exact hp)) ?_;refine WO_le (Le.of (s' := ⟨(t, d) :: s.fr, s.M⟩) (fun u => .inl rfl) (fun u => .inl ?_)) k;simp only [lookM]
 by_cases e : id = u
 ·subst e; simp [hM]
 ·simp [e]
theorem Gg {Q : St → List Dl → Prop} {acc : List Dl} {bd : List Nat} {bs : List (List Nat)} {Γ : Tys} (hΓ : Γ.ok P) {ty t id i off n b cap id2 b2 m cap2 len : Nat} {x : Operand} {ti : TI} {xs ys : List T} {y z : T} (pid pid2 : Nat) (hg : o.guard = none) (hd : o.dst = some t) (ht : t < c.n) (ho : o.op = .load ty x)
  (h1 : A3 Γ ty = some ti) (hx : opd s.fr x = .ref id i off) (hV : ∀ s', V s' → lookM s'.M id = some (.row b cap n xs) ∨ lookM s'.M id = some (.row b cap n ys)) (hp : lookM (CI bd s.M) pid = some (.pin id b n cap)) (hne : (pid == id) = false)
  (hy : xs[i]? = some y) (hz : ys[i]? = some z) (hpy : Ej ti.kind ti.size (y.cells.map OT) off = some (.t (.v (.slice (some ⟨b2, 0, none⟩) len cap2)))) (hpz : Ej ti.kind ti.size (z.cells.map OT) off = some (.t (.v (.slice (some ⟨b2, 0, none⟩) len cap2))))
  (hp2 : lookM (CI bd s.M) pid2 = some (.pin id2 b2 m cap2)) (hl : len ≤ cap2)
  (k : QV P c ops V bs rest ⟨(t, .sl id2 0 len) :: s.fr, s.M⟩ (acc ++ [pl t (.sl id2 0 len)]) Q) : QV P c ops V (bd :: bs) (o :: rest) s acc Q :=
 ⟨pl t (.sl id2 0 len), fun s' ha hv _ Q h => by
  have hx' : opd s'.fr x = .ref id i off := by rw [ha.opd (by rw [ho]; simp [Op.operands])]; exact hx
  rcases hV s' hv with hM | hM
  ·exact Ge hΓ pid hg hd ht ho h1 hx' hM (ha.1 _ _ hp) hne hy hpy (WO_le (EH pid2 (ha.1 _ _ hp2) hl) h)
  ·exact Ge hΓ pid hg hd ht ho h1 hx' hM (ha.1 _ _ hp) hne hz hpz (WO_le (EH pid2 (ha.1 _ _ hp2) hl) h), k⟩
theorem CA {Q : St → Prop} {Γ : Tys} (hΓ : Γ.ok P) {ty t id i off n id2 b m cap len : Nat} {x : Operand} {ti : TI} {xs : List T} {y : T} (pid : Nat) (hg : o.guard = none) (hd : o.dst = some t) (ht : t < c.n) (ho : o.op = .load ty x)
  (h1 : A3 Γ ty = some ti) (hx : opd s.fr x = .ref id i off) (hM : lookM s.M id = some (.L n xs)) (hy : xs[i]? = some y) (hp : Ej ti.kind ti.size (y.cells.map OT) off = some (.t (.v (.slice (some ⟨b, 0, none⟩) len cap)))) (hpin : lookM s.M pid = some (.pin id2 b m cap)) (hl : len ≤ cap)
  (k : QL P c ops rest ⟨(t, .sl id2 0 len) :: s.fr, s.M⟩ Q) : QL P c ops (o :: rest) s Q :=
 ⟨t, .sl id2 0 len, hd, fun s' ha Q h => AG hΓ hg hd ht ho h1 (by rw [ha.opd (by rw [ho]; simp [Op.operands])]; exact hx) (by rw [ha.1]; exact hM) hy hp (WO_le (EH pid (by rw [ha.1]; exact hpin) hl) h), k⟩
end
end Go.Eng
end
section
/- Structs of told cells, made known; an empty told slice, cut; an empty told list in an element. -/
namespace Go.Eng
open Go.RowKit
section
variable {P : Program} {c : Ctx} {s : St} {ops : Array Oper} {rest : List Oper} {o : Oper}
theorem Kr {t : Nat} {v : Value} {x : T} {rv : List Value} {rt : List T} {s : St} (rid j : Nat) (hp : lookM s.M rid = some (.ro rv rt)) (hv : rv[j]? = some v) (hx : rt[j]? = some x) : Le c ⟨(t, .agg [.t (.v v)]) :: s.fr, s.M⟩ ⟨(t, .t (.agg [x])) :: s.fr, s.M⟩ := by
 rintro a w ⟨F, β, fb, mb, ow, hi⟩
 have h6 := hi.mem rid
 dsimp only at h6;rw [hp] at h6
 obtain ⟨v', g1, g2⟩ := h6.1.get j hx
 rw [hv] at g1;cases g1
 have key : fb t = [] ∧ RelD w F β [a.tmps.getD t undef] [.t (.agg [x])] [] := by
  have hr := hi.fr t
  rw [show look ((t, D.agg [.t (.v v)]) :: s.fr) t = .agg [.t (.v v)] from by simp [look]] at hr;generalize a.tmps.getD t undef = y at hr ⊢;generalize fb t = bs at hr
  cases hr with
  | @agg arr _ _ _ b1 b2 k1 k2 k3 =>
   cases k3;generalize hl : arr.toList = l at k2
   cases k2 with
   | t q1 q2 =>
    cases q2;refine ⟨rfl, .tagg ?_ .done⟩;rw [hl]
    cases q1 with
    | v _ _ => exact g2
 refine ⟨F, β, fb, mb, ow, { hi with fr := fun u => ?_ }⟩
 have hu := hi.fr u
 dsimp only at hu ⊢;simp only [look] at hu ⊢;split
 ·rename_i e
  subst e;rw [key.1]; exact key.2
 ·rename_i e
  rw [if_neg e] at hu;exact hu
theorem Gh {M0 : List (Nat × Blk)} {acc : List Dl} {Q : St → List Dl → Prop} {Γ : Tys} (hΓ : Γ.ok P) {t : Nat} {v : Value} {x : T} {rv : List Value} {rt : List T} (rid j : Nat) (hg : o.guard = none) (hd : o.dst = some t) (ht : t < c.n) (he : evF Γ ⟨s.fr, M0⟩ o.op = some (.agg [.t (.v v)]))
  (hp : lookM M0 rid = some (.ro rv rt)) (hv : rv[j]? = some v) (hx : rt[j]? = some x)
  (k : QG P c ops M0 rest ⟨(t, .t (.agg [x])) :: s.fr, s.M⟩ (acc ++ [pl t (.t (.agg [x]))]) Q) : QG P c ops M0 (o :: rest) s acc Q :=
 ⟨pl t (.t (.agg [x])), hd, fun s' ha _ Q h => WO_evF hΓ hg hd ht (Dc ha he) (WO_le (Kr rid j (ha.1 _ _ hp) hv hx) h), k⟩
theorem Gd {Q : Exit → St → Prop} {Γ : Tys} (hΓ : Γ.ok P) {ty e t cap : Nat} {ad : Option Addr} {x : Operand} {lo hi' : Option Operand} {ti te : TI} {i j : Int} (hg : o.guard = none) (hd : o.dst = some t) (ht : t < c.n) (ho : o.op = .slice ty x lo hi' none)
  (h1 : A3 Γ ty = some ti) (h2 : ti.kind = .slice e) (h3 : A3 Γ e = some te) (hx : opd s.fr x = .t (.v (.slice ad 0 cap))) (hlo : EE s.fr lo 0 = some i) (hhi : EE s.fr hi' (0 : Nat) = some j) (hi0 : i = 0) (hj0 : j = 0)
  (k : WO P c ops rest ⟨(t, .t (.v (.slice ad 0 cap))) :: s.fr, s.M⟩ Q) : WO P c ops (o :: rest) s Q := by
 subst hi0 hj0;refine CE hg hd ht _ (fun a w F β fb mb ow hi => ?_) k;refine ⟨_, ?_, .t (.v rfl .nil) .done⟩;simp only [execOp, ho, Bv hi hx, Qs, Option.map_none, GJ (hΓ.get h1) h2 (hΓ.get h3) hi hlo hhi (Q8 0) (Q8 0) (Int.natCast_nonneg cap) (Nat.zero_le cap), Qp]
 have hm : ad.map (fun a : Addr => a.add (Int.toNat 0 * te.size)) = ad := by
  cases ad with
  | none => rfl
  | some a => simp [Addr.add]
 by_cases h : cap = Int.toNat 0
 ·simp [h]
 ·rw [if_neg h]; rw [hm]; rfl
theorem Lu {M0 : List (Nat × Blk)} {acc : List Dl} {Q : St → List Dl → Prop} {Γ : Tys} (hΓ : Γ.ok P) {ty e t cap : Nat} {ad : Option Addr} {x : Operand} {lo hi' : Option Operand} {ti te : TI} {i j : Int} (hg : o.guard = none) (hd : o.dst = some t) (ht : t < c.n) (ho : o.op = .slice ty x lo hi' none)
  (h1 : A3 Γ ty = some ti) (h2 : ti.kind = .slice e) (h3 : A3 Γ e = some te) (hx : opd s.fr x = .t (.v (.slice ad 0 cap))) (hlo : EE s.fr lo 0 = some i) (hhi : EE s.fr hi' (0 : Nat) = some j) (hi0 : i = 0) (hj0 : j = 0)
  (k : QG P c ops M0 rest ⟨(t, .t (.v (.slice ad 0 cap))) :: s.fr, s.M⟩ (acc ++ [pl t (.t (.v (.slice ad 0 cap)))]) Q) : QG P c ops M0 (o :: rest) s acc Q :=
 ⟨pl t _, hd, fun s' ha _ Q h => by
  have hO : ∀ (z : Option Operand) (d : Int), (∀ y, z = some y → y ∈ o.op.operands) → EE s'.fr z d = EE s.fr z d := fun z d hz => by
   cases z with
   | none => rfl
   | some y => simp only [EE]; rw [ha.opd (hz y rfl)]
  exact Gd hΓ hg hd ht ho h1 h2 h3 (by rw [ha.opd (by rw [ho]; simp [Op.operands])]; exact hx) (by rw [hO lo 0 (fun y hy => by subst hy; rw [ho]; simp [Op.operands])]; exact hlo)
   (by rw [hO hi' _ (fun y hy => by subst hy; rw [ho]; simp [Op.operands])]; exact hhi) hi0 hj0 h, k⟩
theorem Le.rowVn {id b n cap : Nat} {xs : List T} (len : Nat) (hM : lookM s.M id = some (.row b cap n xs)) (hl : xs.length = len) : Le c s ⟨s.fr, (id, .rawV [.slice (some ⟨b, 0, none⟩) len cap] [.list n xs]) :: s.M⟩ := by
 subst hl; exact Le.rowV hM
theorem Le.rawNil (id m : Nat) (h : lookM s.M id = none) : Le c s ⟨s.fr, (id, .rawV [.slice none 0 0] [.list m []]) :: s.M⟩ := by
 rintro a w ⟨F, β, fb, mb, ow, hi⟩
 refine ⟨F, β, fb, mb, ow, { hi with mem := fun i => ?_ }⟩;simp only [lookM]
 by_cases hu : id = i
 ·subst hu
  rw [if_pos rfl]
  have := hi.mem id
  rw [h] at this;show OwnL w _ _ _;rw [show mb id = [] from this];exact .none .nil
 ·rw [if_neg hu]; exact hi.mem i
end
end Go.Eng
end
section
/- Loads from a variable that is lent, in regions whose readers look at what is written. -/
namespace Go.Eng
open Go.RowKit
section
variable {P : Program} {c : Ctx} {s : St} {ops : Array Oper} {rest : List Oper} {o : Oper} {Q : Exit → St → Prop} {V : St → Prop}
theorem Ns {Γ : Tys} (hΓ : Γ.ok P) {ty t id off n b : Nat} {x : Operand} {ti : TI} {cells : List D} {d : D} (pid : Nat) (hg : o.guard = none) (hd : o.dst = some t) (ht : t < c.n) (ho : o.op = .load ty x)
  (h1 : A3 Γ ty = some ti) (hx : opd s.fr x = .ref id 0 off) (hM : lookM s.M id = some (.obox (.pointer (some ⟨b, 0, none⟩)) cells)) (hp : lookM s.M pid = some (.pin id b n 1)) (hne : (pid == id) = false) (hn : n = cells.length) (hc : D.noImm.noImmL cells = true) (hpd : Ej ti.kind ti.size cells off = some d)
  (k : WO P c ops rest ⟨(t, d) :: s.fr, s.M⟩ Q) : WO P c ops (o :: rest) s Q := by
 have hne' : ¬ pid = id := by simpa using hne
 refine WO_le (Le.open (u := id) pid hM hp hn hc) ?_;refine PO hΓ hg hd ht (d := d) (by rw [ho]; simp only [evV, h1]; rw [show opd ({ fr := s.fr, M := (id, Blk.box cells) :: s.M } : St).fr x = .ref id 0 off from hx]; simp only [lookM, if_true]; exact hpd) ?_;refine WO_le (Le.close (u := id) (b := b) (n := n) (cells := cells) pid (by simp [lookM]) (by simp only [lookM]; rw [if_neg (fun e => hne' e.symm)]; exact hp) hc) ?_;refine WO_le (Le.of (s' := ⟨(t, d) :: s.fr, s.M⟩) (fun u => .inl rfl) (fun u => .inl ?_)) k;simp only [lookM]
 by_cases e : id = u
 ·subst e; simp [hM]
 ·simp [e]
theorem Hg {Q : St → List Dl → Prop} {acc : List Dl} {bd : List Nat} {bs : List (List Nat)} {Γ : Tys} (hΓ : Γ.ok P) {ty t id off n b : Nat} {x : Operand} {ti : TI} {cells : List D} {v : Value} {y : T} (pid idq : Nat) (hg : o.guard = none) (hd : o.dst = some t) (ht : t < c.n) (ho : o.op = .load ty x)
  (h1 : A3 Γ ty = some ti) (hx : opd s.fr x = .ref id 0 off) (hV : ∀ s', V s' → lookM s'.M id = some (.obox (.pointer (some ⟨b, 0, none⟩)) cells)) (hp : lookM (CI bd s.M) pid = some (.pin id b n 1)) (hne : (pid == id) = false)
  (hn : n = cells.length) (hc : D.noImm.noImmL cells = true) (hpd : Ej ti.kind ti.size cells off = some (.t (.v v))) (hq : lookM (CI bd s.M) idq = some (.rawV [v] [y]))
  (k : QV P c ops V bs rest ⟨(t, .own y) :: s.fr, (idq, .rawV [] []) :: s.M⟩ (acc ++ [⟨t, .own y, [], [(idq, .rawV [] [])], false⟩]) Q) : QV P c ops V (bd :: bs) (o :: rest) s acc Q :=
 ⟨⟨t, .own y, [], [(idq, .rawV [] [])], false⟩, fun s' ha hv _ Q h => by
  have hx' : opd s'.fr x = .ref id 0 off := by rw [ha.opd (by rw [ho]; simp [Op.operands])]; exact hx
  refine Ns hΓ pid hg hd ht ho h1 hx' (hV s' hv) (ha.1 _ _ hp) hne hn hc hpd ?_
  have h3 : Le c ⟨(t, .own y) :: (t, .t (.v v)) :: s'.fr, (idq, .rawV [] []) :: s'.M⟩ ⟨(t, .own y) :: s'.fr, (idq, .rawV [] []) :: s'.M⟩ := Le.of (fun u => .inl (by
   show (if t = u then D.own y else look s'.fr u) = if t = u then D.own y else if t = u then _ else look s'.fr u
   split <;> rfl)) (fun u => .inl rfl)
  have h2 : Le c ⟨(t, .t (.v v)) :: s'.fr, s'.M⟩ ⟨(t, .own y) :: (t, .t (.v v)) :: s'.fr, (idq, .rawV [] []) :: s'.M⟩ := Le.ownBack0 (t := t) (id := idq) (v := v) (by show (if t = t then _ else _) = _; rw [if_pos rfl]) (ha.1 _ _ hq)
  exact WO_le (h2.trans h3) h, k⟩
end
end Go.Eng
end
