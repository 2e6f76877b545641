import Derived.Test.YtkllmdolplcklaaMc
import Derived.Laws.CopyOwn
set_option linter.unusedVariables false
set_option linter.unusedSimpArgs false
section
/- A part of a struct that is a value; what is known of a value is owned again. -/
namespace Go.Eng
open Go.RowKit
section
variable {P : Program} {c : Ctx} {s : St} {Q : Exit → St → Prop} {ops : Array Oper} {rest : List Oper} {o : Oper}
theorem Le.ownBack {t id : Nat} {v : Value} {x : T} (h1 : look s.fr t = .t (.v v)) (h2 : lookM s.M id = some (.rawV [v] [x])) : Le c s ⟨(t, .own x) :: s.fr, dropM (some id) s.M⟩ := by
 classical
 rintro a w ⟨F, β, fb, mb, ow, hi⟩
 have hr := hi.fr t
 rw [h1] at hr
 have e1 := A1 hr
 have hm := hi.mem id
 rw [h2] at hm
 have hO : OwnL w [v] [x] (mb id) := hm
 have ho : ∀ b, b ∈ mb id → ow b = some (.inr id) := fun b h => hi.omem id b h
 have hfb : fb t = [] := hr.free1 rfl
 refine ⟨F, β, fun y => if y = t then mb id else fb y, fun i => if i = id then [] else mb i, fun b => if b ∈ mb id then some (.inl t) else ow b, ?_⟩
 exact { hi with
  fr := fun y => by
   simp only [look]
   by_cases h : t = y
   ·subst h
    rw [if_pos rfl, if_pos rfl, e1]
    simpa using RelD.own (F := F) (β := β) hO .done
   ·rw [if_neg h, if_neg (fun e => h e.symm)]
    exact hi.fr y
  mem := fun i => by
   by_cases h : i = id
   ·subst h; rw [As, if_pos rfl]
   ·rw [BO h, if_neg h]; exact hi.mem i
  ofr := fun y b hb => by
   split at hb
   ·rename_i h; subst h; rw [if_pos hb]
   ·have h5 := hi.ofr y b hb
    rw [if_neg (fun h => by rw [ho b h] at h5; cases h5)];exact h5
  omem := fun i b hb => by
   split at hb
   ·cases hb
   ·rename_i hne
    have h5 := hi.omem i b hb
    rw [if_neg (fun h => by rw [ho b h] at h5; cases h5; exact hne rfl)];exact h5
  nfr := fun y => by
   split
   ·exact hi.nmem id
   ·exact hi.nfr y
  nmem := fun i => by
   split
   ·exact List.nodup_nil
   ·exact hi.nmem i
  own := fun b hb => by
   split at hb
   ·rename_i h; exact hi.own b (by rw [ho b h]; simp)
   ·exact hi.own b hb }
end
end Go.Eng
end
section
/- What a cell of a variable reads, known by its value, or its elements by theirs. -/
namespace Go.Eng
open Go.RowKit
theorem RelL.ones {w : World} {F : Nat → Prop} {vs : List Value} {ts : List T} (h : RelL w F vs ts) : ∀ v, v ∈ vs → v.oneCell' = true := by
 induction h with
 | nil => intro v hv; cases hv
 | v h1 _ ih => intro v hv; rcases N2.1 hv with rfl | hv; exact h1; exact ih v hv
 | none _ ih => intro v hv; rcases N2.1 hv with rfl | hv; rfl; exact ih v hv
 | list _ _ _ _ _ _ _ _ ih2 => intro v hv; rcases N2.1 hv with rfl | hv; rfl; exact ih2 v hv
theorem GZ {w : World} {F : Nat → Prop} : ∀ {us : List Value}, (∀ v, v ∈ us → v.oneCell' = true) → RelL w F us (us.map T.v)
 | [], _ => .nil
 | u :: us, h => .v (h u (by simp)) (GZ fun v hv => h v (by simp [hv]))
theorem RelL.tell {w : World} {F : Nat → Prop} {x : Value} {ts : List T} (h : RelL w F [x] [.list 1 ts]) (ht : ∀ t, t ∈ ts → t.cells = [t]) : ∃ us : List Value, RelL w F [x] [.list 1 (us.map T.v)] ∧ RelL w F us ts := by
 generalize hy : T.list 1 ts = y at h
 cases h with
 | v _ _ => cases hy
 | none q =>
  injection hy with e1 e2
  subst e2;exact ⟨[], .none .nil, .nil⟩
 | @list b o cap n cs xs arr e fz vs ts' q1 q2 q3 q4 q5 q6 q7 =>
  injection hy with e1 e2
  subst e1; subst e2;rw [Hx ht] at q6
  have hl := q6.length
  refine ⟨cs, ?_, q6⟩
  have h1 : ts.length = (cs.map T.v).length := by rw [Nj]; exact hl.symm
  rw [h1];refine RelL.list q1 q2 q3 (fun t h => ?_) (by rw [Nj]; omega) (by rw [LJ]; exact GZ q6.ones) .nil
  obtain ⟨v, _, rfl⟩ := OM.1 h
  rfl
section
variable {P : Program} {c : Ctx} {s : St} {Q : Exit → St → Prop} {ops : Array Oper} {rest : List Oper} {o : Oper}
theorem Conc.reBox {a : Act} {w : World} {F β fb mb ow} (hi : Conc c s a w F β fb mb ow) {u id j : Nat} {cells : List D} {x : T} (hB : lookM s.M u = some (.box cells)) (h1 : cells[j]? = some (.t x)) (hne : ¬ u = id) :
  ∃ v : Value, RelL w F [v] [x] ∧ v.oneCell' = true ∧ ∀ (y : T) (us : List Value) (ts : List T), RelL w F [v] [y] → RelL w F us ts → Is c ⟨s.fr, (u, .box (cells.set j (.t y))) :: (id, .ro us ts) :: s.M⟩ a w := by
 have hb := hi.mem u
 rw [hB] at hb
 obtain ⟨b0, arr, e0, bs0, p1, p2, p3, p4, p5⟩ := hb
 obtain ⟨v, b1, b2, b3, hbs, q1, qv, q2⟩ := B9 j p3 h1
 have hb2 : b2 = [] := q1.free1 rfl
 subst hb2
 have hone : v.oneCell' = true := by
  rw [Np] at p4;exact p4 v (OV qv)
 have hr : RelL w F [v] [x] := by
  generalize hd : D.t x = d at q1;generalize hbe : ([] : List Nat) = be at q1
  cases q1 with
  | t h3 h4 => cases hd; exact h3
  | tagg _ _ => simp [Value.oneCell'] at hone
  | _ => cases hd
 refine ⟨v, hr, hone, fun y us ts hy hut => ?_⟩;refine ⟨F, β, fb, fun i => if i = u then mb u else if i = id then [] else mb i, ow, ?_⟩;refine { hi with mem := fun i => ?_, omem := fun i b hb => ?_, nmem := fun i => ?_ }
 ·by_cases h : i = u
  ·subst h
   simp only [lookM, if_true];exact ⟨b0, arr, e0, bs0, by simpa using p1, p2, by rw [hbs]; exact q2 _ [] (.t hy .done), p4, p5⟩
  ·rw [if_neg h]
   by_cases h' : i = id
   ·subst h'
    rw [if_pos rfl]
    have e : lookM ((u, Blk.box (cells.set j (.t y))) :: (i, Blk.ro us ts) :: s.M) i = some (.ro us ts) := by
     rw [lookM, if_neg hne, lookM, if_pos rfl]
    rw [e];exact ⟨hut, rfl⟩
   ·rw [if_neg h']
    simp only [lookM];rw [if_neg (fun e => h e.symm), if_neg (fun e => h' e.symm)];exact hi.mem i
 ·split at hb
  ·rename_i h; subst h; exact hi.omem i b hb
  ·split at hb
   ·cases hb
   ·exact hi.omem i b hb
 ·split
  ·exact hi.nmem u
  ·split
   ·exact List.nodup_nil
   ·exact hi.nmem i
theorem LR {x : Code} {u j n : Nat} {cells : List D} {xs : List T} (id : Nat) (hB : lookM s.M u = some (.box cells)) (h1 : cells[j]? = some (.t (.list n xs))) (hne : (u == id) = false)
  (k : ∀ v : Value, W P c x ⟨s.fr, (u, .box (cells.set j (.t (.v v)))) :: (id, .ro [v] [.list n xs]) :: s.M⟩ Q) : W P c x s Q := by
 rintro a w ⟨F, β, fb, mb, ow, hi⟩
 obtain ⟨v, hr, hone, h⟩ := hi.reBox hB h1 (by simpa using hne)
 exact k v a w (h _ _ _ (.v hone .nil) hr)
theorem KH {x : Code} {u j : Nat} {cells : List D} {ts : List T} (id : Nat) (hB : lookM s.M u = some (.box cells)) (h1 : cells[j]? = some (.t (.list 1 ts))) (hne : (u == id) = false) (ht : ∀ t, t ∈ ts → t.cells = [t])
  (k : ∀ us : List Value, us.length = ts.length → W P c x ⟨s.fr, (u, .box (cells.set j (.t (.list 1 (us.map T.v))))) :: (id, .ro us ts) :: s.M⟩ Q) : W P c x s Q := by
 rintro a w ⟨F, β, fb, mb, ow, hi⟩
 obtain ⟨v, hr, hone, h⟩ := hi.reBox hB h1 (by simpa using hne)
 obtain ⟨us, h2, h3⟩ := hr.tell ht
 exact k us h3.length a w (h _ _ _ h2 h3)
end
end Go.Eng
end
section
/- append, in open order, of what a temporary owns, to what another does; its elements are values. -/
namespace Go.Eng
open Go.RowKit
section
variable {P : Program} {c : Ctx} {s : St} {ops : Array Oper} {rest : List Oper} {o : Oper} {M0 : List (Nat × Blk)} {acc : List Dl}
theorem Nd {Q : Exit → St → Prop} {Γ : Tys} (hΓ : Γ.ok P) {ty e t u : Nat} {y : Operand} {ti te : TI} {dy : D} {xs ys : List T} (hg : o.guard = none) (hd : o.dst = some t) (ht : t < c.n) (hut : (u == t) = false)
  (ho : o.op = .call { callee := .builtin .append, args := #[.tmp u, y], argTypes := #[ty, ty] })
  (h1 : A4 Γ ty = some ti) (h2 : ti.kind = .slice e) (h3 : A4 Γ e = some te) (hx : look s.fr u = .own (.list te.size xs)) (hy : opd s.fr y = dy) (hsrc : ∀ s : St, Src s dy te.size ys none)
  (hlen : xs.length + ys.length ≤ 1073741824) (hb : te.bytes ≤ 131072) (hzs : te.zero.length = te.size) (hcl : Cl t s)
  (h : WO P c ops rest ⟨(t, .own (.list te.size (xs ++ ys))) :: (u, .top) :: s.fr, s.M⟩ Q) : WO P c ops (o :: rest) s Q := by
 have hut' : ¬ u = t := by simpa using hut
 refine WO_le (Le.adoptE (u := u) t hx rfl) ?_
 have hopy : y = .tmp u ∨ opd ((u, .sl t 0 xs.length) :: killF t s.fr) y = dy := by
  by_cases hyu : y = .tmp u
  ·exact .inl hyu
  ·right
   cases y with
   | tmp v =>
    have : ¬ u = v := fun e => hyu (by rw [e])
    show (if u = v then _ else look (killF t s.fr) v) = dy;rw [if_neg this, EZ hcl];exact hy
   | _ => exact hy
 have hopy' : opd ((u, .sl t 0 xs.length) :: killF t s.fr) y = dy := hopy.resolve_left fun e => by
  subst e
  have h9 : look s.fr u = dy := hy
  rw [hx] at h9;subst h9
  have := hsrc s
  cases this
 refine Ab hΓ (id := t) (sid := none) (xs := xs.take xs.length) hg hd ht ho h1 h2 h3 (dx := .sl t 0 xs.length) (by show (if u = u then _ else _) = _; rw [if_pos rfl]) (.own (by simp [lookM]) (Nm _)) hopy' (hsrc _) (by simp) (by rw [N8]; exact hlen) hb hzs ?_;simp only [N8];refine WO_le ?_ h;refine (Le.gather (u := t) (id := t) (n := te.size) (len := xs.length + ys.length) (xs := xs ++ ys) (by simp [look]) (by simp [lookM]) (by simp)).trans (Le.of (fun v => ?_) (fun id => .inl ?_))
 ·rw [Ni (by simp)]
  show (if t = v then _ else if u = v then D.top else look s.fr v) = (if t = v then _ else if t = v then _ else look (killF t ((u, D.sl t 0 xs.length) :: killF t s.fr)) v) ∨ _
  by_cases hv : t = v
  ·rw [if_pos hv, if_pos hv]; exact .inl rfl
  ·rw [if_neg hv, if_neg hv, if_neg hv]
   by_cases hv2 : u = v
   ·rw [if_pos hv2]
    right
    show (if t = v then _ else if u = v then D.top else look s.fr v) = D.top;rw [if_neg hv, if_pos hv2]
   ·rw [if_neg hv2]
    left
    rw [Bt];show _ = D.kill t (if u = v then _ else look (killF t s.fr) v);rw [if_neg hv2, EZ hcl, Gh (hcl.1 v)]
 ·show lookM s.M id = _
  by_cases hid : id = t
  ·subst hid; rw [As, hcl.2.2]
  ·rw [BO hid]
   show _ = (if t = id then _ else lookM (killM t ((t, Blk.L te.size xs) :: killM t s.M)) id);rw [if_neg (Ne.symm hid), Bs];show _ = Option.map (Blk.kill t) (if t = id then _ else lookM (killM t s.M) id);rw [if_neg (Ne.symm hid), Es hcl]
   cases hk : lookM s.M id with
   | none => rfl
   | some k => rw [Option.map_some, Gi (hcl.2.1 id k hk)]
theorem Cl.freeze {t v n : Nat} {ys : List T} {s : St} (h : Cl t s) : Cl t ⟨(v, .t (.list n ys)) :: s.fr, s.M⟩ := by
 refine ⟨fun u => ?_, h.2.1, h.2.2⟩;simp only [look];split
 ·rfl
 ·exact h.1 u
theorem B7 {Q : St → List Dl → Prop} {Γ : Tys} (hΓ : Γ.ok P) {ty e t u v n : Nat} {ti te : TI} {xs ys : List T} (hg : o.guard = none) (hd : o.dst = some t) (ht : t < c.n) (hut : (u == t) = false) (huv : (u == v) = false)
  (ho : o.op = .call { callee := .builtin .append, args := #[.tmp u, .tmp v], argTypes := #[ty, ty] })
  (h1 : A4 Γ ty = some ti) (h2 : ti.kind = .slice e) (h3 : A4 Γ e = some te) (h4 : te.size = n) (hx : look s.fr u = .own (.list n xs)) (hy : look s.fr v = .own (.list n ys)) (hread : ∀ x, x ∈ ys → (T.cells x).length = n ∧ ∀ y, y ∈ T.cells x → ∃ v, y = .v v)
  (hlen : xs.length + ys.length ≤ 1073741824) (hb : te.bytes ≤ 131072) (hzs : te.zero.length = te.size)
  (kk : QG P c ops M0 rest ⟨(t, .own (.list te.size (xs ++ ys))) :: (u, .top) :: (v, .top) :: s.fr, s.M⟩ (acc ++ [⟨t, .own (.list te.size (xs ++ ys)), [u, v], [], true⟩]) Q) : QG P c ops M0 (o :: rest) s acc Q :=
 ⟨⟨t, .own (.list te.size (xs ++ ys)), [u, v], [], true⟩, hd, fun s' ha hc Q h => by
  subst h4
  have hcl := hc rfl
  dsimp only at hcl
  have huv' : ¬ u = v := by simpa using huv
  have hu' : look s'.fr u = .own (.list te.size xs) := (ha.opd (x := .tmp u) (by rw [ho]; simp [Op.operands, Call.operands])).trans hx
  have hv' : look s'.fr v = .own (.list te.size ys) := (ha.opd (x := .tmp v) (by rw [ho]; simp [Op.operands, Call.operands])).trans hy
  refine WO_le (Le.freeze (u := v) (d := .t (.list te.size ys)) (by rw [hv']; rfl)) ?_;refine Nd hΓ hg hd ht hut ho h1 h2 h3 (by show (if v = u then _ else _) = _; rw [if_neg (fun e => huv' e.symm)]; exact hu') (dy := .t (.list te.size ys)) (by show (if v = v then _ else _) = _; rw [if_pos rfl]) (fun _ => .read hread) hlen hb hzs hcl.freeze ?_;refine WO_le ?_ h;refine Le.of (fun w => ?_) (fun id => .inl rfl);show (if t = w then _ else if u = w then _ else if v = w then D.top else look s'.fr w) = (if t = w then _ else if u = w then _ else if v = w then _ else look s'.fr w) ∨ (if t = w then _ else if u = w then _ else if v = w then D.top else look s'.fr w) = D.top
  by_cases h1 : t = w
  ·rw [if_pos h1, if_pos h1]; exact .inl rfl
  ·by_cases h2 : u = w
   ·rw [if_neg h1, if_pos h2]; exact .inr rfl
   ·by_cases h3 : v = w
    ·rw [if_neg h1, if_neg h2, if_pos h3]; exact .inr rfl
    ·rw [if_neg h1, if_neg h2, if_neg h3, if_neg h1, if_neg h2, if_neg h3]; exact .inl rfl, kk⟩
end
end Go.Eng
namespace Go.Eng
section
variable {P : Program} {c : Ctx} {s : St} {ops : Array Oper} {rest : List Oper} {o : Oper} {M0 : List (Nat × Blk)} {acc : List Dl}
theorem Na {Q : Exit → St → Prop} {t ty n : Nat} {x : Operand} {xs : List T} (hg : o.guard = none) (hd : o.dst = some t) (ht : t < c.n) (ho : o.op = .call { callee := .builtin .len, args := #[x], argTypes := #[ty] })
  (hu : ∃ e, P.underlying ty = some (.slice e)) (hx : opd s.fr x = .own (.list n xs)) (k : WO P c ops rest ⟨(t, .t (.int xs.length)) :: s.fr, s.M⟩ Q) : WO P c ops (o :: rest) s Q := by
 refine CD hg hd ht _ (fun a w F β fb mb ow hi => ?_) k
 obtain ⟨e, hu⟩ := hu
 refine ⟨.int .i64 xs.length, ?_, .t (.v rfl .nil) .done⟩
 obtain ⟨bx, hr, _⟩ := hi.opd x
 rw [hx] at hr;generalize hev : a.eval x = xv at hr
 have key : ∃ ad cap, xv = .slice ad xs.length cap := by
  cases hr with
  | own h1 h2 =>
   generalize hy : T.list n xs = y at h1
   cases h1 with
   | v _ _ => cases hy
   | none h3 => injection hy with e1 e2; subst e2; exact ⟨_, _, rfl⟩
   | list h3 h4 h5 h6 h7 h8 h9 h10 => injection hy with e1 e2; subst e2; exact ⟨_, _, rfl⟩
 obtain ⟨ad, cap, rfl⟩ := key
 simp [execOp, ho, resolve, invoke, builtin, hev, Builtin.len_, run_underlying hu]
 rfl
theorem Ng {Q : St → List Dl → Prop} {t ty n : Nat} {m : Int} {x : Operand} {xs : List T} (hg : o.guard = none) (hd : o.dst = some t) (ht : t < c.n) (ho : o.op = .call { callee := .builtin .len, args := #[x], argTypes := #[ty] })
  (hu : ∃ e, P.underlying ty = some (.slice e)) (hx : opd s.fr x = .own (.list n xs)) (hm : (xs.length : Int) = m)
  (kk : QG P c ops M0 rest ⟨(t, .t (.int m)) :: s.fr, s.M⟩ (acc ++ [⟨t, .t (.int m), [], [], false⟩]) Q) : QG P c ops M0 (o :: rest) s acc Q :=
 ⟨⟨t, .t (.int m), [], [], false⟩, hd, fun s' ha _ Q h => by
  subst hm
  exact Na hg hd ht ho hu ((ha.opd (by rw [ho]; simp [Op.operands, Call.operands])).trans hx) h, kk⟩
end
end Go.Eng
end
section
/- The elements of a list that is read, known by their values, cell by cell; and read again. -/
namespace Go.Eng
open Go.RowKit
theorem RelL.tellN {w : World} {F : Nat → Prop} {x : Value} {n : Nat} {xs : List T} (h : RelL w F [x] [.list n xs]) : ∃ vs : List Value, vs.length = xs.length * n ∧ RelL w F vs (xs.flatMap T.cells) ∧
  ∀ ys : List T, ys.flatMap T.cells = vs.map T.v → ys.length = xs.length → (∀ y, y ∈ ys → (T.cells y).length = n) → RelL w F [x] [.list n ys] := by
 generalize hy : T.list n xs = y at h
 cases h with
 | v _ _ => cases hy
 | none q =>
  injection hy with e1 e2
  subst e1; subst e2;refine ⟨[], by simp, .nil, fun ys _ hl _ => ?_⟩
  have : ys = [] := OG (by simpa using hl)
  subst this;exact .none .nil
 | @list b o cap n' cs xs' arr e fz vs ts' q1 q2 q3 q4 q5 q6 q7 =>
  injection hy with e1 e2
  subst e1; subst e2
  have hl := q6.length
  rw [Ah q4] at hl;refine ⟨cs, hl, q6, fun ys h1 h2 h3 => ?_⟩;rw [← h2];exact RelL.list q1 q2 q3 h3 (by omega) (by rw [h1]; exact GZ q6.ones) .nil
theorem RelL.nth {w : World} {F : Nat → Prop} : ∀ {vs : List Value} {ts : List T} {j : Nat} {v : Value} {t : T}, RelL w F vs ts → vs[j]? = some v → ts[j]? = some t → RelL w F [v] [t]
 | [], _, _, _, _, _, h, _ => by simp at h
 | _ :: _, [], _, _, _, _, _, h => by simp at h
 | _ :: _, _ :: _, 0, _, _, h, h1, h2 => by
  simp at h1 h2; subst h1; subst h2; exact h.cons.1
 | _ :: _, _ :: _, j + 1, _, _, h, h1, h2 => RelL.nth h.cons.2 (by simpa using h1) (by simpa using h2)
section
variable {P : Program} {c : Ctx} {s : St} {Q : Exit → St → Prop} {ops : Array Oper} {rest : List Oper} {o : Oper}
theorem Conc.tellL {a : Act} {w : World} {F β fb mb ow} (hi : Conc c s a w F β fb mb ow) {u n : Nat} {xs : List T} (id : Nat) (h1 : look s.fr u = .t (.list n xs)) :
  ∃ vs : List Value, vs.length = xs.length * n ∧ ∀ ys : List T, ys.flatMap T.cells = vs.map T.v → ys.length = xs.length → (∀ y, y ∈ ys → (T.cells y).length = n) → Is c ⟨(u, .t (.list n ys)) :: s.fr, (id, .ro vs (xs.flatMap T.cells)) :: s.M⟩ a w := by
 have hr := hi.fr u
 rw [h1] at hr;generalize hx : a.tmps.getD u undef = x at hr;generalize hfb : fb u = bu at hr
 cases hr with
 | t q1 q2 =>
  cases q2
  obtain ⟨vs, g1, g2, g3⟩ := q1.tellN
  refine ⟨vs, g1, fun ys h2 h3 h4 => ?_⟩;refine ⟨F, β, fb, fun i => if id = i then [] else mb i, ow, ?_⟩
  exact { hi with
   fr := fun v => by
    simp only [look];split
    ·rename_i e; subst e; rw [hx, hfb]; exact .t (g3 ys h2 h3 h4) .done
    ·exact hi.fr v
   mem := fun i => by
    simp only [lookM]
    by_cases h : id = i
    ·rw [if_pos h]; simp only [if_pos h]; exact ⟨g2, rfl⟩
    ·rw [if_neg h]; simp only [if_neg h]; exact hi.mem i
   omem := fun i b hb => by
    split at hb
    ·cases hb
    ·exact hi.omem i b hb
   nmem := fun i => by
    split
    ·simp
    ·exact hi.nmem i }
theorem NV {x : Code} {u n : Nat} {xs : List T} (id : Nat) (h1 : look s.fr u = .t (.list n xs))
  (k : ∀ vs : List Value, vs.length = xs.length * n → ∃ ys : List T, ys.flatMap T.cells = vs.map T.v ∧ ys.length = xs.length ∧ (∀ y, y ∈ ys → (T.cells y).length = n) ∧ W P c x ⟨(u, .t (.list n ys)) :: s.fr, (id, .ro vs (xs.flatMap T.cells)) :: s.M⟩ Q) : W P c x s Q := by
 rintro a w ⟨F, β, fb, mb, ow, hi⟩
 obtain ⟨vs, h2, h3⟩ := hi.tellL id h1
 obtain ⟨ys, g1, g2, g3, g4⟩ := k vs h2
 exact g4 a w (h3 ys g1 g2 g3)
theorem Is.roTold {a : Act} {w : World} (h : Is c s a w) {id j : Nat} {vs : List Value} {ts : List T} {u x : Value} (hM : lookM s.M id = some (.ro vs ts)) (hx : ts[j]? = some (.v x)) (hu : vs[j]? = some u) : u = x := by
 obtain ⟨F, β, fb, mb, ow, hi⟩ := h
 have hm := hi.mem id
 rw [hM] at hm
 have := hm.1.nth hu hx
 cases this with
 | v _ _ => rfl
theorem FU {l : List Oper} (id j : Nat) {vs : List Value} {ts : List T} {u x : Value} (hM : lookM s.M id = some (.ro vs ts)) (hx : ts[j]? = some (.v x)) (hu : vs[j]? = some u) (k : u = x → WO P c ops l s Q) : WO P c ops l s Q :=
 fun a w h => k (h.roTold hM hx hu) a w h
theorem Le.roUntell {u : Nat} (id j : Nat) {vs : List Value} {ts : List T} {v : Value} {n : Nat} {xs : List T} (h1 : look s.fr u = .t (.v v)) (hM : lookM s.M id = some (.ro vs ts)) (hv : vs[j]? = some v) (ht : ts[j]? = some (.list n xs)) : Le c s ⟨(u, .t (.list n xs)) :: s.fr, s.M⟩ := by
 rintro a w ⟨F, β, fb, mb, ow, hi⟩
 have hm := hi.mem id
 rw [hM] at hm
 have hr := hi.fr u
 rw [h1] at hr
 have hb := hr.free1 rfl
 have e1 := A1 hr
 refine ⟨F, β, fb, mb, ow, ?_⟩
 exact { hi with
  fr := fun y => by
   simp only [look];split
   ·rename_i e
    subst e;rw [hb, e1];exact .t (hm.1.nth hv ht) .done
   ·exact hi.fr y }
end
end Go.Eng
end
section
/- Functions that are given a variable of the caller's by its place, and write into it and into what it leads to. -/
namespace Go.Eng
open Go.RowKit
section
variable {P : Program} {c : Ctx} {s : St} {Q : Exit → St → Prop} {ops : Array Oper} {rest : List Oper} {o : Oper}
end
end Go.Eng
end
section
/- Functions that are given the places of variables, that write into them, and that answer: a contract, the rule of its call, and how it is shown. -/
namespace Go.Eng
open Go.RowKit
def Blk.shut : Blk → Bool
 | .obox _ cells => D.noImm.noImmL cells
 | .raw _ _ _ _ => true
 | .rawV _ _ => true
 | .bld _ _ _ _ => true
 | .row _ _ _ _ => true
 | _ => false
theorem RelB.shut {w : World} {F F' : Nat → Prop} {β β' : Ak} {id id' : Nat} {k : Blk} {bs : List Nat} (h : RelB w F β id k bs) (hk : k.shut = true) : RelB w F' β' id' k bs := by
 cases k with
 | L n xs => simp [Blk.shut] at hk
 | box cells => simp [Blk.shut] at hk
 | raw b sz vs ts => exact h
 | rawV vs ts => exact h
 | ro vs ts => simp [Blk.shut] at hk
 | pin i b n c => simp [Blk.shut] at hk
 | obox pv cells =>
  simp only [Blk.shut] at hk
  rcases h with h | ⟨b, arr, e, bs', h1, h2, h3, h4, h5⟩
  ·exact .inl h
  ·exact .inr ⟨b, arr, e, bs', h1, h2, h3.noImm hk, h4, h5⟩
 | bld T e b l => exact h
 | row b cap n xs => exact h
def BS : Ak := fun _ => none
def CE : Nat → Prop := fun _ => False
def FX (w : World) : List Blk → List Nat → Prop
 | [], bs => bs = []
 | k :: ks, bs => ∃ b1 b2, RelB w CE BS 0 k b1 ∧ FX w ks b2 ∧ bs = b1 ++ b2
theorem EA {w : World} {mb : Nat → List Nat} : ∀ {ids : List Nat} {ks : List Blk}, ids.length = ks.length → (∀ p, p ∈ ids.zip ks → RelB w CE BS 0 p.2 (mb p.1)) → FX w ks (ids.flatMap mb)
 | [], [], _, _ => rfl
 | [], _ :: _, h, _ => by simp at h
 | _ :: _, [], h, _ => by simp at h
 | i :: ids, k :: ks, h, hk => ⟨mb i, ids.flatMap mb, hk (i, k) (by simp), EA (by simpa using h) fun p hp => hk p (by simp [hp]), by simp⟩
theorem CP {w : World} : ∀ {ids : List Nat} {ks : List Blk} {bs : List Nat}, ids.length = ks.length → ids.Nodup → FX w ks bs → ∃ mb : Nat → List Nat, (∀ p, p ∈ ids.zip ks → RelB w CE BS 0 p.2 (mb p.1)) ∧ bs = ids.flatMap mb
 | [], [], bs, _, _, h => ⟨fun _ => [], by simp, by rw [show bs = [] from h]; rfl⟩
 | [], _ :: _, _, h, _, _ => by simp at h
 | _ :: _, [], _, h, _, _ => by simp at h
 | i :: ids, k :: ks, bs, hl, hn, h => by
  obtain ⟨b1, b2, h1, h2, rfl⟩ := h
  obtain ⟨n1, n2⟩ := Nw.1 hn
  obtain ⟨mb, h3, rfl⟩ := CP (ids := ids) (by simpa using hl) n2 h2
  refine ⟨fun j => if j = i then b1 else mb j, fun p hp => ?_, ?_⟩
  ·rw [List.zip_cons_cons] at hp
   rcases N2.1 hp with rfl | hp
   ·simpa using h1
   ·have hne : ¬ p.1 = i := fun e => n1 (e ▸ (List.of_mem_zip (a := p.1) (b := p.2) hp).1)
    simpa [hne] using h3 p hp
  ·rw [Nt, if_pos rfl]
   congr 1
   have : ∀ l : List Nat, i ∉ l → l.flatMap mb = l.flatMap fun j => if j = i then b1 else mb j := by
    intro l hl
    induction l with
    | nil => rfl
    | cons j l ih =>
     rw [N2, not_or] at hl;rw [Nt, Nt, if_neg (fun e => hl.1 e.symm), ← ih hl.2]
   exact this ids n1
theorem DM {mb : Nat → List Nat} : ∀ {ids : List Nat}, (ids.flatMap mb).Nodup → ∀ {i j b : Nat}, i ∈ ids → j ∈ ids → b ∈ mb i → b ∈ mb j → i = j
 | [], _, _, _, _, h, _, _, _ => by simp at h
 | k :: ids, hn, i, j, b, hi, hj, h1, h2 => by
  rw [Nt] at hn
  obtain ⟨n1, n2, n3⟩ := Nq.1 hn
  rcases N2.1 hi with rfl | hi'
  ·rcases N2.1 hj with rfl | hj'
   ·rfl
   ·exact absurd rfl (n3 b h1 b (ON.2 ⟨j, hj', h2⟩))
  ·rcases N2.1 hj with rfl | hj'
   ·exact absurd rfl (n3 b h2 b (ON.2 ⟨i, hi', h1⟩))
   ·exact DM n2 hi' hj' h1 h2
theorem Cq {mb : Nat → List Nat} : ∀ {ids : List Nat}, ids.Nodup → (∀ i, i ∈ ids → (mb i).Nodup) → (∀ i j b, i ∈ ids → j ∈ ids → b ∈ mb i → b ∈ mb j → i = j) → (ids.flatMap mb).Nodup
 | [], _, _, _ => by simp
 | i :: ids, hn, h1, h2 => by
  obtain ⟨n1, n2⟩ := Nw.1 hn
  rw [Nt];refine Nq.2 ⟨h1 i (by simp), Cq n2 (fun j hj => h1 j (by simp [hj])) (fun j k b hj hk => h2 j k b (by simp [hj]) (by simp [hk])), fun p hp q hq e => ?_⟩;subst e
  obtain ⟨j, hj, hpj⟩ := ON.1 hq
  exact n1 ((h2 i j p (by simp) (by simp [hj]) hp hpj) ▸ hj)
theorem flat_nodup_at {mb : Nat → List Nat} : ∀ {ids : List Nat}, (ids.flatMap mb).Nodup → ∀ {i : Nat}, i ∈ ids → (mb i).Nodup
 | [], _, _, h => by simp at h
 | k :: ids, hn, i, hi => by
  rw [Nt] at hn
  obtain ⟨n1, n2, n3⟩ := Nq.1 hn
  rcases N2.1 hi with rfl | hi'
  ·exact n1
  ·exact flat_nodup_at n2 hi'
theorem DF : ∀ {ids : List Nat} {ks : List Blk} {M : List (Nat × Blk)} {i : Nat}, ids.length = ks.length → i ∈ ids → ∃ k, lookM (ids.zip ks ++ M) i = some k ∧ (i, k) ∈ ids.zip ks
 | [], _, _, _, _, h => by simp at h
 | _ :: _, [], _, _, h, _ => by simp at h
 | j :: ids, k :: ks, M, i, hl, hi => by
  rw [List.zip_cons_cons, Ob];simp only [lookM]
  by_cases h : j = i
  ·subst h; exact ⟨k, by rw [if_pos rfl], by simp⟩
  ·rw [if_neg h]
   obtain ⟨k', h1, h2⟩ := DF (M := M) (by simpa using hl) ((N2.1 hi).resolve_left fun e => h e.symm)
   exact ⟨k', h1, by simp [h2]⟩
theorem Cm : ∀ {ids : List Nat} {ks : List Blk} {M : List (Nat × Blk)} {i : Nat}, i ∉ ids → lookM (ids.zip ks ++ M) i = lookM M i
 | [], _, _, _, _ => rfl
 | _ :: _, [], _, _, _ => rfl
 | j :: ids, k :: ks, M, i, hi => by
  rw [N2, not_or] at hi;rw [List.zip_cons_cons, Ob];simp only [lookM];rw [if_neg fun e => hi.1 e.symm];exact Cm hi.2
def Proc (P : Program) (f : FuncId) (ds : List D) (rv : List Value) (rt : List T) (ks : List Blk) (r : D) (ks' : List Blk) : Prop :=
 ET P f ∧ ∀ (w : World) (F : Nat → Prop) (args : Array Value) (bs : List Nat), (∀ b, F b → b < w.heap.size) → RelD w F BS args.toList ds [] → RelL w F rv rt → FX w ks bs → bs.Nodup → (∀ b, b ∈ bs → b < w.heap.size ∧ ¬ F b) →
  Calls P f args w fun e w' => ∃ v br bs', e = .returned v ∧ RelD w' CE BS [v] [r] br ∧ FX w' ks' bs' ∧ (br ++ bs').Nodup ∧ (∀ b, b ∈ br ++ bs' → b ∈ bs ∨ (w.heap.size ≤ b ∧ b < w'.heap.size)) ∧
   w'.os = w.os ∧ w'.tape = w.tape ∧ w'.output = w.output ∧ w.heap.size ≤ w'.heap.size ∧ ∀ b, b < w.heap.size → b ∉ bs → w'.heap[b]? = w.heap[b]?
def LookMs (M : List (Nat × Blk)) : List Nat → List Blk → Prop
 | [], [] => True
 | i :: ids, k :: ks => lookM M i = some k ∧ k.shut = true ∧ LookMs M ids ks
 | _, _ => False
theorem LookMs.len {M : List (Nat × Blk)} : ∀ {ids : List Nat} {ks : List Blk}, LookMs M ids ks → ids.length = ks.length
 | [], [], _ => rfl
 | [], _ :: _, h => h.elim
 | _ :: _, [], h => h.elim
 | _ :: ids, _ :: ks, h => by simpa using LookMs.len h.2.2
theorem LookMs.at {M : List (Nat × Blk)} : ∀ {ids : List Nat} {ks : List Blk}, LookMs M ids ks → ∀ p, p ∈ ids.zip ks → lookM M p.1 = some p.2 ∧ p.2.shut = true
 | [], [], _, _, hp => by simp at hp
 | [], _ :: _, h, _, _ => h.elim
 | _ :: _, [], h, _, _ => h.elim
 | i :: ids, k :: ks, h, p, hp => by
  rw [List.zip_cons_cons] at hp
  rcases N2.1 hp with rfl | hp
  ·exact ⟨h.1, h.2.1⟩
  ·exact LookMs.at h.2.2 p hp
section
variable {P : Program} {c : Ctx} {s : St} {Q : Exit → St → Prop} {ops : Array Oper} {rest : List Oper} {o : Oper}
def Nh (Γ : Tys) (fn : Func) (ids : List Nat) (r : D) (ks' : List Blk) : Exit → St → Prop
 | .normal, s | .ret, s => ∃ ds' ys, Dw Γ s fn.results.toList ds' ys ∧ tupD ds' = r ∧ ys.Nodup ∧ D.noImm.noImmL ds' = true ∧ LookMs s.M ids ks' ∧ ∀ id, id ∈ ids → Sum.inr id ∉ ys
 | _, _ => False
theorem MW {Γ : Tys} {fn : Func} {ids : List Nat} {r : D} {ks ks' : List Blk} {e : Exit} {ds' : List D} {ys : List (Nat ⊕ Nat)} (he : e = .normal ∨ e = .ret) (h : Dw Γ s fn.results.toList ds' ys) (hn : ys.Nodup) (hi : D.noImm.noImmL ds' = true) (hy : ∀ id, id ∈ ids → Sum.inr id ∉ ys)
  (hl : LookMs s.M ids ks) (hr : tupD ds' = r) (hk : ks = ks') : Nh Γ fn ids r ks' e s := by
 subst hk
 rcases he with rfl | rfl <;> exact ⟨ds', ys, h, hr, hn, hi, hl, hy⟩
theorem Proc.intro {Γ : Tys} (hΓ : Γ.ok P) {f : FuncId} {fn : Func} {code : Code} (hf : P.funcs[f]? = some fn) (hb : fn.body = some code) (hname : (fn.name == "runtime.NumGoroutine") = false) {N : Nat} {ds : List D} {rv : List Value} {rt : List T} {ks : List Blk} {r : D} {ks' : List Blk} (ids : List Nat) (rid : Nat) (fr : List (Nat × D)) (M : List (Nat × Blk))
  (hN : ds.length + (fn.ntmps - ds.length) = N) (hfr : (List.range ds.length).zip ds = fr) (hM : ids.zip ks ++ [(rid, .ro rv rt)] = M) (hids : ids.length = ks.length) (hnd : ids.Nodup) (hrid : rid ∉ ids) (hsh : ks.all Blk.shut = true)
  (h : ∀ w0 G F0, W P ⟨w0, G, F0, N⟩ code ⟨fr, M⟩ (Nh Γ fn ids r ks')) : Proc P f ds rv rt ks r ks' := by
 classical
 subst hfr hM;refine ⟨⟨fn, hf, by rw [hb]; rfl, hname⟩, ?_⟩;intro w F args bs hF hargs hrd hms hbn hblt
 have hlen := hargs.length
 simp only [N1] at hlen
 obtain ⟨mb0, hmb, rfl⟩ := CP hids hnd hms
 have hshut : ∀ p, p ∈ ids.zip ks → p.2.shut = true := fun p hp => by
  rw [Np] at hsh;exact hsh p.2 (List.of_mem_zip (a := p.1) (b := p.2) hp).2
 have hin : ∀ {i b}, i ∈ ids → b ∈ mb0 i → b ∈ ids.flatMap mb0 := fun hi hb => ON.2 ⟨_, hi, hb⟩
 refine calls_of_wp hf hb ?_
 have h0 : Is ⟨w, fun b => b ∈ ids.flatMap mb0, F, N⟩ ⟨(List.range ds.length).zip ds, ids.zip ks ++ [(rid, .ro rv rt)]⟩ { tmps := args ++ Array.replicate (fn.ntmps - args.size) undef, defers := [] } w := by
  refine ⟨F, fun _ => none, fun _ => [], fun i => if i ∈ ids then mb0 i else [], fun b => if h : ∃ i, i ∈ ids ∧ b ∈ mb0 i then some (.inr h.choose) else none, ?_⟩
  have hlook : ∀ (l : List D) (k t : Nat), look ((List.range' k l.length).zip l) (k + t) = (l[t]?).getD .top := by
   intro l
   induction l with
   | nil => intro k t; simp [look]
   | cons d l ih =>
    intro k t;rw [Nx, List.range'_succ, List.zip_cons_cons];simp only [look]
    cases t with
    | zero => simp
    | succ t =>
     rw [if_neg (by omega), show k + (t + 1) = k + 1 + t from by omega, ih]
     simp
  have hl0 : ∀ t, look ((List.range ds.length).zip ds) t = (ds[t]?).getD .top := fun t => by
   have := hlook ds 0 t
   simpa [List.range_eq_range'] using this
  exact {
   fr := fun t => by
    rw [hl0]
    cases hd : ds[t]? with
    | none => exact .top .done
    | some d =>
     have hlt := (List.getElem?_eq_some_iff.1 hd).1
     obtain ⟨v, h1, h2⟩ := hargs.get0 t hd
     have hlt2 : t < args.size := by rw [hlen]; exact hlt
     have hv : (args ++ Array.replicate (fn.ntmps - args.size) undef).getD t undef = v := by
      rw [No, Array.getElem?_append_left hlt2]
      have : args[t]? = some v := by simpa using h1
      rw [this]; rfl
     rw [hv];exact h2
   mem := fun i => by
    by_cases hi : i ∈ ids
    ·obtain ⟨k, h1, h2⟩ := DF (M := [(rid, .ro rv rt)]) hids hi
     rw [h1];simp only [if_pos hi];exact (hmb _ h2).shut (hshut _ h2)
    ·rw [Cm hi]
     simp only [lookM, if_neg hi]
     by_cases hr : rid = i
     ·rw [if_pos hr]; exact ⟨hrd, rfl⟩
     ·rw [if_neg hr]; trivial
   ofr := by simp
   omem := fun i b hb => by
    split at hb
    ·rename_i hi
     have hex : ∃ i, i ∈ ids ∧ b ∈ mb0 i := ⟨i, hi, hb⟩
     rw [dif_pos hex]
     have := hex.choose_spec
     rw [DM hbn this.1 hi this.2 hb]
    ·cases hb
   nfr := by simp
   nmem := fun i => by
    split
    ·rename_i hi; exact flat_nodup_at hbn hi
    ·simp
   own := fun b hb => by
    split at hb
    ·rename_i hex
     obtain ⟨h1, h2⟩ := hex.choose_spec
     have := hblt b (hin h1 h2)
     exact ⟨this.2, this.1, .inr (hin h1 h2)⟩
    ·exact absurd rfl hb
   fin := hF
   f0 := fun _ h => h
   fnew := fun _ h => .inl h
   f0in := fun b h => ⟨hF b h, fun h2 => (hblt b h2).2 h⟩
   gin := fun b h => (hblt b h).1
   os := rfl
   tape := rfl
   output := rfl
   size := Nm _
   keep := fun _ _ _ => rfl
   defers := rfl
   tmps := by simp [hlen, hN] }
 refine Code.wp_mono ?_ (h w _ F _ _ h0)
 rintro e a' w' ⟨s', ⟨F', β, fb, mb, ow, hi⟩, hq⟩
 have key : (∃ ds' ys, Dw Γ s' fn.results.toList ds' ys ∧ tupD ds' = r ∧ ys.Nodup ∧ D.noImm.noImmL ds' = true ∧ LookMs s'.M ids ks' ∧ ∀ id, id ∈ ids → Sum.inr id ∉ ys) → a'.defers = [] ∧ ∃ v, (results fn a'.tmps).run P w' = .ok v w' ∧
   ∃ v' br bs', Ending.returned v = .returned v' ∧ RelD w' CE BS [v'] [r] br ∧ FX w' ks' bs' ∧ (br ++ bs').Nodup ∧ (∀ b, b ∈ br ++ bs' → b ∈ ids.flatMap mb0 ∨ (w.heap.size ≤ b ∧ b < w'.heap.size)) ∧
   w'.os = w.os ∧ w'.tape = w.tape ∧ w'.output = w.output ∧ w.heap.size ≤ w'.heap.size ∧ ∀ b, b < w.heap.size → b ∉ ids.flatMap mb0 → w'.heap[b]? = w.heap[b]? := by
  rintro ⟨ds', ys, h1, hr, h2, h3, h4, h5⟩
  obtain ⟨vs, br, q1, q2, q3, q4⟩ := DQ hΓ hi h1 h2
  have q5 := q2.noImm (F' := CE) (β' := BS) h3
  have hres := Cx (P := P) fn a'.tmps q1
  have hfn : (ids.flatMap mb).Nodup := Cq hnd (fun i _ => hi.nmem i) fun i j b _ _ h6 h7 => by
   have e1 := hi.omem i b h6
   rw [hi.omem j b h7] at e1;cases e1; rfl
  refine ⟨hi.defers, _, hres, _, br, ids.flatMap mb, rfl, ?_, EA h4.len fun p hp => ?_, Nq.2 ⟨q3, hfn, fun p hp q hq e => ?_⟩, fun b hb => ?_, hi.os, hi.tape, hi.output, hi.size, fun b hb hn => hi.keep b hb hn⟩
  ·rw [← hr]
   have hl := q5.length
   match vs, ds', hl, q5 with
   | [], [], _, q5 => cases q5; exact RelD.tup (arr := #[]) (l := []) .done .done
   | [v], [d], _, q5 => exact q5
   | v :: v2 :: vs, d :: d2 :: ds', _, q5 => simpa [tupD] using RelD.tup (arr := (v :: v2 :: vs).toArray) q5 .done
  ·obtain ⟨g1, g2⟩ := h4.at p hp
   have := hi.mem p.1
   rw [g1] at this;exact this.shut g2
  ·subst e
   obtain ⟨y, g1, g2⟩ := q4 p hp
   obtain ⟨i, hii, hpi⟩ := ON.1 hq
   rw [hi.omem i p hpi] at g1;cases g1;exact h5 i hii g2
  ·have : ow b ≠ none := by
    rcases Nn.1 hb with hb | hb
    ·obtain ⟨y, g1, _⟩ := q4 b hb; rw [g1]; simp
    ·obtain ⟨i, hii, hpi⟩ := ON.1 hb; rw [hi.omem i b hpi]; simp
   obtain ⟨_, g2, g3⟩ := hi.own b this
   exact g3.symm.imp (fun h => h) fun h => ⟨h, g2⟩
 cases e with
 | normal => exact key hq
 | ret => exact key hq
 | _ => exact hq.elim
inductive ResP (s : St) (ids : List Nat) : List D → List D → Prop
 | done : ResP s ids [] []
 | t {x ds es} : ResP s ids ds es → ResP s ids (.t x :: ds) (.t x :: es)
 | nil {ds es} (n : Nat) : ResP s ids ds es → ResP s ids (.nil :: ds) (.t (.list n []) :: es)
 | nil' {ds es} : ResP s ids ds es → ResP s ids (.nil :: ds) (.nil :: es)
 | own {n l ds es} : ResP s ids ds es → ResP s ids (.own (.list n l) :: ds) (.t (.list n l) :: es)
 | sl {id off len n xs ds es} : lookM s.M id = some (.L n xs) → ids.contains id = false → off + len ≤ xs.length → ResP s ids ds es → ResP s ids (.sl id off len :: ds) (.t (.list n ((xs.drop off).take len)) :: es)
 | pin {id i off b n cc ds es} (pid : Nat) : lookM s.M pid = some (.pin id b n cc) → ResP s ids ds es → ResP s ids (.ref id i off :: ds) (.t (.v (.pointer (some ⟨b, i * n + off, none⟩))) :: es)
 | agg {l l' ds es} : ResP s ids l l' → ResP s ids ds es → ResP s ids (.agg l :: ds) (.agg l' :: es)
 | aggT {l ts ds es} : ResP s ids l (ts.map D.t) → ResP s ids ds es → ResP s ids (.agg l :: ds) (.t (.agg ts) :: es)
 | top {d ds es} : ResP s ids ds es → ResP s ids (d :: ds) (.top :: es)
theorem ResP.sound {a : Act} {w : World} {F β fb mb ow} (hi : Conc c s a w F β fb mb ow) {ids : List Nat} {ds es : List D} (h : ResP s ids ds es) : ∀ {vs bs}, RelD w F β vs ds bs → (∀ b, b ∈ bs → ∃ t, ow b = some (.inl t)) →
  RelD w (fun b => b < w.heap.size ∧ ∀ i, i ∈ ids → b ∉ mb i) BS vs es [] := by
 have hFa : ∀ b, F b → b < w.heap.size ∧ ∀ i, i ∈ ids → b ∉ mb i := fun b hb => ⟨hi.fin b hb, fun i _ h => (hi.own b (by rw [hi.omem i b h]; simp)).1 hb⟩
 have hFt : ∀ b t, ow b = some (.inl t) → b < w.heap.size ∧ ∀ i, i ∈ ids → b ∉ mb i := fun b t hb => ⟨(hi.own b (by rw [hb]; simp)).2.1, fun i _ h => by rw [hi.omem i b h] at hb; cases hb⟩
 induction h with
 | done => intro vs bs hr _; cases hr; exact .done
 | t _ ih =>
  intro vs bs hr hb
  cases hr with
  | t h1 h2 => exact .t (h1.mono hFa fun _ _ => rfl) (ih h2 hb)
  | tagg h1 h2 => exact .tagg (h1.mono hFa fun _ _ => rfl) (ih h2 hb)
 | nil n _ ih =>
  intro vs bs hr hb
  cases hr with
  | nil h2 => exact .t (.none .nil) (ih h2 hb)
 | nil' _ ih =>
  intro vs bs hr hb
  cases hr with
  | nil h2 => exact .nil (ih h2 hb)
 | own _ ih =>
  intro vs bs hr hb
  cases hr with
  | own h1 h2 => exact .t (h1.rel fun b h => by obtain ⟨t, ht⟩ := hb b (by simp [h]); exact hFt b t ht) (ih h2 fun b h => hb b (by simp [h]))
 | @sl id off len n xs ds es hM hni hle _ ih =>
  intro vs bs hr hb
  have hid : id ∉ ids := by simpa using hni
  have hm := hi.mem id
  rw [hM] at hm
  have hFm : ∀ b, b ∈ mb id → b < w.heap.size ∧ ∀ i, i ∈ ids → b ∉ mb i := fun b hb' => ⟨(hi.own b (by rw [hi.omem id b hb']; simp)).2.1, fun i hii h => by
   have e1 := hi.omem i b h
   rw [hi.omem id b hb'] at e1;cases e1
   exact hid hii⟩
  have hlen : ((xs.drop off).take len).length = len := by simp; omega
  cases hr with
  | slnil q1 q2 =>
   refine .t ?_ (ih q2 hb);rw [List.take_zero];exact .none .nil
  | @sl _ _ _ ad b n' cap k _ _ _ q1 q2 q3 q4 q5 =>
   refine .t ?_ (ih q5 hb)
   rcases hm with ⟨h, _⟩ | ⟨b1, cap1, arr, e, bs1, h1, h2, h3, h4, h5, h6, h7, h8⟩
   ·rw [h] at q1; cases q1
   ·rw [h1] at q1
    cases q1
    by_cases h0 : k = 0
    ·have hl0 : len = 0 := by omega
     subst hl0;rw [List.take_zero];exact .none .nil
    ·have := q4 h0
     subst this
     have hrel := h7.rel (F := fun b => b < w.heap.size ∧ ∀ i, i ∈ ids → b ∉ mb i) fun b' hb' => hFm b' (by rw [h8]; simp [hb'])
     have h9 := (hrel.drop (off * n)).take (len * n)
     rw [FM h4, CC fun z hz => h4 z (List.mem_of_mem_drop hz)] at h9
     have h10 := RelL.list (o := off * n) (cap := k) (xs := (xs.drop off).take len) (n := n) (fz := (0, 0)) (F := fun b => b < w.heap.size ∧ ∀ i, i ∈ ids → b ∉ mb i) (hFm b (by rw [h8]; simp)) h2 (fun j hj => by
      simp only [N0, OS, N1] at hj;simp only [List.getElem?_take, List.getElem?_drop];rw [if_pos (by omega), if_pos (by omega)]
      simp) (fun z hz => h4 z (List.mem_of_mem_drop (Oa hz))) (by rw [hlen]; exact q2) h9 .nil
     rw [hlen] at h10;exact h10
 | @pin id i off b n cc ds es pid hM _ ih =>
  intro vs bs hr hb
  have hm := hi.mem pid
  rw [hM] at hm
  cases hr with
  | ref q1 q2 =>
   have := hm.1
   rw [this] at q1;cases q1;exact .t (.v rfl .nil) (ih q2 hb)
 | agg _ _ ih1 ih2 =>
  intro vs bs hr hb
  cases hr with
  | agg h0 h1 h2 => exact .agg h0 (ih1 h1 fun b h => hb b (by simp [h])) (ih2 h2 fun b h => hb b (by simp [h]))
 | aggT _ _ ih1 ih2 =>
  intro vs bs hr hb
  cases hr with
  | agg h0 h1 h2 => exact .tagg (Cj (ih1 h1 fun b h => hb b (by simp [h])) h0) (ih2 h2 fun b h => hb b (by simp [h]))
 | top _ ih =>
  intro vs bs hr hb
  cases vs with
  | nil => cases hr
  | cons v vs =>
   obtain ⟨b1, b2, _, h2, rfl⟩ := hr.cons
   exact .top (ih h2 fun b h => hb b (by simp [h]))
theorem FA {a : Act} {w : World} {F β fb mb ow} (h : Conc c s a w F β fb mb ow) : ∀ l : List Operand, ∃ bs, RelD w F β (l.map a.eval) (l.map (opd s.fr)) bs ∧ ∀ b, b ∈ bs → ∃ t, ow b = some (.inl t)
 | [] => ⟨[], .done, by simp⟩
 | x :: l => by
  obtain ⟨bs, hr, h1⟩ := h.opd x
  obtain ⟨bs', hr', h2⟩ := FA h l
  refine ⟨bs ++ bs', RelD.cons' hr hr', fun b hb => ?_⟩
  rcases Nn.1 hb with hb | hb
  ·rcases h1 with rfl | ⟨t, _, rfl⟩
   ·cases hb
   ·exact ⟨t, h.ofr t b hb⟩
  ·exact h2 b hb
theorem Conc.lent {a : Act} {w w' : World} {F β fb mb ow} (hi : Conc c s a w F β fb mb ow) {t : Nat} (ht : t < c.n) {v : Value} {r : D} {br bs' : List Nat} {ids : List Nat} {ks' : List Blk} (hnd : ids.Nodup) (hl : ids.length = ks'.length) (hsh : ks'.all Blk.shut = true) (hrn : r.noImm = true)
  (q1 : RelD w' CE BS [v] [r] br) (q2 : FX w' ks' bs') (q3 : (br ++ bs').Nodup) (q4 : ∀ b, b ∈ br ++ bs' → b ∈ ids.flatMap mb ∨ (w.heap.size ≤ b ∧ b < w'.heap.size))
  (q5 : w'.os = w.os) (q6 : w'.tape = w.tape) (q7 : w'.output = w.output) (q8 : w.heap.size ≤ w'.heap.size) (q9 : ∀ b, b < w.heap.size → b ∉ ids.flatMap mb → w'.heap[b]? = w.heap[b]?) : Is c ⟨(t, r) :: s.fr, ids.zip ks' ++ s.M⟩ (a.put (some t) v) w' := by
 classical
 obtain ⟨mbn, hmb, rfl⟩ := CP hl hnd q2
 obtain ⟨n1, n2, n3⟩ := Nq.1 q3
 have hshut : ∀ p, p ∈ ids.zip ks' → p.2.shut = true := fun p hp => by
  rw [Np] at hsh;exact hsh p.2 (List.of_mem_zip (a := p.1) (b := p.2) hp).2
 have hlent : ∀ b, b ∈ ids.flatMap mb → ∃ i, i ∈ ids ∧ ow b = some (.inr i) := fun b hb => by
  obtain ⟨i, h1, h2⟩ := ON.1 hb
  exact ⟨i, h1, hi.omem i b h2⟩
 -- a block of what is not lent
 have stay : ∀ b y, ow b = some y → (∀ i, i ∈ ids → y ≠ .inr i) → b ∉ ids.flatMap mb ∧ b ∉ br ∧ (¬ ∃ i, i ∈ ids ∧ b ∈ mbn i) ∧ w'.heap[b]? = w.heap[b]? := fun b y hy hne => by
  have h1 : b ∉ ids.flatMap mb := fun h => by
   obtain ⟨i, h2, h3⟩ := hlent b h
   rw [hy] at h3; cases h3;exact hne i h2 rfl
  have hlt := (hi.own b (by rw [hy]; simp)).2.1
  have h2 : b ∉ br ++ ids.flatMap mbn := fun h => by
   rcases q4 b h with h | h
   ·exact h1 h
   ·omega
  refine ⟨h1, fun h => h2 (by simp [h]), fun ⟨i, h3, h4⟩ => h2 (List.mem_append_right _ (ON.2 ⟨i, h3, h4⟩)), q9 b hlt h1⟩
 have hFw : ∀ b, F b → w'.heap[b]? = w.heap[b]? := fun b hb => q9 b (hi.fin b hb) fun h => by
  obtain ⟨i, _, h3⟩ := hlent b h
  exact (hi.own b (by rw [h3]; simp)).1 hb
 refine ⟨F, β, fun u => if t = u then br else fb u, fun i => if i ∈ ids then mbn i else mb i, fun b => if b ∈ br then some (.inl t) else if h : ∃ i, i ∈ ids ∧ b ∈ mbn i then some (.inr h.choose) else if b ∈ ids.flatMap mb then none else ow b, ?_⟩
 have howof : ∀ b y, ow b = some y → (∀ i, i ∈ ids → y ≠ .inr i) → (if b ∈ br then some (.inl t) else if h : ∃ i, i ∈ ids ∧ b ∈ mbn i then some (.inr h.choose) else if b ∈ ids.flatMap mb then none else ow b) = some y := fun b y hy hne => by
  obtain ⟨h1, h2, h3, _⟩ := stay b y hy hne
  rw [if_neg h2, dif_neg h3, if_neg h1, hy]
 exact { hi with
  fr := fun u => by
   rw [B0 _ _ _ _ (by rw [hi.tmps]; exact ht)];simp only [look];split
   ·exact q1.noImm (by simp [D.noImm.noImmL, hrn])
   ·exact (hi.fr u).mono (fun _ h => h) hFw (fun b h => (stay b _ (hi.ofr u b h) (by simp)).2.2.2) fun _ => rfl
  mem := fun i => by
   by_cases hii : i ∈ ids
   ·obtain ⟨k, h1, h2⟩ := DF (M := s.M) hl hii
    rw [h1];simp only [if_pos hii];exact (hmb _ h2).shut (hshut _ h2)
   ·rw [Cm hii]
    simp only [if_neg hii]
    have := hi.mem i
    cases h : lookM s.M i with
    | none => rw [h] at this; exact this
    | some k =>
     rw [h] at this
     exact RelB.mono this hFw fun b h => (stay b _ (hi.omem i b h) (fun j hj e => by cases e; exact hii hj)).2.2.2
  ofr := fun u b hb => by
   split at hb
   ·rename_i e; subst e; rw [if_pos hb]
   ·exact howof b _ (hi.ofr u b hb) (by simp)
  omem := fun i b hb => by
   split at hb
   ·rename_i hii
    have hnb : b ∉ br := fun h => n3 b h b (ON.2 ⟨i, hii, hb⟩) rfl
    have hex : ∃ i, i ∈ ids ∧ b ∈ mbn i := ⟨i, hii, hb⟩
    rw [if_neg hnb, dif_pos hex]
    have := hex.choose_spec
    rw [DM n2 this.1 hii this.2 hb]
   ·rename_i hii
    exact howof b _ (hi.omem i b hb) (fun j hj e => by cases e; exact hii hj)
  nfr := fun u => by
   split
   ·exact n1
   ·exact hi.nfr u
  nmem := fun i => by
   split
   ·rename_i hii; exact flat_nodup_at n2 hii
   ·exact hi.nmem i
  own := fun b hb => by
   have hq : b ∈ br ++ ids.flatMap mbn → ¬ F b ∧ b < w'.heap.size ∧ (c.w0.heap.size ≤ b ∨ c.G b) := fun h => by
    rcases q4 b h with h | ⟨h1, h2⟩
    ·obtain ⟨i, _, h3⟩ := hlent b h
     obtain ⟨g1, g2, g3⟩ := hi.own b (by rw [h3]; simp)
     exact ⟨g1, OO g2 q8, g3⟩
    ·exact ⟨fun h => by have := hi.fin b h; omega, h2, .inl (N7 hi.size h1)⟩
   split at hb
   ·rename_i h; exact hq (by simp [h])
   ·split at hb
    ·rename_i h; obtain ⟨i, h1, h2⟩ := h; exact hq (List.mem_append_right _ (ON.2 ⟨i, h1, h2⟩))
    ·split at hb
     ·exact absurd rfl hb
     ·obtain ⟨g1, g2, g3⟩ := hi.own b hb
      exact ⟨g1, OO g2 q8, g3⟩
  fin := fun b h => OO (hi.fin b h) q8
  os := q5.trans hi.os
  tape := q6.trans hi.tape
  output := q7.trans hi.output
  size := N7 hi.size q8
  keep := fun b h hg => by
   rw [q9 b (OO h hi.size) fun h2 => ?_]
   ·exact hi.keep b h hg
   ·obtain ⟨i, _, h3⟩ := hlent b h2
    rcases (hi.own b (by rw [h3]; simp)).2.2 with h4 | h4
    ·omega
    ·exact hg h4
  defers := (BP a _ v).trans hi.defers
  tmps := (B8 a _ v).trans hi.tmps }
theorem Jk {t rid : Nat} {fo : Operand} {args : Array Operand} {tys : Array TypeId} {f : FuncId} {es : List D} {rv : List Value} {rt : List T} {ks : List Blk} {r : D} {ks' : List Blk} (ids : List Nat) (hg : o.guard = none) (hd : o.dst = some t) (ht : t < c.n)
  (ho : o.op = .call { callee := .value fo, args := args, argTypes := tys }) (hf : opd s.fr fo = .clo f []) (hes : ResP s ids (args.toList.map (opd s.fr)) es) (hro : lookM s.M rid = some (.ro rv rt)) (hM : LookMs s.M ids ks) (hnd : ids.Nodup)
  (hm : Proc P f es rv rt ks r ks') (hr : r.noImm = true) (hl' : ids.length = ks'.length) (hks' : ks'.all Blk.shut = true)
  (k : WO P c ops rest ⟨(t, r) :: s.fr, ids.zip ks' ++ s.M⟩ Q) : WO P c ops (o :: rest) s Q := by
 rintro a w ⟨F, β, fb, mb, ow, hi⟩
 obtain ⟨bf, hrf, h1⟩ := hi.opd fo
 rw [hf] at hrf
 obtain ⟨arr, bs', hv, hr1, rfl⟩ := Br hrf
 have ha : arr = #[] := by
  have := hr1.length
  simpa using this
 subst ha
 obtain ⟨bs, hr2, h2⟩ := FA hi args.toList
 have hsound := hes.sound hi hr2 h2
 have hrun : (execOp a.eval o).run P w = .ok (.enter f (args.map a.eval)) w := by
  simp [execOp, ho, resolve, hv, Deferred.ofValue, invoke, Bq hm.1]
 refine wpList_plain hg fun K hK => ?_
 unfold Oper.wp;rw [hrun, Oper.upon_enter]
 have hrel : ∀ p, p ∈ ids.zip ks → RelB w CE BS 0 p.2 (mb p.1) := fun p hp => by
  obtain ⟨g1, g2⟩ := hM.at p hp
  have := hi.mem p.1
  rw [g1] at this;exact this.shut g2
 have hfn : (ids.flatMap mb).Nodup := Cq hnd (fun i _ => hi.nmem i) fun i j b _ _ h6 h7 => by
  have e1 := hi.omem i b h6
  rw [hi.omem j b h7] at e1;cases e1; rfl
 have hrr := hi.mem rid
 rw [hro] at hrr;refine (hm.2 w (fun b => b < w.heap.size ∧ ∀ i, i ∈ ids → b ∉ mb i) (args.map a.eval) (ids.flatMap mb) (fun b h => h.1) (by simpa using hsound) (hrr.1.mono (fun b hb => ⟨hi.fin b hb, fun i _ h => (hi.own b (by rw [hi.omem i b h]; simp)).1 hb⟩) fun _ _ => rfl) (EA hM.len hrel) hfn fun b hb => ?_).mono ?_
 ·obtain ⟨i, h3, h4⟩ := ON.1 hb
  exact ⟨(hi.own b (by rw [hi.omem i b h4]; simp)).2.1, fun h => h.2 i h3 h4⟩
 rintro e w' ⟨v, br, bs', rfl, q1, q2, q3, q4, q5, q6, q7, q8, q9⟩
 dsimp only;rw [hd];exact hK _ _ (k _ _ (hi.lent ht hnd hl' hks' hr q1 q2 q3 q4 q5 q6 q7 q8 q9))
/-! ### Places that are told -/
theorem Is.pin {a : Act} {w : World} (h : Is c s a w) {u pid : Nat} {cells : List D} (hM : lookM s.M u = some (.box cells)) (h2 : lookM s.M pid = none) : ∃ b, Is c ⟨s.fr, (pid, .pin u b cells.length 1) :: s.M⟩ a w := by
 obtain ⟨F, β, fb, mb, ow, hi⟩ := h
 have hm := hi.mem u
 rw [hM] at hm
 obtain ⟨b, arr, e, bs', h1, h3⟩ := hm
 refine ⟨b, F, β, fb, mb, ow, { hi with mem := fun i => ?_ }⟩;simp only [lookM]
 by_cases hp : pid = i
 ·subst hp
  rw [if_pos rfl]
  have := hi.mem pid
  rw [h2] at this;exact ⟨h1, this⟩
 ·rw [if_neg hp]; exact hi.mem i
theorem Mu {l : List Oper} {u pid : Nat} {cells : List D} (hM : lookM s.M u = some (.box cells)) (h2 : lookM s.M pid = none) (k : ∀ b, WO P c ops l ⟨s.fr, (pid, .pin u b cells.length 1) :: s.M⟩ Q) : WO P c ops l s Q :=
 fun a w h => by obtain ⟨b, hb⟩ := h.pin hM h2; exact k b a w hb
theorem W_pin {x : Code} {u pid : Nat} {cells : List D} (hM : lookM s.M u = some (.box cells)) (h2 : lookM s.M pid = none) (k : ∀ b, W P c x ⟨s.fr, (pid, .pin u b cells.length 1) :: s.M⟩ Q) : W P c x s Q :=
 fun a w h => by obtain ⟨b, hb⟩ := h.pin hM h2; exact k b a w hb
theorem Le.close {u b n : Nat} {cells : List D} (pid : Nat) (hM : lookM s.M u = some (.box cells)) (hp : lookM s.M pid = some (.pin u b n 1)) (hc : D.noImm.noImmL cells = true) : Le c s ⟨s.fr, (u, .obox (.pointer (some ⟨b, 0, none⟩)) cells) :: s.M⟩ := by
 rintro a w ⟨F, β, fb, mb, ow, hi⟩
 have hm := hi.mem u
 rw [hM] at hm
 obtain ⟨b', arr, e, bs', h1, h2, h3, h4, h5⟩ := hm
 have h6 := hi.mem pid
 rw [hp] at h6;rw [h6.1] at h1;cases h1;refine ⟨F, β, fb, mb, ow, { hi with mem := fun i => ?_ }⟩;simp only [lookM]
 by_cases hu : u = i
 ·subst hu
  rw [if_pos rfl];exact .inr ⟨b, arr, e, bs', rfl, h2, h3.noImm hc, h4, h5⟩
 ·rw [if_neg hu]; exact hi.mem i
theorem Le.open {u b n : Nat} {cells : List D} (pid : Nat) (hM : lookM s.M u = some (.obox (.pointer (some ⟨b, 0, none⟩)) cells)) (hp : lookM s.M pid = some (.pin u b n 1)) (hn : n = cells.length) (hc : D.noImm.noImmL cells = true) : Le c s ⟨s.fr, (u, .box cells) :: s.M⟩ := by
 subst hn
 rintro a w ⟨F, β, fb, mb, ow, hi⟩
 have hm := hi.mem u
 rw [hM] at hm
 have h6 := hi.mem pid
 rw [hp] at h6
 rcases hm with ⟨h, _⟩ | ⟨b', arr, e, bs', h1, h2, h3, h4, h5⟩
 ·cases h
 cases h1;refine ⟨F, β, fb, mb, ow, { hi with mem := fun i => ?_ }⟩;simp only [lookM]
 by_cases hu : u = i
 ·subst hu
  rw [if_pos rfl];exact ⟨b, arr, e, bs', h6.1, h2, h3.noImm hc, h4, h5⟩
 ·rw [if_neg hu]; exact hi.mem i
theorem FQ {t : Nat} : ∀ {M : List (Nat × Blk)}, (M.all fun p => Ai t p.2) = true → ∀ id k, lookM M id = some k → Ai t k = true
 | [], _, _, _, h => by cases h
 | (j, k0) :: M, h, id, k, hk => by
  rw [Oe, Nk] at h;simp only [lookM] at hk;split at hk
  ·cases hk; exact h.1
  ·exact FQ h.2 id k hk
theorem Le.openNew {u b : Nat} {cells : List D} (pid : Nat) (hM : lookM s.M u = some (.obox (.pointer (some ⟨b, 0, none⟩)) cells)) (h2 : lookM s.M pid = none) (hc : D.noImm.noImmL cells = true) (h3 : Gu u s.fr = true) (h4 : (s.M.all fun p => Ai u p.2) = true) :
  Le c s ⟨s.fr, (u, .box cells) :: (pid, .pin u b cells.length 1) :: s.M⟩ := by
 rintro a w ⟨F, β, fb, mb, ow, hi⟩
 have hm := hi.mem u
 rw [hM] at hm
 rcases hm with ⟨h, _⟩ | ⟨b', arr, e, bs', q1, q2, q3, q4, q5⟩
 ·cases h
 cases q1
 have hup : ¬ u = pid := fun e => by rw [e, h2] at hM; cases hM
 have hβ : ∀ i, i ≠ u → (fun i => if i = u then some (b, cells.length, 1) else β i) i = β i := fun i h => by simp [h]
 have hcm := FQ h4
 refine ⟨F, fun i => if i = u then some (b, cells.length, 1) else β i, fb, mb, ow, { hi with fr := fun t => (hi.fr t).other hβ (by simp only [D.has.hasL, OL]; exact B1 h3 t), mem := fun i => ?_ }⟩;simp only [lookM]
 by_cases hu : u = i
 ·subst hu
  rw [if_pos rfl];exact ⟨b, arr, e, bs', by simp, q2, q3.noImm hc, q4, q5⟩
 ·rw [if_neg hu]
  by_cases hp : pid = i
  ·subst hp
   rw [if_pos rfl]
   have := hi.mem pid
   rw [h2] at this;exact ⟨by simp, this⟩
  ·rw [if_neg hp]
   have hm := hi.mem i
   cases hk : lookM s.M i with
   | none => rw [hk] at hm; exact hm
   | some k =>
    rw [hk] at hm
    have hck := hcm i k hk
    have hiu : ¬ i = u := fun e => hu e.symm
    cases k with
    | L n' xs' =>
     rcases hm with ⟨g1, g2, g3⟩ | ⟨b, cap, arr', e', bs', g1, g⟩
     ·exact .inl ⟨by dsimp only; rw [if_neg hiu]; exact g1, g2, g3⟩
     ·exact .inr ⟨b, cap, arr', e', bs', by dsimp only; rw [if_neg hiu]; exact g1, g⟩
    | box cs =>
     obtain ⟨b, arr', e', bs', g1, g2, g3, g4, g5⟩ := hm
     simp only [Ai, N9] at hck;exact ⟨b, arr', e', bs', by dsimp only; rw [if_neg hiu]; exact g1, g2, g3.other hβ hck, g4, g5⟩
    | raw _ _ _ _ => exact hm
    | rawV _ _ => exact hm
    | ro _ _ => exact hm
    | pin j b n c =>
     simp only [Ai, N9, beq_eq_false_iff_ne] at hck;exact ⟨by dsimp only; rw [if_neg hck]; exact hm.1, hm.2⟩
    | obox _ _ => exact hm
    | bld _ _ _ _ => exact hm
    | row _ _ _ _ => exact hm
theorem Le.named {t u b n cc off : Nat} (pid : Nat) (h1 : look s.fr t = .t (.v (.pointer (some ⟨b, off, none⟩)))) (hp : lookM s.M pid = some (.pin u b n cc)) : Le c s ⟨(t, .ref u 0 off) :: s.fr, s.M⟩ := by
 rintro a w ⟨F, β, fb, mb, ow, hi⟩
 have h6 := hi.mem pid
 rw [hp] at h6
 have hr := hi.fr t
 rw [h1] at hr
 have e1 := A1 hr
 have hf : fb t = [] := hr.free1 rfl
 refine ⟨F, β, fb, mb, ow, { hi with fr := fun v => ?_ }⟩;simp only [look];split
 ·rename_i e
  subst e;rw [e1, hf]
  have := RelD.ref (w := w) (F := F) (β := β) (i := 0) (off := off) h6.1 RelD.done
  simpa using this
 ·exact hi.fr v
theorem Le.untell {t : Nat} {v : Value} {x : T} {rv : List Value} {rt : List T} (rid j : Nat) (h1 : look s.fr t = .t (.v v)) (hp : lookM s.M rid = some (.ro rv rt)) (hv : rv[j]? = some v) (hx : rt[j]? = some x) : Le c s ⟨(t, .t x) :: s.fr, s.M⟩ := by
 rintro a w ⟨F, β, fb, mb, ow, hi⟩
 have h6 := hi.mem rid
 rw [hp] at h6
 have hr := hi.fr t
 rw [h1] at hr
 have e1 := A1 hr
 have hf : fb t = [] := hr.free1 rfl
 obtain ⟨v', g1, g2⟩ := h6.1.get j hx
 rw [hv] at g1;cases g1;refine ⟨F, β, fb, mb, ow, { hi with fr := fun u => ?_ }⟩;simp only [look];split
 ·rename_i e
  subst e;rw [e1, hf];exact .t g2 .done
 ·exact hi.fr u
end
end Go.Eng
end
section
/- Some of the values of a list kept, the others let go. -/
namespace Go.Eng
open Go.RowKit
section
variable {P : Program} {c : Ctx} {s : St}
end
end Go.Eng
end
section
/- Statements of open order in which operations write into memory: what each leaves is told, and where two are not ordered they do not meet. -/
namespace Go.Eng
open Go.RowKit
def JO (prev : List Nat) (o : Oper) : Nat := o.after.toList.foldr (fun e m => if Region.binds .any e then m ||| 2 ^ e.on ||| prev.getD e.on 0 else m) 0
def C5 (ops : Array Oper) : Nat → List Nat
 | 0 => []
 | k + 1 => match ops[k]? with
  | some o => C5 ops k ++ [JO (C5 ops k) o]
  | none => C5 ops k ++ [0]
theorem DU (ops : Array Oper) : ∀ k, (C5 ops k).length = k
 | 0 => rfl
 | k + 1 => by
  rw [C5]
  split <;> simp [DU ops k]
theorem IV {prev : List Nat} {o : Oper} {j : Nat} (h : (JO prev o).testBit j = true) : ∃ e, e ∈ o.after ∧ Region.binds .any e = true ∧ (e.on = j ∨ (prev.getD e.on 0).testBit j = true) := by
 unfold JO at h
 have key : ∀ l : List Edge, (l.foldr (fun e m => if Region.binds .any e then m ||| 2 ^ e.on ||| prev.getD e.on 0 else m) 0).testBit j = true → ∃ e, e ∈ l ∧ Region.binds .any e = true ∧ (e.on = j ∨ (prev.getD e.on 0).testBit j = true) := by
  intro l
  induction l with
  | nil => intro h; simp at h
  | cons e l ih =>
   intro h;rw [List.foldr_cons] at h;split at h
   ·rename_i hb
    rw [Nat.testBit_or, Nat.testBit_or, Bool.or_eq_true, Bool.or_eq_true] at h
    rcases h with (h | h) | h
    ·obtain ⟨e', h1, h2⟩ := ih h
     exact ⟨e', OB _ h1, h2⟩
    ·rw [Nat.testBit_two_pow] at h
     exact ⟨e, OP .., hb, .inl (by simpa using h)⟩
    ·exact ⟨e, OP .., hb, .inr h⟩
   ·obtain ⟨e', h1, h2⟩ := ih h
    exact ⟨e', OB _ h1, h2⟩
 obtain ⟨e, h1, h2⟩ := key _ h
 exact ⟨e, by simpa using h1, h2⟩
theorem LP {ops : Array Oper} : ∀ {k i : Nat}, i < k → ∀ {o}, ops[i]? = some o → (C5 ops k).getD i 0 = JO (C5 ops i) o
 | 0, _, h, _, _ => by omega
 | k + 1, i, h, o, ho => by
  rw [C5]
  by_cases e : i = k
  ·subst e
   rw [ho]
   simp [DU, OT]
  ·have ih := LP (k := k) (i := i) (by omega) ho
   split
   ·rw [OT, List.getElem?_append_left (by rw [DU]; omega), ← OT]; exact ih
   ·rw [OT, List.getElem?_append_left (by rw [DU]; omega), ← OT]; exact ih
theorem Gw {ops : Array Oper} {i : Nat} {x : Nat} : ∀ {k : Nat}, i ≤ k → x < i → (C5 ops k).getD x 0 = (C5 ops i).getD x 0
 | 0, h, h2 => by omega
 | k + 1, h, h2 => by
  by_cases e : i = k + 1
  ·subst e; rfl
  ·rw [C5]
   split
   ·rw [OT, List.getElem?_append_left (by rw [DU]; omega), ← OT]; exact Gw (by omega) h2
   ·rw [OT, List.getElem?_append_left (by rw [DU]; omega), ← OT]; exact Gw (by omega) h2
def rch (A : List Nat) (i j : Nat) : Bool := (A.getD i 0).testBit j
section
variable {ops : Array Oper} {X : Nat → Bool}
theorem DR (hlt : ∀ k ok, ops[k]? = some ok → ∀ e, e ∈ ok.after → Region.binds .any e = true → e.on < k) {n : Nat} (hn : n ≤ ops.size) (hcl : ∀ j oj, ops[j]? = some oj → j < n → X j = true → ∀ e, e ∈ oj.after → Region.binds .any e = true → X e.on = true) :
  ∀ i, i < n → ∀ j, rch (C5 ops n) i j = true → (∀ oi, ops[i]? = some oi → ∀ e, e ∈ oi.after → Region.binds .any e = true → X e.on = true) → X j = true ∧ j < i := by
 intro i
 induction i using Nat.strongRecOn with
 | _ i ih =>
  intro hi j hr hd
  have hoi : ops[i]? = some ops[i] := Array.getElem?_eq_getElem (by omega)
  unfold rch at hr;rw [LP hi hoi] at hr
  obtain ⟨e, h1, h2, h3⟩ := IV hr
  have hX := hd _ hoi e h1 h2
  have hei := hlt i _ hoi e h1 h2
  rcases h3 with h3 | h3
  ·subst h3; exact ⟨hX, hei⟩
  ·have h4 := ih e.on hei (by omega) j (by
    unfold rch;rw [Gw (i := i) (by omega) hei]
    exact h3) fun oi ho e' he' hb' => hcl e.on oi ho (by omega) hX e' he' hb'
   exact ⟨h4.1, by omega⟩
end
def Dl.ws (x : Dl) : List Nat := x.t :: x.mv
theorem EH {x : Dl} {u : Nat} : inF x.fr u = x.ws.contains u := by
 rw [Bool.eq_iff_iff];simp only [inF, Dl.fr, Dl.ws, List.any_cons, List.any_map, Bool.or_eq_true, beq_iff_eq, OJ, Function.comp, List.contains_eq_mem, decide_eq_true_eq, N2]
 constructor
 ·rintro (h | ⟨v, hv, rfl⟩)
  ·exact .inl h.symm
  ·exact .inr hv
 ·rintro (h | h)
  ·exact .inl h.symm
  ·exact .inr ⟨u, h, rfl⟩
def CG (b : List Nat) (M : List (Nat × Blk)) : List (Nat × Blk) := M.filter fun p => !b.contains p.1
theorem CQ {b : List Nat} {id : Nat} {k : Blk} : ∀ {M : List (Nat × Blk)}, lookM (CG b M) id = some k → b.contains id = false ∧ lookM M id = some k
 | [], h => by cases h
 | (j, k0) :: M, h => by
  unfold CG at h;rw [List.filter_cons] at h
  by_cases hj : b.contains j = true
  ·simp only [hj, Oj, Bool.false_eq_true, if_false] at h
   obtain ⟨h1, h2⟩ := CQ (M := M) h
   refine ⟨h1, ?_⟩;rw [lookM, if_neg (fun e => by subst e; rw [h1] at hj; cases hj)];exact h2
  ·have hj' : b.contains j = false := by simpa using hj
   simp only [hj', Bool.not_false, if_true] at h;rw [lookM] at h;split at h
   ·rename_i e; subst e; cases h; exact ⟨hj', by rw [lookM, if_pos rfl]⟩
   ·rename_i e
    obtain ⟨h1, h2⟩ := CQ (M := M) h
    exact ⟨h1, by rw [lookM, if_neg e]; exact h2⟩
def NQ (ops : Array Oper) (oi oj : Oper) (xi xj : Dl) (bi bj : List Nat) : Bool :=
 (xj.ws.all fun u => !(oi.looksAt ops).contains u && !xi.ws.contains u) && ((xi.ws.all fun u => !(oj.looksAt ops).contains u) &&
  ((xj.M.all fun p => bi.contains p.1 && !inF xi.M p.1) && (xi.M.all fun p => bj.contains p.1)))
def ED (ops : Array Oper) (A : List Nat) (i j : Nat) (oi oj : Oper) (xi xj : Dl) (bi bj : List Nat) : Bool :=
 (rch A j i || NQ ops oi oj xi xj bi bj) && ((rch A j i || (!xi.b || (Gu xi.t xj.fr && clM xi.t xj.M))) && (!xj.b || (Gu xj.t xi.fr && clM xj.t xi.M)))
def LO (s : St) (x : Dl) : Bool := !x.b || (Gu x.t s.fr && clM x.t s.M)
def Lk (ops : Array Oper) (l : List Oper) (s : St) (xs : List Dl) (bads : List (List Nat)) : Bool :=
 (xs.all (LO s)) && ((List.range l.length).all fun i => (List.range l.length).all fun j => !Nat.blt i j || match l[i]?, l[j]?, xs[i]?, xs[j]? with
  | some oi, some oj, some xi, some xj => ED ops (C5 ops l.length) i j oi oj xi xj (bads.getD i []) (bads.getD j [])
  | _, _, _, _ => false)
section
variable {P : Program} {c : Ctx} {s : St} {Q : Exit → St → Prop} {ops : Array Oper} {rest : List Oper} {o : Oper}
def QH (P : Program) (c : Ctx) (ops : Array Oper) : List (List Nat) → List Oper → St → List Dl → (St → List Dl → Prop) → Prop
 | _, [], s, acc, Q => Q s acc
 | bs, o :: rest, s, acc, Q => ∃ x : Dl, (∀ s', AgreeG ops o s.fr (CG (bs.headD []) s.M) s' → (x.b = true → Cl x.t s') → StepTo P c ops o s' (x.on s')) ∧ QH P c ops bs.tail rest (x.on s) (acc ++ [x]) Q
theorem QH.steps : ∀ {l : List Oper} {bs : List (List Nat)} {s : St} {acc : List Dl} {Q : St → List Dl → Prop}, QH P c ops bs l s acc Q → ∃ xs : List Dl, xs.length = l.length ∧ Q (onL xs s) (acc ++ xs) ∧
  ∀ i o, l[i]? = some o → ∃ x, xs[i]? = some x ∧ ∀ s', AgreeG ops o (onL (xs.take i) s).fr (CG (bs.getD i []) (onL (xs.take i) s).M) s' → (x.b = true → Cl x.t s') → StepTo P c ops o s' (x.on s')
 | [], _, s, acc, Q, h => ⟨[], rfl, by rw [OD]; exact h, by simp⟩
 | o :: rest, bs, s, acc, Q, h => by
  obtain ⟨x, h2, h3⟩ := h
  obtain ⟨xs, q1, q2, q3⟩ := QH.steps h3
  refine ⟨x :: xs, by simp [q1], by simpa [onL] using q2, fun i o' hi => ?_⟩
  cases i with
  | zero =>
   simp at hi; subst hi
   refine ⟨x, rfl, ?_⟩
   have e : bs.getD 0 [] = bs.headD [] := by cases bs <;> rfl
   rw [e];exact h2
  | succ i =>
   obtain ⟨y, p1, p3⟩ := q3 i o' (by simpa using hi)
   refine ⟨y, by simpa using p1, ?_⟩
   have e : bs.getD (i + 1) [] = bs.tail.getD i [] := by cases bs <;> simp
   rw [e]
   simpa [onL] using p3
theorem BN {l : List Oper} {xs : List Dl} {bads : List (List Nat)} (h : Lk ops l s xs bads = true) {i j : Nat} {oi oj : Oper} {xi xj : Dl} (hij : i < j) (h1 : l[i]? = some oi) (h2 : l[j]? = some oj) (h3 : xs[i]? = some xi) (h4 : xs[j]? = some xj) :
  ED ops (C5 ops l.length) i j oi oj xi xj (bads.getD i []) (bads.getD j []) = true := by
 unfold Lk at h;rw [Nk, Np (l := List.range l.length)] at h
 have hi := (List.getElem?_eq_some_iff.1 h1).1
 have hj := (List.getElem?_eq_some_iff.1 h2).1
 have := h.2 i (OW.2 hi)
 rw [Np] at this
 have := this j (OW.2 hj)
 rw [h1, h2, h3, h4] at this
 have hb : Nat.blt i j = true := by simpa using hij
 simpa [hb] using this
theorem FS {l : List Oper} {xs : List Dl} {bads : List (List Nat)} (h : Lk ops l s xs bads = true) {i : Nat} {x : Dl} (h3 : xs[i]? = some x) : LO s x = true := by
 unfold Lk at h;rw [Nk, Np] at h;exact h.1 x (OV h3)
theorem WR_H {ops : Array Oper} (bads : List (List Nat)) (hB : BR ops ops.size = true)
  (h : QH P c ops bads ops.toList s [] (fun s' xs => Lk ops ops.toList s xs bads = true ∧ WO P c ops [] s' Q)) : WR P c ops s Q := by
 obtain ⟨xs, hlen, ⟨hchk, hend⟩, hstep⟩ := h.steps
 simp only [List.nil_append] at hchk
 have hsz : ops.toList.length = ops.size := N1
 have hops : ∀ j : Nat, ops.toList[j]? = ops[j]? := fun j => by simp
 refine WR_S (l1 := ops.toList) (l2 := []) (by simp) (by rw [hsz]; exact hB) (.inl rfl) (fun X => mrg xs X s ops.toList.length) (fun X hX => ?_) (fun X i o ho hXi hcl hdep => ?_) (fun X hX => ?_)
 ·rw [BZ (i := 0) (OQ _) fun j _ => hX j]
  exact Le.refl
 ·have hil : i < ops.toList.length := (List.getElem?_eq_some_iff.1 ho).1
  obtain ⟨x, hx, hst⟩ := hstep i o ho
  have hoi : ops[i]? = some o := by rw [← hops]; exact ho
  have hlt : ∀ k ok, ops[k]? = some ok → ∀ e, e ∈ ok.after → Region.binds .any e = true → e.on < k := fun k ok hk => CB hB hk
  have hcl' : ∀ j oj, ops[j]? = some oj → j < ops.toList.length → X j = true → ∀ e, e ∈ oj.after → Region.binds .any e = true → X e.on = true := fun j oj hj _ hXj => hcl j oj (by rw [hops]; exact hj) hXj
  -- what is done, and what is not
  have after : ∀ j, rch (C5 ops ops.toList.length) i j = true → X j = true := fun j hr => (DR hlt (by omega) hcl' i hil j hr fun oi h' => by rw [hoi] at h'; cases h'; exact hdep).1
  have before : ∀ j, j < ops.toList.length → rch (C5 ops ops.toList.length) j i = true → X j = false := fun j hj hr => by
   cases hXj : X j with
   | false => rfl
   | true =>
    have := (DR hlt (by omega) hcl' j hj i hr fun oj h' e he hb => hcl' j oj h' hj hXj e he hb).1
    rw [hXi] at this; cases this
  have hxat : ∀ {j : Nat}, j < ops.toList.length → ∃ oj y, ops.toList[j]? = some oj ∧ xs[j]? = some y := fun {j} hj => by
   have hlj : ops.toList[j]? = some ops.toList[j] := List.getElem?_eq_getElem hj
   obtain ⟨y, hy, _⟩ := hstep j _ hlj
   exact ⟨_, y, hlj, hy⟩
  have apart : ∀ {j : Nat} {y : Dl}, j < ops.toList.length → j ≠ i → xs[j]? = some y → X j ≠ decide (j < i) →
    (∀ u, y.ws.contains u = true → (o.looksAt ops).contains u = false ∧ x.ws.contains u = false) ∧ (∀ p, p ∈ y.M → (bads.getD i []).contains p.1 = true) ∧ (∀ p, p ∈ y.M → inF x.M p.1 = false) := fun {j y} hj hji hy hne => by
   obtain ⟨oj, y', hlj, hy'⟩ := hxat hj
   rw [hy] at hy'; cases hy'
   rcases Nat.lt_or_gt_of_ne hji with h' | h'
   ·have hp := BN hchk h' hlj ho hy hx
    have hnr : rch (C5 ops ops.toList.length) i j = false := by
     cases hr : rch (C5 ops ops.toList.length) i j with
     | false => rfl
     | true => exact absurd (by rw [after j hr]; simp [h']) hne
    unfold ED at hp;rw [hnr, OX, Nk] at hp
    have hd := hp.1
    unfold NQ at hd;simp only [Nk, Np, N9] at hd
    obtain ⟨d1, d2, d3, d4⟩ := hd
    refine ⟨fun u hu => ⟨d2 u (by simpa using hu), ?_⟩, fun p hp => d4 p hp, fun p hp => ?_⟩
    ·cases hxu : x.ws.contains u with
     | false => rfl
     | true =>
      have := (d1 u (by simpa using hxu)).2
      rw [hu] at this; cases this
    ·cases hin : inF x.M p.1 with
     | false => rfl
     | true =>
      unfold inF at hin;rw [OJ] at hin
      obtain ⟨q, hq1, hq2⟩ := hin
      have := (d3 q hq1).2
      have hin2 : inF y.M q.1 = true := by
       unfold inF;rw [OJ];exact ⟨p, hp, by rw [beq_iff_eq] at hq2 ⊢; exact hq2.symm⟩
      rw [hin2] at this; cases this
   ·have hp := BN hchk h' ho hlj hx hy
    have hnr : rch (C5 ops ops.toList.length) j i = false := by
     cases hr : rch (C5 ops ops.toList.length) j i with
     | false => rfl
     | true => exact absurd (by rw [before j hj hr]; simp; omega) hne
    unfold ED at hp;rw [hnr, OX, Nk] at hp
    have hd := hp.1
    unfold NQ at hd;simp only [Nk, Np, N9] at hd
    obtain ⟨d1, d2, d3, d4⟩ := hd
    exact ⟨fun u hu => d1 u (by simpa using hu), fun p hp => (d3 p hp).1, fun p hp => (d3 p hp).2⟩
  have hag : AgreeG ops o (onL (xs.take i) s).fr (CG (bads.getD i []) (onL (xs.take i) s).M) (mrg xs X s ops.toList.length) := by
   refine ⟨fun id k hk => ?_, fun u hu => ?_⟩
   ·obtain ⟨hb, hk⟩ := CQ hk
    rw [← CF (X := fun j => decide (j < i)) (by omega) (fun j hj => by simpa using hj), ← BZ (X := fun j => decide (j < i)) (i := i) (n := ops.toList.length) (by omega) (fun j hj => by simpa using hj)] at hk;rw [← hk]
    refine Gg fun j y hj hy hin => ?_
    by_cases hje : j = i
    ·subst hje; rw [hXi]; simp
    ·refine Classical.byContradiction fun hne => ?_
     have hap := (apart hj hje hy hne).2.1
     unfold inF at hin;rw [OJ] at hin
     obtain ⟨p, hp1, hp2⟩ := hin
     have := hap p hp1
     rw [show p.1 = id from by simpa using hp2, hb] at this;cases this
   ·rw [← CF (X := fun j => decide (j < i)) (by omega) (fun j hj => by simpa using hj), ← BZ (X := fun j => decide (j < i)) (i := i) (n := ops.toList.length) (by omega) (fun j hj => by simpa using hj)]
    refine EE fun j y hj hy hin => ?_
    by_cases hje : j = i
    ·subst hje; rw [hXi]; simp
    ·refine Classical.byContradiction fun hne => ?_
     have hap := ((apart hj hje hy hne).1 u (by rw [← EH]; exact hin)).1
     rw [List.contains_eq_mem, decide_eq_false_iff_not] at hap;exact hap hu
  have hcl2 : x.b = true → Cl x.t (mrg xs X s ops.toList.length) := fun hb => by
   refine Cl.mrg ?_ fun j y hj hXj hy => ?_
   ·have := FS hchk hx
    unfold LO at this;rw [hb] at this;simp only [Oj, OX, Nk] at this;exact ⟨B1 this.1, (Ba this.2).1, (Ba this.2).2⟩
   ·have hji : j ≠ i := fun e => by subst e; rw [hXi] at hXj; cases hXj
    obtain ⟨oj, y', hlj, hy'⟩ := hxat hj
    rw [hy] at hy'; cases hy'
    rcases Nat.lt_or_gt_of_ne hji with h' | h'
    ·have hp := BN hchk h' hlj ho hy hx
     unfold ED at hp;rw [hb] at hp;simp only [Oj, OX, Nk] at hp;exact hp.2.2
    ·have hp := BN hchk h' ho hlj hx hy
     have hnr : rch (C5 ops ops.toList.length) j i = false := by
      cases hr : rch (C5 ops ops.toList.length) j i with
      | false => rfl
      | true => rw [before j hj hr] at hXj; cases hXj
     unfold ED at hp;rw [hb, hnr] at hp;simp only [Oj, OX, Nk] at hp;exact hp.2.1
  have later : ∀ {j : Nat} {y : Dl}, j < ops.toList.length → i < j → X j = true → xs[j]? = some y → (∀ u, y.ws.contains u = true → x.ws.contains u = false) ∧ ∀ p, p ∈ y.M → inF x.M p.1 = false := fun {j y} hj hij hXj hy => by
   have hap := apart hj (by omega) hy (by rw [hXj]; simp; omega)
   exact ⟨fun u hu => (hap.1 u hu).2, hap.2.2⟩
  intro Q' hQ;refine hst _ hag hcl2 Q' (WO_le (Le.of (fun u => .inl ?_) (fun u => .inl ?_)) hQ)
  ·simp only [Dl.on, look_app]
   split
   ·rename_i hu
    refine Ck hx hXi hu hil fun j y hj hij hXj hy => ?_
    cases hin : inF y.fr u with
    | false => rfl
    | true =>
     have := (later hj hij hXj hy).1 u (by rw [← EH]; exact hin)
     rw [← EH, hu] at this; cases this
   ·rename_i hu
    refine EE fun j y hj hy hin => ?_
    have : (j == i) = false := by
     rw [beq_eq_false_iff_ne];intro e; subst e; rw [hx] at hy; cases hy; exact hu hin
    rw [this, OL]
  ·simp only [Dl.on, lookM_app]
   split
   ·rename_i hu
    refine DE hx hXi hu hil fun j y hj hij hXj hy => ?_
    cases hin : inF y.M u with
    | false => rfl
    | true =>
     unfold inF at hin;rw [OJ] at hin
     obtain ⟨p, hp1, hp2⟩ := hin
     have := (later hj hij hXj hy).2 p hp1
     rw [show p.1 = u from by simpa using hp2, hu] at this;cases this
   ·rename_i hu
    refine Gg fun j y hj hy hin => ?_
    have : (j == i) = false := by
     rw [beq_eq_false_iff_ne];intro e; subst e; rw [hx] at hy; cases hy; exact hu hin
    rw [this, OL]
 ·rw [CF (by omega) hX, Ni (by omega)]
  exact hend
/-! ### The words for it -/
theorem Ar {id : Nat} {ops : Array Oper} (bads : List (List Nat)) (hm : P.follows .mixedOrders = true) (hB : BR ops ops.size = true)
  (h : QH P c ops bads ops.toList s [] (fun s' xs => Lk ops ops.toList s xs bads = true ∧ WO P c ops [] s' Q)) : W P c (.region id ops true) s Q :=
 Ea hm (WR_H bads hB h)
theorem Av {Q : St → List Dl → Prop} {acc : List Dl} {bs : List (List Nat)} (h : Q s acc) : QH P c ops bs [] s acc Q := h
theorem LH (M : List (Nat × Blk)) : CG [] M = M := by
 unfold CG
 exact List.filter_eq_self.2 fun p _ => by simp
theorem AZ {Q : St → List Dl → Prop} {acc : List Dl} {bs : List (List Nat)} (h : QG P c ops s.M [o] s acc (fun s' acc' => QH P c ops bs rest s' acc' Q)) : QH P c ops ([] :: bs) (o :: rest) s acc Q := by
 obtain ⟨x, h1, h2, h3⟩ := h
 refine ⟨x, ?_, h3⟩;rw [List.headD_cons, LH];exact h2
theorem A9 {Q : St → List Dl → Prop} {acc : List Dl} {b : List Nat} {bs : List (List Nat)} (h : QG P c ops (CG b s.M) [o] s acc (fun s' acc' => QH P c ops bs rest s' acc' Q)) : QH P c ops (b :: bs) (o :: rest) s acc Q := by
 obtain ⟨x, h1, h2, h3⟩ := h
 exact ⟨x, h2, h3⟩
theorem AY {Q : St → List Dl → Prop} {acc : List Dl} {bs : List (List Nat)} {l : List Oper} {s' : St} (h : Ca s = some s') (k : QH P c ops bs l s' acc Q) : QH P c ops bs l s acc Q := by rw [Cp h]; exact k
end
end Go.Eng
end
section
/- Rules for what is reached by places: checks for none, cells that are moved out, copies into slices, writes and calls in statements of open order. -/
namespace Go.Eng
open Go.RowKit
def L4 : D → Bool
 | .ref _ _ _ => true
 | .rp _ _ => true
 | .t (.v (.pointer (some _))) => true
 | _ => false
section
variable {P : Program} {c : Ctx} {s : St} {Q : Exit → St → Prop} {ops : Array Oper} {rest : List Oper} {o : Oper}
theorem A6 {t : Nat} {d : D} {x : Operand} (hg : o.guard = none) (hd : o.dst = some t) (ht : t < c.n) (ho : o.op = .nilCheck x) (hx : opd s.fr x = d) (hk : L4 d = true)
  (k : WO P c ops rest ⟨(t, d) :: s.fr, s.M⟩ Q) : WO P c ops (o :: rest) s Q := by
 subst hx;refine CD hg hd ht _ (fun a w F β fb mb ow hi => ?_) k
 obtain ⟨bs, hr, _⟩ := hi.opd x
 generalize opd s.fr x = d at hr hk;generalize hev : a.eval x = xv at hr
 have hrun : ∀ p, xv = .pointer (some p) → (execOp a.eval o).run P w = .ok (.value xv) w := by
  rintro p rfl
  simp [execOp, ho, hev]
 unfold L4 at hk;split at hk
 ·cases hr with | ref h1 h2 => cases h2; exact ⟨_, hrun _ rfl, .ref h1 .done⟩
 ·cases hr with | rp h1 h2 h3 h4 h5 => cases h5; exact ⟨_, hrun _ rfl, .rp h1 h2 h3 h4 .done⟩
 ·have := A1 hr
  subst this;exact ⟨_, hrun _ rfl, .t (.v rfl .nil) .done⟩
 ·cases hk
theorem BQ {Q : St → Prop} {t : Nat} {d : D} {x : Operand} (hg : o.guard = none) (hd : o.dst = some t) (ht : t < c.n) (ho : o.op = .nilCheck x) (hx : opd s.fr x = d) (hk : L4 d = true)
  (k : QL P c ops rest ⟨(t, d) :: s.fr, s.M⟩ Q) : QL P c ops (o :: rest) s Q :=
 ⟨t, d, hd, fun s' ha Q h => A6 hg hd ht ho (by rw [ha.opd (by rw [ho]; simp [Op.operands])]; exact hx) hk h, k⟩
theorem B3 {M0 : List (Nat × Blk)} {acc : List Dl} {Q : St → List Dl → Prop} {t : Nat} {d : D} {x : Operand} (hg : o.guard = none) (hd : o.dst = some t) (ht : t < c.n) (ho : o.op = .nilCheck x) (hx : opd s.fr x = d) (hk : L4 d = true)
  (k : QG P c ops M0 rest ⟨(t, d) :: s.fr, s.M⟩ (acc ++ [pl t d]) Q) : QG P c ops M0 (o :: rest) s acc Q :=
 ⟨pl t d, hd, fun s' ha _ Q h => A6 hg hd ht ho (by rw [ha.opd (by rw [ho]; simp [Op.operands])]; exact hx) hk h, k⟩
theorem Ff {M0 : List (Nat × Blk)} {acc : List Dl} {Q : St → List Dl → Prop} {Γ : Tys} (hΓ : Γ.ok P) {ty e t n id off len : Nat} {x : Operand} {lo hi' : Option Operand} {ti te : TI} {xs : List T} {i j : Int} (hg : o.guard = none) (hd : o.dst = some t) (ht : t < c.n) (ho : o.op = .slice ty x lo hi' none)
  (h1 : A4 Γ ty = some ti) (h2 : ti.kind = .slice e) (h3 : A4 Γ e = some te) (h4 : te.size = n) (hx : opd s.fr x = .sl id off len) (hM : lookM M0 id = some (.L n xs)) (hlo : IT s.fr lo 0 = some i) (hhi : IT s.fr hi' len = some j)
  (h5 : 0 ≤ i) (h6 : i ≤ j) (h7 : j ≤ len)
  (k : QG P c ops M0 rest ⟨(t, .sl id (off + i.toNat) (j.toNat - i.toNat)) :: s.fr, s.M⟩ (acc ++ [pl t (.sl id (off + i.toNat) (j.toNat - i.toNat))]) Q) : QG P c ops M0 (o :: rest) s acc Q :=
 ⟨pl t _, hd, fun s' ha _ Q h => by
  have hO : ∀ (z : Option Operand) (d : Int), (∀ y, z = some y → y ∈ o.op.operands) → IT s'.fr z d = IT s.fr z d := fun z d hz => by
   cases z with
   | none => rfl
   | some y => simp only [IT]; rw [ha.opd (hz y rfl)]
  exact H2 hΓ hg hd ht ho h1 h2 h3 h4 (by rw [ha.opd (by rw [ho]; simp [Op.operands])]; exact hx) (ha.1 _ _ hM) (by rw [hO lo 0 (fun y hy => by subst hy; rw [ho]; simp [Op.operands])]; exact hlo)
   (by rw [hO hi' len (fun y hy => by subst hy; rw [ho]; simp [Op.operands])]; exact hhi) h5 h6 h7 h, k⟩
theorem Lg {M0 : List (Nat × Blk)} {acc : List Dl} {Q : St → List Dl → Prop} {Γ : Tys} (hΓ : Γ.ok P) {ty e t b n cap : Nat} {x ix : Operand} {ti te : TI} {i : Int} (hg : o.guard = none) (hd : o.dst = some t) (ht : t < c.n) (ho : o.op = .indexAddr ty x ix)
  (h1 : A4 Γ ty = some ti) (h2 : ti.kind = .slice e) (h3 : A4 Γ e = some te) (hx : opd s.fr x = .t (.v (.slice (some ⟨b, 0, none⟩) n cap))) (hix : opd s.fr ix = .t (.int i)) (h5 : 0 ≤ i) (h6 : i < n)
  (k : QG P c ops M0 rest ⟨(t, .t (.v (.pointer (some ⟨b, i.toNat * te.size, none⟩)))) :: s.fr, s.M⟩ (acc ++ [pl t (.t (.v (.pointer (some ⟨b, i.toNat * te.size, none⟩))))]) Q) : QG P c ops M0 (o :: rest) s acc Q :=
 ⟨pl t _, hd, fun s' ha _ Q h => LY hΓ hg hd ht ho h1 h2 h3 (by rw [ha.opd (by rw [ho]; simp [Op.operands])]; exact hx) (by rw [ha.opd (by rw [ho]; simp [Op.operands])]; exact hix) h5 h6 h, k⟩
theorem H9 {M0 : List (Nat × Blk)} {acc : List Dl} {Q : St → List Dl → Prop} {Γ : Tys} (hΓ : Γ.ok P) {ty t b off f j : Nat} {x : Operand} {ti : TI} {offs : List Nat} (hg : o.guard = none) (hd : o.dst = some t) (ht : t < c.n) (ho : o.op = .fieldAddr ty x j)
  (h1 : A4 Γ ty = some ti) (h2 : ti.kind = .agg offs) (h3 : offs[j]? = some f) (hx : opd s.fr x = .t (.v (.pointer (some ⟨b, off, none⟩))))
  (k : QG P c ops M0 rest ⟨(t, .t (.v (.pointer (some ⟨b, off + f, none⟩)))) :: s.fr, s.M⟩ (acc ++ [pl t (.t (.v (.pointer (some ⟨b, off + f, none⟩))))]) Q) : QG P c ops M0 (o :: rest) s acc Q :=
 ⟨pl t _, hd, fun s' ha _ Q h => Au hΓ hg hd ht ho h1 h2 h3 (by rw [ha.opd (by rw [ho]; simp [Op.operands])]; exact hx) h, k⟩
theorem KT {t : Nat} {v : Value} {x : T} {rv : List Value} {rt : List T} {s : St} (rid j : Nat) (hp : lookM s.M rid = some (.ro rv rt)) (hv : rv[j]? = some v) (hx : rt[j]? = some x) : Le c ⟨(t, .t (.v v)) :: s.fr, s.M⟩ ⟨(t, .t x) :: s.fr, s.M⟩ := by
 have h1 : Le c ⟨(t, .t (.v v)) :: s.fr, s.M⟩ ⟨(t, .t x) :: (t, .t (.v v)) :: s.fr, s.M⟩ := Le.untell (t := t) (x := x) rid j (by simp [look]) hp hv hx
 refine h1.trans (Le.of (fun u => .inl ?_) (fun u => .inl rfl))
 show (if t = u then D.t x else look s.fr u) = if t = u then D.t x else if t = u then D.t (.v v) else look s.fr u
 split <;> rfl
theorem FY {Q : St → Prop} {Γ : Tys} (hΓ : Γ.ok P) {t : Nat} {v : Value} {x : T} {rv : List Value} {rt : List T} (rid j : Nat) (hg : o.guard = none) (hd : o.dst = some t) (ht : t < c.n) (he : evF Γ s o.op = some (.t (.v v)))
  (hp : lookM s.M rid = some (.ro rv rt)) (hv : rv[j]? = some v) (hx : rt[j]? = some x)
  (k : QL P c ops rest ⟨(t, .t x) :: s.fr, s.M⟩ Q) : QL P c ops (o :: rest) s Q :=
 ⟨t, .t x, hd, fun s' ha Q h => WO_evF hΓ hg hd ht (Gr (M0 := s.M) ⟨fun id k hk => by rw [ha.1]; exact hk, ha.2⟩ he) (WO_le (KT rid j (by rw [ha.1]; exact hp) hv hx) h), k⟩
theorem WO_loadOwn {Γ : Tys} (hΓ : Γ.ok P) {ty t id off : Nat} {x : Operand} {ti : TI} {y : T} {cells : List D} (hg : o.guard = none) (hd : o.dst = some t) (ht : t < c.n) (ho : o.op = .load ty x)
  (h1 : A4 Γ ty = some ti) (h2 : ti.kind.isAgg = false) (hx : opd s.fr x = .ref id 0 off) (hM : lookM s.M id = some (.box cells)) (hc : cells[off]? = some (.own y))
  (k : WO P c ops rest ⟨(t, .own y) :: s.fr, (id, .box (cells.set off .top)) :: s.M⟩ Q) : WO P c ops (o :: rest) s Q := by
 classical
 rintro a w ⟨F, β, fb, mb, ow, hi⟩
 have hm := hi.mem id
 rw [hM] at hm
 obtain ⟨b, arr, e, bs, q1, q2, q3, q4, q5⟩ := hm
 obtain ⟨bx, hrx, _⟩ := hi.opd x
 rw [hx] at hrx;generalize hev : a.eval x = xv at hrx
 obtain ⟨v, b1, b2, b3, hbs, p1, pv, p2⟩ := B9 off q3 hc
 have hnd := hi.nmem id
 rw [q5, hbs] at hnd
 obtain ⟨n1, n2⟩ := Nw.1 hnd
 obtain ⟨n3, n4, n5⟩ := Nq.1 n2
 obtain ⟨n6, n7, n8⟩ := Nq.1 n3
 cases hrx with
 | ref r1 r2 =>
  rw [q1] at r1;cases r1
  have hrun : (loadVar ty ⟨b, 0 * cells.length + off, none⟩).run P w = .ok v w := Bw (hΓ.get h1) h2 (by rw [CH q2, OY, N5]; simpa using pv)
  refine wpList_plain hg fun K hK => ?_
  unfold Oper.wp
  have hex : (execOp a.eval o).run P w = .ok (.value v) w := by
   simp only [OY, N5] at hrun
   simp [execOp, ho, hev, Instr.loadAt, Instr.sureAddr, N4, hrun, Ny]
  rw [hex, Oper.upon_value, hd]
  have hbs' : ∀ b', b' ∈ b2 → ow b' = some (.inr id) := fun b' hb' => hi.omem id b' (by rw [q5, hbs]; simp [hb'])
  refine hK _ _ (k _ _ ⟨F, β, fun u => if t = u then b2 else fb u, fun i => if id = i then b :: (b1 ++ [] ++ b3) else mb i, fun b' => if b' ∈ b2 then some (.inl t) else ow b', ?_⟩)
  exact { hi with
   fr := fun u => by
    rw [B0 _ _ _ _ (by rw [hi.tmps]; exact ht)];simp only [look];split
    ·exact p1
    ·exact hi.fr u
   mem := fun i => by
    simp only [lookM]
    by_cases hid : id = i
    ·subst hid
     rw [if_pos rfl];simp only [if_true];exact ⟨b, arr, e, b1 ++ [] ++ b3, by rw [q1, Ns], q2, p2 .top [] (.top .done), q4, rfl⟩
    ·rw [if_neg hid]
     have := hi.mem i
     cases hMi : lookM s.M i with
     | none => rw [hMi] at this; simp only [if_neg hid]; exact this
     | some kk => rw [hMi] at this; simp only [if_neg hid]; exact this
   ofr := fun u b' hb' => by
    split at hb'
    ·rename_i e; subst e; rw [if_pos hb']
    ·have h3 := hi.ofr u b' hb'
     rw [if_neg (fun h => ?_)]
     ·exact h3
     ·rw [hbs' b' h] at h3; cases h3
   omem := fun i b' hb' => by
    split at hb'
    ·rename_i e; subst e
     have hb2 : b' ∉ b2 := fun h => by
      simp only [OD, N2, Nn] at hb'
      rcases hb' with rfl | hb' | hb'
      ·exact n1 (by simp [h])
      ·exact n8 b' hb' b' h rfl
      ·exact n5 b' (by simp [h]) b' hb' rfl
     rw [if_neg hb2];refine hi.omem id b' ?_;rw [q5, hbs];simp only [OD, N2, Nn] at hb' ⊢
     rcases hb' with h | h | h
     ·exact .inl h
     ·exact .inr (.inl (.inl h))
     ·exact .inr (.inr h)
    ·rename_i hne
     have h3 := hi.omem i b' hb'
     rw [if_neg (fun h => ?_)]
     ·exact h3
     ·rw [hbs' b' h] at h3; cases h3; exact hne rfl
   nfr := fun u => by
    split
    ·exact n7
    ·exact hi.nfr u
   nmem := fun i => by
    split
    ·simp only [OD]
     refine Nw.2 ⟨fun h => n1 ?_, Nq.2 ⟨n6, n4, fun x hx y hy => n5 x (by simp [hx]) y hy⟩⟩
     rcases Nn.1 h with h | h <;> simp [h]
    ·exact hi.nmem i
   own := fun b' hb' => by
    split at hb'
    ·rename_i h; exact hi.own b' (by rw [hbs' b' h]; simp)
    ·exact hi.own b' hb'
   defers := (BP a _ _).trans hi.defers
   tmps := (B8 a _ _).trans hi.tmps }
theorem Ed {Q : St → List Dl → Prop} {acc : List Dl} {b : List Nat} {bs : List (List Nat)} {Γ : Tys} (hΓ : Γ.ok P) {ty t id off : Nat} {x : Operand} {ti : TI} {y : T} {cells : List D} (hg : o.guard = none) (hd : o.dst = some t) (ht : t < c.n) (ho : o.op = .load ty x)
  (h1 : A4 Γ ty = some ti) (h2 : ti.kind.isAgg = false) (hx : opd s.fr x = .ref id 0 off) (hM : lookM (CG b s.M) id = some (.box cells)) (hc : cells[off]? = some (.own y))
  (k : QH P c ops bs rest ⟨(t, .own y) :: s.fr, (id, .box (cells.set off .top)) :: s.M⟩ (acc ++ [⟨t, .own y, [], [(id, .box (cells.set off .top))], false⟩]) Q) : QH P c ops (b :: bs) (o :: rest) s acc Q :=
 ⟨⟨t, .own y, [], [(id, .box (cells.set off .top))], false⟩, fun s' ha _ Q h => WO_loadOwn hΓ hg hd ht ho h1 h2 (by rw [ha.opd (by rw [ho]; simp [Op.operands])]; exact hx) (ha.1 _ _ hM) hc h, k⟩
theorem Bm {Q : St → List Dl → Prop} {acc : List Dl} {b : List Nat} {bs : List (List Nat)} {Γ : Tys} (hΓ : Γ.ok P) {ty id off : Nat} {x y : Operand} {ti : TI} {cells ds : List D} (gt : Nat) (hg : o.guard = none) (hd : o.dst = none) (ho : o.op = .store ty x y) (h1 : A4 Γ ty = some ti)
  (hx : opd s.fr x = .ref id 0 off) (hM : lookM (CG b s.M) id = some (.box cells)) (hy : boxD (opd s.fr y) = some ds) (hf : (opd s.fr y).free = true) (hl : ds.length = ti.size) (hle : off + ds.length ≤ cells.length)
  (k : QH P c ops bs rest ⟨(gt, .top) :: s.fr, (id, .box (splice cells off ds)) :: s.M⟩ (acc ++ [⟨gt, .top, [], [(id, .box (splice cells off ds))], false⟩]) Q) : QH P c ops (b :: bs) (o :: rest) s acc Q :=
 ⟨⟨gt, .top, [], [(id, .box (splice cells off ds))], false⟩, fun s' ha _ Q h => by
  have e : opd s'.fr y = opd s.fr y := ha.opd (by rw [ho]; simp [Op.operands])
  refine Gy hΓ hg hd ho h1 (by rw [ha.opd (by rw [ho]; simp [Op.operands])]; exact hx) (ha.1 _ _ hM) (by rw [e]; exact hy) hl hle ?_
  have e2 : eat y (opd s.fr y) s'.fr = s'.fr := by unfold eat; rw [if_pos hf]
  rw [e, e2]
  have hle : Le c ⟨s'.fr, (id, .box (splice cells off ds)) :: s'.M⟩ ⟨(gt, .top) :: s'.fr, (id, .box (splice cells off ds)) :: s'.M⟩ := Le.of (fun u => by
   show (if gt = u then D.top else look s'.fr u) = look s'.fr u ∨ (if gt = u then D.top else look s'.fr u) = D.top;split
   ·exact .inr rfl
   ·exact .inl rfl) (fun u => .inl rfl)
  exact WO_le hle h, k⟩
theorem Fb {Q : St → List Dl → Prop} {acc : List Dl} {b : List Nat} {bs : List (List Nat)} {Γ : Tys} (hΓ : Γ.ok P) {ty id off u : Nat} {x : Operand} {ti : TI} {cells ds : List D} (hg : o.guard = none) (hd : o.dst = none) (ho : o.op = .store ty x (.tmp u)) (h1 : A4 Γ ty = some ti)
  (hx : opd s.fr x = .ref id 0 off) (hM : lookM (CG b s.M) id = some (.box cells)) (hy : boxD (look s.fr u) = some ds) (hf : (look s.fr u).free = false) (hl : ds.length = ti.size) (hle : off + ds.length ≤ cells.length)
  (k : QH P c ops bs rest ⟨(u, .top) :: s.fr, (id, .box (splice cells off ds)) :: s.M⟩ (acc ++ [⟨u, .top, [], [(id, .box (splice cells off ds))], false⟩]) Q) : QH P c ops (b :: bs) (o :: rest) s acc Q :=
 ⟨⟨u, .top, [], [(id, .box (splice cells off ds))], false⟩, fun s' ha _ Q h => by
  have e : opd s'.fr (.tmp u) = opd s.fr (.tmp u) := ha.opd (by rw [ho]; simp [Op.operands])
  refine Gy (y := .tmp u) hΓ hg hd ho h1 (by rw [ha.opd (by rw [ho]; simp [Op.operands])]; exact hx) (ha.1 _ _ hM) (by rw [e]; exact hy) hl hle ?_
  have e2 : eat (.tmp u) (opd s.fr (.tmp u)) s'.fr = (u, .top) :: s'.fr := by unfold eat; rw [if_neg (by rw [show (opd s.fr (.tmp u)).free = false from hf]; simp)]
  rw [e, e2]
  exact h, k⟩
theorem LookMs.up {M M' : List (Nat × Blk)} (h : ∀ id k, lookM M id = some k → lookM M' id = some k) : ∀ {ids : List Nat} {ks : List Blk}, LookMs M ids ks → LookMs M' ids ks
 | [], [], _ => trivial
 | [], _ :: _, h' => h'.elim
 | _ :: _, [], h' => h'.elim
 | _ :: _, _ :: _, ⟨h1, h2, h3⟩ => ⟨h _ _ h1, h2, LookMs.up h h3⟩
theorem ResP.up {M0 : List (Nat × Blk)} {fr : List (Nat × D)} {s' : St} {ids : List Nat} (hM : ∀ id k, lookM M0 id = some k → lookM s'.M id = some k) {ds es : List D} (h : ResP ⟨fr, M0⟩ ids ds es) : ResP s' ids ds es := by
 induction h with
 | done => exact .done
 | t _ ih => exact .t ih
 | nil n _ ih => exact .nil n ih
 | nil' _ ih => exact .nil' ih
 | own _ ih => exact .own ih
 | sl h1 h2 h3 _ ih => exact .sl (hM _ _ h1) h2 h3 ih
 | pin pid h1 _ ih => exact .pin pid (hM _ _ h1) ih
 | agg _ _ ih1 ih2 => exact .agg ih1 ih2
 | aggT _ _ ih1 ih2 => exact .aggT ih1 ih2
 | top _ ih => exact .top ih
theorem Bn {Q : St → List Dl → Prop} {acc : List Dl} {b : List Nat} {bs : List (List Nat)} {t rid : Nat} {fo : Operand} {args : Array Operand} {tys : Array TypeId} {f : FuncId} {es : List D} {rv : List Value} {rt : List T} {ks : List Blk} {r : D} {ks' : List Blk} (ids : List Nat) (hg : o.guard = none) (hd : o.dst = some t) (ht : t < c.n)
  (ho : o.op = .call { callee := .value fo, args := args, argTypes := tys }) (hf : opd s.fr fo = .clo f []) (hes : ResP ⟨s.fr, CG b s.M⟩ ids (args.toList.map (opd s.fr)) es) (hro : lookM (CG b s.M) rid = some (.ro rv rt)) (hM : LookMs (CG b s.M) ids ks) (hnd : ids.Nodup)
  (hm : Proc P f es rv rt ks r ks') (hr : r.noImm = true) (hl' : ids.length = ks'.length) (hks' : ks'.all Blk.shut = true)
  (k : QH P c ops bs rest ⟨(t, r) :: s.fr, ids.zip ks' ++ s.M⟩ (acc ++ [⟨t, r, [], ids.zip ks', false⟩]) Q) : QH P c ops (b :: bs) (o :: rest) s acc Q :=
 ⟨⟨t, r, [], ids.zip ks', false⟩, fun s' ha _ Q h => by
  have e1 : opd s'.fr fo = opd s.fr fo := ha.opd (by rw [ho]; simp [Op.operands, Call.operands])
  have e2 : args.toList.map (opd s'.fr) = args.toList.map (opd s.fr) := ha.opds fun x hx => by
   rw [ho];simp only [Op.operands, Call.operands, Array.mem_append];exact .inr (by simpa using hx)
  exact Jk ids hg hd ht ho (by rw [e1]; exact hf) (by rw [e2]; exact hes.up ha.1) (ha.1 _ _ hro) (hM.up ha.1) hnd hm hr hl' hks' h, k⟩
end
end Go.Eng
end
section
/- Copies of plain values into a slice of the function's own. -/
namespace Go.Eng
open Go.RowKit
section
variable {P : Program} {c : Ctx} {s : St} {Q : Exit → St → Prop} {ops : Array Oper} {rest : List Oper} {o : Oper}
end
end Go.Eng
end
section
/- Slices whose place is told: they are cut, appended to where there is room, and cleared. -/
namespace Go.Eng
open Go.RowKit
section
variable {P : Program} {c : Ctx} {s : St} {Q : Exit → St → Prop} {ops : Array Oper} {rest : List Oper} {o : Oper}
def noR (ids : List Nat) (ys : List (Nat ⊕ Nat)) : Bool := ids.all fun i => ys.all fun y => match y with | .inr j => i != j | _ => true
theorem Gf {ids : List Nat} {ys : List (Nat ⊕ Nat)} (h : noR ids ys = true) : ∀ id, id ∈ ids → Sum.inr id ∉ ys := by
 intro id hid hy;unfold noR at h;rw [Np] at h
 have := h id hid
 rw [Np] at this
 have := this _ hy
 simp at this
end
end Go.Eng
end
section
/- Lists of which some cells are told and others owned: they are put together; slices that are told are named. -/
namespace Go.Eng
open Go.RowKit
inductive Mix : List Value → List T → List T → List T → Prop
 | nil : Mix [] [] [] []
 | keep {v t y vs ts ys xs} : Mix vs ts ys xs → Mix (v :: vs) (t :: ts) (y :: ys) (y :: xs)
 | claim {v t vs ts ys xs} : Mix vs ts ys xs → Mix (v :: vs) (t :: ts) (.v v :: ys) (t :: xs)
theorem L2 {w : World} {vs ts ys xs} (h : Mix vs ts ys xs) : ∀ {us b1 b2}, OwnL w us ys b1 → OwnL w vs ts b2 → ∃ bs r, OwnL w us xs bs ∧ (b1 ++ b2).Perm (bs ++ r) := by
 induction h with
 | nil =>
  intro us b1 b2 h1 h2
  cases us with
  | nil => exact ⟨[], b1 ++ b2, .nil, by simp⟩
  | cons _ _ => cases h1
 | @keep v t y vs ts ys xs _ ih =>
  intro us b1 b2 h1 h2
  cases us with
  | nil => cases h1
  | cons u us =>
   obtain ⟨c1, c2, g1, g2, rfl⟩ := h1.cons
   obtain ⟨d1, d2, g3, g4, rfl⟩ := h2.cons
   obtain ⟨bs, r, g5, g6⟩ := ih g2 g4
   refine ⟨c1 ++ bs, d1 ++ r, OwnL.cons' g1 g5, ?_⟩
   have e1 : (c1 ++ c2 ++ (d1 ++ d2)).Perm (c1 ++ (d1 ++ (c2 ++ d2))) := by
    rw [OI];exact List.Perm.append_left _ (by rw [← OI, ← OI]; exact List.Perm.append_right _ List.perm_append_comm)
   refine e1.trans ?_;rw [OI];refine List.Perm.append_left _ ?_;refine (List.Perm.append_left d1 g6).trans ?_;rw [← OI, ← OI];exact List.Perm.append_right _ List.perm_append_comm
 | @claim v t vs ts ys xs _ ih =>
  intro us b1 b2 h1 h2
  cases us with
  | nil => cases h1
  | cons u us =>
   obtain ⟨c1, c2, g1, g2, rfl⟩ := h1.cons
   obtain ⟨d1, d2, g3, g4, rfl⟩ := h2.cons
   obtain ⟨bs, r, g5, g6⟩ := ih g2 g4
   have hu : u = v ∧ c1 = [] := by
    cases g1 with
    | v q1 q2 => cases q2; exact ⟨rfl, rfl⟩
   obtain ⟨rfl, rfl⟩ := hu
   refine ⟨d1 ++ bs, r, OwnL.cons' g3 g5, ?_⟩;rw [List.nil_append]
   have e1 : (c2 ++ (d1 ++ d2)).Perm (d1 ++ (c2 ++ d2)) := by
    rw [← OI, ← OI];exact List.Perm.append_right _ List.perm_append_comm
   refine e1.trans ?_;rw [OI];exact List.Perm.append_left _ g6
section
variable {P : Program} {c : Ctx} {s : St} {Q : Exit → St → Prop} {ops : Array Oper} {rest : List Oper} {o : Oper}
theorem Le.claimMix {id idp n : Nat} {xs ys : List T} {vs : List Value} {ts : List T} (hM : lookM s.M id = some (.L n ys)) (h2 : lookM s.M idp = some (.rawV vs ts)) (hm : Mix vs ts (ys.flatMap T.cells) (xs.flatMap T.cells)) (hl : xs.length = ys.length) (hn : ∀ x, x ∈ xs → (T.cells x).length = n) (hne' : (id == idp) = false) :
  Le c s ⟨s.fr, (id, .L n xs) :: dropM (some idp) s.M⟩ := by
 have hne : ¬ id = idp := by simpa using hne'
 rintro a w ⟨F, β, fb, mb, ow, hi⟩
 have hmm := hi.mem id
 rw [hM] at hmm
 have hmp := hi.mem idp
 rw [h2] at hmp
 have hO : OwnL w vs ts (mb idp) := hmp
 have hdrop : lookM ((id, Blk.L n xs) :: dropM (some idp) s.M) idp = none := by
  simp only [lookM]; rw [if_neg hne, As]
 have hother : ∀ i, ¬ i = id → ¬ i = idp → lookM ((id, Blk.L n xs) :: dropM (some idp) s.M) i = lookM s.M i ∨ lookM ((id, Blk.L n xs) :: dropM (some idp) s.M) i = none := fun i h1 h3 => .inl (by
  simp only [lookM]; rw [if_neg (fun e => h1 e.symm), BO h3])
 rcases hmm with ⟨r1, r2, r3⟩ | ⟨b, cap, arr, e', bs', r1, r3, r4, r5, r6, r7, r8, r9⟩
 ·subst r2
  have hxs : xs = [] := OG (by simpa using hl)
  subst hxs;refine hi.re2 hne (mp := []) (mq := []) hother ?_ ?_ (by simp) (by simp) (by simp) (by simp) (by simp)
  ·simp only [lookM, if_true]; exact .inl ⟨r1, rfl, rfl⟩
  ·rw [hdrop]
 ·obtain ⟨bs, r, g1, g2⟩ := L2 hm r8 hO
  have hnd := hi.nmem id
  rw [r9] at hnd
  obtain ⟨n1, n2⟩ := Nw.1 hnd
  have hall : (bs' ++ mb idp).Nodup := Nq.2 ⟨n2, hi.nmem idp, fun p hp q hq e => by subst e; exact hi.dis hne (by rw [r9]; simp [hp]) hq⟩
  have hbs : ∀ b', b' ∈ bs → b' ∈ bs' ∨ b' ∈ mb idp := fun b' h => Nn.1 (g2.mem_iff.2 (by simp [h]))
  refine hi.re2 hne (mp := b :: bs) (mq := []) hother ?_ ?_ (fun b' h => ?_) (by simp) ?_ (by simp) (by simp)
  ·simp only [lookM, if_true]
   exact .inr ⟨b, cap, arr, e', bs, r1, r3, r4, hn, by rw [hl]; exact r6, r7, by rw [hl]; exact g1, rfl⟩
  ·rw [hdrop]
  ·rcases N2.1 h with rfl | h
   ·exact .inl (by rw [r9]; simp)
   ·exact (hbs b' h).imp (fun h => by rw [r9]; simp [h]) fun h => h
  ·refine Nw.2 ⟨fun h => ?_, (Nq.1 (g2.nodup_iff.1 hall)).1⟩
   rcases hbs b h with h | h
   ·exact n1 h
   ·exact hi.dis hne (by rw [r9]; simp) h
theorem Conc.name {a : Act} {w : World} {F β fb mb ow} (hi : Conc c s a w F β fb mb ow) {u b n cc : Nat} (pid : Nat) {k0 k1 : Blk} (hM : lookM s.M u = some k0) (h2 : lookM s.M pid = none) (h3 : Gu u s.fr = true) (h4 : (s.M.all fun p => Ai u p.2) = true)
  (hk : ∀ β' : Ak, β' u = some (b, n, cc) → RelB w F β u k0 (mb u) → RelB w F β' u k1 (mb u)) : Is c ⟨s.fr, (u, k1) :: (pid, .pin u b n cc) :: s.M⟩ a w := by
 have hm := hi.mem u
 rw [hM] at hm
 have hup : ¬ u = pid := fun e => by rw [e, h2] at hM; cases hM
 have hβ : ∀ i, i ≠ u → (fun i => if i = u then some (b, n, cc) else β i) i = β i := fun i h => by simp [h]
 have hcm := FQ h4
 refine ⟨F, fun i => if i = u then some (b, n, cc) else β i, fb, mb, ow, { hi with fr := fun t => (hi.fr t).other hβ (by simp only [D.has.hasL, OL]; exact B1 h3 t), mem := fun i => ?_ }⟩;simp only [lookM]
 by_cases hu : u = i
 ·subst hu
  rw [if_pos rfl];exact hk _ (by simp) hm
 ·rw [if_neg hu]
  by_cases hp : pid = i
  ·subst hp
   rw [if_pos rfl]
   have := hi.mem pid
   rw [h2] at this;exact ⟨by simp, this⟩
  ·rw [if_neg hp]
   have hm := hi.mem i
   cases hk : lookM s.M i with
   | none => rw [hk] at hm; exact hm
   | some k =>
    rw [hk] at hm
    have hck := hcm i k hk
    have hiu : ¬ i = u := fun e => hu e.symm
    cases k with
    | L n' xs' =>
     rcases hm with ⟨g1, g2, g3⟩ | ⟨b, cap, arr', e', bs', g1, g⟩
     ·exact .inl ⟨by dsimp only; rw [if_neg hiu]; exact g1, g2, g3⟩
     ·exact .inr ⟨b, cap, arr', e', bs', by dsimp only; rw [if_neg hiu]; exact g1, g⟩
    | box cs =>
     obtain ⟨b, arr', e', bs', g1, g2, g3, g4, g5⟩ := hm
     simp only [Ai, N9] at hck;exact ⟨b, arr', e', bs', by dsimp only; rw [if_neg hiu]; exact g1, g2, g3.other hβ hck, g4, g5⟩
    | raw _ _ _ _ => exact hm
    | rawV _ _ => exact hm
    | ro _ _ => exact hm
    | pin j b n c =>
     simp only [Ai, N9, beq_eq_false_iff_ne] at hck;exact ⟨by dsimp only; rw [if_neg hck]; exact hm.1, hm.2⟩
    | obox _ _ => exact hm
    | bld _ _ _ _ => exact hm
    | row _ _ _ _ => exact hm
theorem Le.namedS {t id b n cap len : Nat} (pid : Nat) (h1 : look s.fr t = .t (.v (.slice (some ⟨b, 0, none⟩) len cap))) (hp : lookM s.M pid = some (.pin id b n cap)) (hl : len ≤ cap) : Le c s ⟨(t, .sl id 0 len) :: s.fr, s.M⟩ := by
 rintro a w ⟨F, β, fb, mb, ow, hi⟩
 have h6 := hi.mem pid
 rw [hp] at h6
 have hr := hi.fr t
 rw [h1] at hr
 have e1 := A1 hr
 have hf : fb t = [] := hr.free1 rfl
 refine ⟨F, β, fb, mb, ow, { hi with fr := fun v => ?_ }⟩;simp only [look];split
 ·rename_i e
  subst e;rw [e1, hf];exact .sl h6.1 hl (by simp) (by simp) .done
 ·exact hi.fr v
theorem Le.claimL {id id2 pid n m b cap i off len : Nat} {xs ys : List T} {z : T} (hM : lookM s.M id = some (.L n xs)) (h2 : lookM s.M id2 = some (.L m ys)) (hp : lookM s.M pid = some (.pin id2 b m cap)) (hz : xs[i]? = some z) (hc : z.cells[off]? = some (.v (.slice (some ⟨b, 0, none⟩) len cap))) (hl : ys.length = len)
  (hne' : (id == id2) = false) : Le c s ⟨s.fr, (id, .L n (xs.set i (.agg (z.cells.set off (.list m ys))))) :: dropM (some id2) s.M⟩ := by
 subst hl
 have hne : ¬ id = id2 := by simpa using hne'
 rintro a w ⟨F, β, fb, mb, ow, hi⟩
 have hmm := hi.mem id
 rw [hM] at hmm
 have hm2 := hi.mem id2
 rw [h2] at hm2
 have h6 := hi.mem pid
 rw [hp] at h6
 have hil := (List.getElem?_eq_some_iff.1 hz).1
 rcases hmm with ⟨r1, r2, r3⟩ | ⟨b0, cap0, arr, e', bs', r1, r3, r4, r5, r6, r7, r8, r9⟩
 ·subst r2; simp at hil
 rcases hm2 with ⟨p1, p2, p3⟩ | ⟨b2, cap2, arr2, e2, bs2, p1, p3, p4, p5, p6, p7, p8, p9⟩
 ·rw [h6.1] at p1; cases p1
 rw [h6.1] at p1;cases p1
 have hzl := r5 z (OV hz)
 have hoff := (List.getElem?_eq_some_iff.1 hc).1
 have hat : (xs.flatMap T.cells)[i * n + off]? = some (.v (.slice (some ⟨b, 0, none⟩) ys.length cap)) := by
  rw [EK r5 hz (by omega)]; exact hc
 obtain ⟨u, hu, huone⟩ := r8.get? hat
 obtain ⟨c1, c2, c3, e1, g1, g2⟩ := OwnL.at (i * n + off) r8 hu hat
 have hu2 : u = .slice (some ⟨b, 0, none⟩) ys.length cap ∧ c2 = [] := by
  cases g1 with
  | v q1 q2 => cases q2; exact ⟨rfl, rfl⟩
 obtain ⟨rfl, rfl⟩ := hu2
 have hnew := g2 w (.list m ys) (b :: bs2) (fun _ _ => rfl) (by
  have := OwnL.list (vs := []) (ts := []) (bs' := []) p3 p4 rfl p5 p6 p7 p8 .nil
  simpa using this)
 have hset : (xs.flatMap T.cells).set (i * n + off) (.list m ys) = (xs.set i (.agg (z.cells.set off (.list m ys)))).flatMap T.cells := DN r5 hz (by omega) rfl
 rw [hset] at hnew
 have hnd := hi.nmem id
 rw [r9, e1] at hnd
 have hnd2 := hi.nmem id2
 rw [p9] at hnd2;simp only [OD] at hnd
 have hdrop : lookM ((id, Blk.L n (xs.set i (.agg (z.cells.set off (.list m ys))))) :: dropM (some id2) s.M) id2 = none := by
  simp only [lookM]; rw [if_neg hne, As]
 have hd : ∀ x, x ∈ b :: bs2 → x ∉ b0 :: (c1 ++ c3) := fun x hx hy => hi.dis hne (b := x) (by rw [r9, e1]; simpa using hy) (by rw [p9]; exact hx)
 refine hi.re2 hne (mp := b0 :: (c1 ++ (b :: bs2) ++ c3)) (mq := []) (fun i h1 h3 => .inl (by
  simp only [lookM]; rw [if_neg (fun e => h1 e.symm), BO h3])) ?_ ?_ (fun x h => ?_) (by simp) ?_ (by simp) (by simp)
 ·simp only [lookM, if_true]
  refine .inr ⟨b0, cap0, arr, e', c1 ++ (b :: bs2) ++ c3, r1, r3, r4, fun x hx => ?_, by simpa using r6, r7, by rw [Ns]; exact hnew, rfl⟩
  rcases OK hx with hx | rfl
  ·exact r5 x hx
  ·show (z.cells.set off (.list m ys)).length = n
   rw [Ns]; exact hzl
 ·rw [hdrop]
 ·rcases N2.1 h with rfl | h
  ·exact .inl (by rw [r9]; simp)
  ·rcases Nn.1 h with h | h
   ·rcases Nn.1 h with h | h
    ·exact .inl (by rw [r9, e1]; simp [h])
    ·exact .inr (by rw [p9]; exact h)
   ·exact .inl (by rw [r9, e1]; simp [h])
 ·obtain ⟨n1, n2⟩ := Nw.1 hnd
  obtain ⟨n3, n4, n5⟩ := Nq.1 n2
  refine Nw.2 ⟨fun h => ?_, ?_⟩
  ·rcases Nn.1 h with h | h
   ·rcases Nn.1 h with h | h
    ·exact n1 (by simp [h])
    ·exact hd _ h (by simp)
   ·exact n1 (by simp [h])
  ·refine Nq.2 ⟨Nq.2 ⟨n3, hnd2, fun x hx y hy e => ?_⟩, n4, fun x hx y hy e => ?_⟩
   ·subst e; exact hd x hy (by simp [hx])
   ·subst e
    rcases Nn.1 hx with hx | hx
    ·exact n5 x hx x hy rfl
    ·exact hd x hx (by simp [hy])
theorem Fc {Q : St → List Dl → Prop} {acc : List Dl} {b : List Nat} {bs : List (List Nat)} {Γ : Tys} (hΓ : Γ.ok P) {ty id i off n u : Nat} {x : Operand} {ti : TI} {xs : List T} {z : T} {ds : List D} (ts : List T) (hg : o.guard = none) (hd : o.dst = none) (ho : o.op = .store ty x (.tmp u))
  (h1 : A4 Γ ty = some ti) (hx : opd s.fr x = .ref id i off) (hM : lookM (CG b s.M) id = some (.L n xs)) (hz : xs[i]? = some z) (hy : boxD (look s.fr u) = some ds) (hf : (look s.fr u).free = false) (habs : AbsL ds ts)
  (hl : ds.length = ti.size) (hpos : 0 < ti.size) (hle : off + ds.length ≤ n)
  (k : QH P c ops bs rest ⟨(u, .top) :: s.fr, (id, .L n (xs.set i (z.put off ts))) :: s.M⟩ (acc ++ [⟨u, .top, [], [(id, .L n (xs.set i (z.put off ts)))], false⟩]) Q) : QH P c ops (b :: bs) (o :: rest) s acc Q :=
 ⟨⟨u, .top, [], [(id, .L n (xs.set i (z.put off ts)))], false⟩, fun s' ha _ Q h => by
  have e : opd s'.fr (.tmp u) = opd s.fr (.tmp u) := ha.opd (by rw [ho]; simp [Op.operands])
  refine Cs (y := .tmp u) hΓ ts hg hd ho h1 (by rw [ha.opd (by rw [ho]; simp [Op.operands])]; exact hx) (ha.1 _ _ hM) hz (by rw [e]; exact hy) habs hl hpos hle ?_
  have e2 : eat (.tmp u) (opd s.fr (.tmp u)) s'.fr = (u, .top) :: s'.fr := by unfold eat; rw [if_neg (by rw [show (opd s.fr (.tmp u)).free = false from hf]; simp)]
  rw [e, e2]
  exact h, k⟩
theorem GF {Q : St → List Dl → Prop} {acc : List Dl} {b : List Nat} {bs : List (List Nat)} {Γ : Tys} (hΓ : Γ.ok P) {ty id i off n : Nat} {x y : Operand} {ti : TI} {xs : List T} {z : T} {ds : List D} (gt : Nat) (ts : List T) (hg : o.guard = none) (hd : o.dst = none) (ho : o.op = .store ty x y)
  (h1 : A4 Γ ty = some ti) (hx : opd s.fr x = .ref id i off) (hM : lookM (CG b s.M) id = some (.L n xs)) (hz : xs[i]? = some z) (hy : boxD (opd s.fr y) = some ds) (hf : (opd s.fr y).free = true) (habs : AbsL ds ts)
  (hl : ds.length = ti.size) (hpos : 0 < ti.size) (hle : off + ds.length ≤ n)
  (k : QH P c ops bs rest ⟨(gt, .top) :: s.fr, (id, .L n (xs.set i (z.put off ts))) :: s.M⟩ (acc ++ [⟨gt, .top, [], [(id, .L n (xs.set i (z.put off ts)))], false⟩]) Q) : QH P c ops (b :: bs) (o :: rest) s acc Q :=
 ⟨⟨gt, .top, [], [(id, .L n (xs.set i (z.put off ts)))], false⟩, fun s' ha _ Q h => by
  have e : opd s'.fr y = opd s.fr y := ha.opd (by rw [ho]; simp [Op.operands])
  refine Cs hΓ ts hg hd ho h1 (by rw [ha.opd (by rw [ho]; simp [Op.operands])]; exact hx) (ha.1 _ _ hM) hz (by rw [e]; exact hy) habs hl hpos hle ?_
  have e2 : eat y (opd s.fr y) s'.fr = s'.fr := by unfold eat; rw [if_pos hf]
  rw [e, e2]
  have hle : Le c ⟨s'.fr, (id, .L n (xs.set i (z.put off ts))) :: s'.M⟩ ⟨(gt, .top) :: s'.fr, (id, .L n (xs.set i (z.put off ts))) :: s'.M⟩ := Le.of (fun u => by
   show (if gt = u then D.top else look s'.fr u) = look s'.fr u ∨ (if gt = u then D.top else look s'.fr u) = D.top;split
   ·exact .inr rfl
   ·exact .inl rfl) (fun u => .inl rfl)
  exact WO_le hle h, k⟩
theorem Kx {t id b n cap len : Nat} {s : St} (pid : Nat) (hp : lookM s.M pid = some (.pin id b n cap)) (hl : len ≤ cap) : Le c ⟨(t, .t (.v (.slice (some ⟨b, 0, none⟩) len cap))) :: s.fr, s.M⟩ ⟨(t, .sl id 0 len) :: s.fr, s.M⟩ := by
 have h1 : Le c ⟨(t, .t (.v (.slice (some ⟨b, 0, none⟩) len cap))) :: s.fr, s.M⟩ ⟨(t, .sl id 0 len) :: (t, .t (.v (.slice (some ⟨b, 0, none⟩) len cap))) :: s.fr, s.M⟩ := Le.namedS (t := t) pid (by simp [look]) hp hl
 refine h1.trans (Le.of (fun u => .inl ?_) (fun u => .inl rfl))
 show (if t = u then D.sl id 0 len else look s.fr u) = if t = u then D.sl id 0 len else if t = u then _ else look s.fr u
 split <;> rfl
theorem H8 {M0 : List (Nat × Blk)} {acc : List Dl} {Q : St → List Dl → Prop} {Γ : Tys} (hΓ : Γ.ok P) {ty t id i off n id2 b m cap len : Nat} {x : Operand} {ti : TI} {xs : List T} {y : T} (pid : Nat) (hg : o.guard = none) (hd : o.dst = some t) (ht : t < c.n) (ho : o.op = .load ty x)
  (h1 : A4 Γ ty = some ti) (hx : opd s.fr x = .ref id i off) (hM : lookM M0 id = some (.L n xs)) (hy : xs[i]? = some y) (hp : IQ ti.kind ti.size (y.cells.map scal) off = some (.t (.v (.slice (some ⟨b, 0, none⟩) len cap)))) (hpin : lookM M0 pid = some (.pin id2 b m cap)) (hl : len ≤ cap)
  (k : QG P c ops M0 rest ⟨(t, .sl id2 0 len) :: s.fr, s.M⟩ (acc ++ [pl t (.sl id2 0 len)]) Q) : QG P c ops M0 (o :: rest) s acc Q :=
 ⟨pl t (.sl id2 0 len), hd, fun s' ha _ Q h => Bl hΓ hg hd ht ho h1 (by rw [ha.opd (by rw [ho]; simp [Op.operands])]; exact hx) (ha.1 _ _ hM) hy hp (WO_le (Kx pid (ha.1 _ _ hpin) hl) h), k⟩
end
end Go.Eng
end
section
/- Variables made, and lent as they are, in statements of open order. -/
namespace Go.Eng
open Go.RowKit
section
variable {P : Program} {c : Ctx} {s : St} {ops : Array Oper} {rest : List Oper} {o : Oper}
theorem ResP.pin0 {s : St} {ids : List Nat} {id off b n cc : Nat} {ds es : List D} (pid : Nat) (h : lookM s.M pid = some (.pin id b n cc)) (k : ResP s ids ds es) : ResP s ids (.ref id 0 off :: ds) (.t (.v (.pointer (some ⟨b, off, none⟩))) :: es) := by
 have := ResP.pin (i := 0) (off := off) pid h k
 rwa [OY, N5] at this
end
end Go.Eng
end
