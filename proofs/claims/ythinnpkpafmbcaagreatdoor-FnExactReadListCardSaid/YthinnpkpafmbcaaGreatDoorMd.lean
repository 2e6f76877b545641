import Derived.Test.YthinnpkpafmbcaaGreatDoorMc
import Derived.Laws.CopyOwn
set_option linter.unusedVariables false
set_option linter.unusedSimpArgs false
section
/- A part of a struct that is a value; what is known of a value is owned again. -/
namespace Go.Eng
open Go.RowKit
section
variable {P : Program} {c : Ctx} {s : St} {Q : Exit → St → Prop} {ops : Array Oper} {rest : List Oper} {o : Oper}
end
end Go.Eng
end
section
/- What a cell of a variable reads, known by its value, or its elements by theirs. -/
namespace Go.Eng
open Go.RowKit
section
variable {P : Program} {c : Ctx} {s : St} {Q : Exit → St → Prop} {ops : Array Oper} {rest : List Oper} {o : Oper}
end
end Go.Eng
end
section
/- append, in open order, of what a temporary owns, to what another does; its elements are values. -/
namespace Go.Eng
open Go.RowKit
section
variable {P : Program} {c : Ctx} {s : St} {ops : Array Oper} {rest : List Oper} {o : Oper} {M0 : List (Nat × Blk)} {acc : List Dl}
theorem Nn {Q : Exit → St → Prop} {Γ : Tys} (hΓ : Γ.ok P) {ty e t u : Nat} {y : Operand} {ti te : TI} {dy : D} {xs ys : List T} (hg : o.guard = none) (hd : o.dst = some t) (ht : t < c.n) (hut : (u == t) = false)
  (ho : o.op = .call { callee := .builtin .append, args := #[.tmp u, y], argTypes := #[ty, ty] })
  (h1 : A7 Γ ty = some ti) (h2 : ti.kind = .slice e) (h3 : A7 Γ e = some te) (hx : look s.fr u = .own (.list te.size xs)) (hy : opd s.fr y = dy) (hsrc : ∀ s : St, Src s dy te.size ys none)
  (hlen : xs.length + ys.length ≤ 1073741824) (hb : te.bytes ≤ 131072) (hzs : te.zero.length = te.size) (hcl : Cl t s)
  (h : WO P c ops rest ⟨(t, .own (.list te.size (xs ++ ys))) :: (u, .top) :: s.fr, s.M⟩ Q) : WO P c ops (o :: rest) s Q := by
 have hut' : ¬ u = t := by simpa using hut
 refine AI (Le.adoptE (u := u) t hx rfl) ?_
 have hopy : y = .tmp u ∨ opd ((u, .sl t 0 xs.length) :: killF t s.fr) y = dy := by
  by_cases hyu : y = .tmp u
  ·exact .inl hyu
  ·right
   cases y with
   | tmp v =>
    have : ¬ u = v := fun e => hyu (by rw [e])
    show (if u = v then _ else look (killF t s.fr) v) = dy;rw [if_neg this, IT hcl];exact hy
   | _ => exact hy
 have hopy' : opd ((u, .sl t 0 xs.length) :: killF t s.fr) y = dy := hopy.resolve_left fun e => by
  subst e
  have h9 : look s.fr u = dy := hy
  rw [hx] at h9;subst h9
  have := hsrc s
  cases this
 refine Ac hΓ (id := t) (sid := none) (xs := xs.take xs.length) hg hd ht ho h1 h2 h3 (dx := .sl t 0 xs.length) (by show (if u = u then _ else _) = _; rw [if_pos rfl]) (.own (by simp [lookM]) (OJ _)) hopy' (hsrc _) (by simp) (by rw [OH]; exact hlen) hb hzs ?_;simp only [OH];refine AI ?_ h;refine (Le.gather (u := t) (id := t) (n := te.size) (len := xs.length + ys.length) (xs := xs ++ ys) (by simp [look]) (by simp [lookM]) (by simp)).trans (Le.of (fun v => ?_) (fun id => .inl ?_))
 ·rw [Nw (by simp)]
  show (if t = v then _ else if u = v then D.top else look s.fr v) = (if t = v then _ else if t = v then _ else look (killF t ((u, D.sl t 0 xs.length) :: killF t s.fr)) v) ∨ _
  by_cases hv : t = v
  ·rw [if_pos hv, if_pos hv]; exact .inl rfl
  ·rw [if_neg hv, if_neg hv, if_neg hv]
   by_cases hv2 : u = v
   ·rw [if_pos hv2]
    right
    show (if t = v then _ else if u = v then D.top else look s.fr v) = D.top;rw [if_neg hv, if_pos hv2]
   ·rw [if_neg hv2]
    left
    rw [BS];show _ = D.kill t (if u = v then _ else look (killF t s.fr) v);rw [if_neg hv2, IT hcl, IG (hcl.1 v)]
 ·show lookM s.M id = _
  by_cases hid : id = t
  ·subst hid; rw [Bq, hcl.2.2]
  ·rw [Cu hid]
   show _ = (if t = id then _ else lookM (killM t ((t, Blk.L te.size xs) :: killM t s.M)) id);rw [if_neg (Ne.symm hid), BR];show _ = Option.map (Blk.kill t) (if t = id then _ else lookM (killM t s.M) id);rw [if_neg (Ne.symm hid), JQ hcl]
   cases hk : lookM s.M id with
   | none => rfl
   | some k => rw [Option.map_some, I2 (hcl.2.1 id k hk)]
theorem Cl.freeze {t v n : Nat} {ys : List T} {s : St} (h : Cl t s) : Cl t ⟨(v, .t (.list n ys)) :: s.fr, s.M⟩ := by
 refine ⟨fun u => ?_, h.2.1, h.2.2⟩;simp only [look];split
 ·rfl
 ·exact h.1 u
theorem CN {Q : St → List Dl → Prop} {Γ : Tys} (hΓ : Γ.ok P) {ty e t u v n : Nat} {ti te : TI} {xs ys : List T} (hg : o.guard = none) (hd : o.dst = some t) (ht : t < c.n) (hut : (u == t) = false) (huv : (u == v) = false)
  (ho : o.op = .call { callee := .builtin .append, args := #[.tmp u, .tmp v], argTypes := #[ty, ty] })
  (h1 : A7 Γ ty = some ti) (h2 : ti.kind = .slice e) (h3 : A7 Γ e = some te) (h4 : te.size = n) (hx : look s.fr u = .own (.list n xs)) (hy : look s.fr v = .own (.list n ys)) (hread : ∀ x, x ∈ ys → (T.cells x).length = n ∧ ∀ y, y ∈ T.cells x → ∃ v, y = .v v)
  (hlen : xs.length + ys.length ≤ 1073741824) (hb : te.bytes ≤ 131072) (hzs : te.zero.length = te.size)
  (kk : QG P c ops M0 rest ⟨(t, .own (.list te.size (xs ++ ys))) :: (u, .top) :: (v, .top) :: s.fr, s.M⟩ (acc ++ [⟨t, .own (.list te.size (xs ++ ys)), [u, v], [], true⟩]) Q) : QG P c ops M0 (o :: rest) s acc Q :=
 ⟨⟨t, .own (.list te.size (xs ++ ys)), [u, v], [], true⟩, hd, fun s' ha hc Q h => by
  subst h4
  have hcl := hc rfl
  dsimp only at hcl
  have huv' : ¬ u = v := by simpa using huv
  have hu' : look s'.fr u = .own (.list te.size xs) := (ha.opd (x := .tmp u) (by rw [ho]; simp [Op.operands, Call.operands])).trans hx
  have hv' : look s'.fr v = .own (.list te.size ys) := (ha.opd (x := .tmp v) (by rw [ho]; simp [Op.operands, Call.operands])).trans hy
  refine AI (Le.freeze (u := v) (d := .t (.list te.size ys)) (by rw [hv']; rfl)) ?_;refine Nn hΓ hg hd ht hut ho h1 h2 h3 (by show (if v = u then _ else _) = _; rw [if_neg (fun e => huv' e.symm)]; exact hu') (dy := .t (.list te.size ys)) (by show (if v = v then _ else _) = _; rw [if_pos rfl]) (fun _ => .read hread) hlen hb hzs hcl.freeze ?_;refine AI ?_ h;refine Le.of (fun w => ?_) (fun id => .inl rfl);show (if t = w then _ else if u = w then _ else if v = w then D.top else look s'.fr w) = (if t = w then _ else if u = w then _ else if v = w then _ else look s'.fr w) ∨ (if t = w then _ else if u = w then _ else if v = w then D.top else look s'.fr w) = D.top
  by_cases h1 : t = w
  ·rw [if_pos h1, if_pos h1]; exact .inl rfl
  ·by_cases h2 : u = w
   ·rw [if_neg h1, if_pos h2]; exact .inr rfl
   ·by_cases h3 : v = w
    ·rw [if_neg h1, if_neg h2, if_pos h3]; exact .inr rfl
    ·rw [if_neg h1, if_neg h2, if_neg h3, if_neg h1, if_neg h2, if_neg h3]; exact .inl rfl, kk⟩
end
end Go.Eng
namespace Go.Eng
section
variable {P : Program} {c : Ctx} {s : St} {ops : Array Oper} {rest : List Oper} {o : Oper} {M0 : List (Nat × Blk)} {acc : List Dl}
end
end Go.Eng
end
section
/- The elements of a list that is read, known by their values, cell by cell; and read again. -/
namespace Go.Eng
open Go.RowKit
section
variable {P : Program} {c : Ctx} {s : St} {Q : Exit → St → Prop} {ops : Array Oper} {rest : List Oper} {o : Oper}
end
end Go.Eng
end
section
/- Functions that are given a variable of the caller's by its place, and write into it and into what it leads to. -/
namespace Go.Eng
open Go.RowKit
section
variable {P : Program} {c : Ctx} {s : St} {Q : Exit → St → Prop} {ops : Array Oper} {rest : List Oper} {o : Oper}
end
end Go.Eng
end
section
/- Functions that are given the places of variables, that write into them, and that answer: a contract, the rule of its call, and how it is shown. -/
namespace Go.Eng
open Go.RowKit
def Blk.shut : Blk → Bool
 | .obox _ cells => D.noImm.noImmL cells
 | .raw _ _ _ _ => true
 | .rawV _ _ => true
 | .bld _ _ _ _ => true
 | .row _ _ _ _ => true
 | _ => false
theorem RelB.shut {w : World} {F F' : Nat → Prop} {β β' : Ag} {id id' : Nat} {k : Blk} {bs : List Nat} (h : RelB w F β id k bs) (hk : k.shut = true) : RelB w F' β' id' k bs := by
 cases k with
 | L n xs => simp [Blk.shut] at hk
 | box cells => simp [Blk.shut] at hk
 | raw b sz vs ts => exact h
 | rawV vs ts => exact h
 | ro vs ts => simp [Blk.shut] at hk
 | pin i b n c => simp [Blk.shut] at hk
 | obox pv cells =>
  simp only [Blk.shut] at hk
  rcases h with h | ⟨b, arr, e, bs', h1, h2, h3, h4, h5⟩
  ·exact .inl h
  ·exact .inr ⟨b, arr, e, bs', h1, h2, h3.noImm hk, h4, h5⟩
 | bld T e b l => exact h
 | row b cap n xs => exact h
def BL : Ag := fun _ => none
def BW : Nat → Prop := fun _ => False
def FU (w : World) : List Blk → List Nat → Prop
 | [], bs => bs = []
 | k :: ks, bs => ∃ b1 b2, RelB w BW BL 0 k b1 ∧ FU w ks b2 ∧ bs = b1 ++ b2
theorem ES {w : World} {mb : Nat → List Nat} : ∀ {ids : List Nat} {ks : List Blk}, ids.length = ks.length → (∀ p, p ∈ ids.zip ks → RelB w BW BL 0 p.2 (mb p.1)) → FU w ks (ids.flatMap mb)
 | [], [], _, _ => rfl
 | [], _ :: _, h, _ => by simp at h
 | _ :: _, [], h, _ => by simp at h
 | i :: ids, k :: ks, h, hk => ⟨mb i, ids.flatMap mb, hk (i, k) (by simp), ES (by simpa using h) fun p hp => hk p (by simp [hp]), by simp⟩
theorem DD {w : World} : ∀ {ids : List Nat} {ks : List Blk} {bs : List Nat}, ids.length = ks.length → ids.Nodup → FU w ks bs → ∃ mb : Nat → List Nat, (∀ p, p ∈ ids.zip ks → RelB w BW BL 0 p.2 (mb p.1)) ∧ bs = ids.flatMap mb
 | [], [], bs, _, _, h => ⟨fun _ => [], by simp, by rw [show bs = [] from h]; rfl⟩
 | [], _ :: _, _, h, _, _ => by simp at h
 | _ :: _, [], _, h, _, _ => by simp at h
 | i :: ids, k :: ks, bs, hl, hn, h => by
  obtain ⟨b1, b2, h1, h2, rfl⟩ := h
  obtain ⟨n1, n2⟩ := N7.1 hn
  obtain ⟨mb, h3, rfl⟩ := DD (ids := ids) (by simpa using hl) n2 h2
  refine ⟨fun j => if j = i then b1 else mb j, fun p hp => ?_, ?_⟩
  ·rw [List.zip_cons_cons] at hp
   rcases N6.1 hp with rfl | hp
   ·simpa using h1
   ·have hne : ¬ p.1 = i := fun e => n1 (e ▸ (List.of_mem_zip (a := p.1) (b := p.2) hp).1)
    simpa [hne] using h3 p hp
  ·rw [OM, if_pos rfl]
   congr 1
   have : ∀ l : List Nat, i ∉ l → l.flatMap mb = l.flatMap fun j => if j = i then b1 else mb j := by
    intro l hl
    induction l with
    | nil => rfl
    | cons j l ih =>
     rw [N6, not_or] at hl;rw [OM, OM, if_neg (fun e => hl.1 e.symm), ← ih hl.2]
   exact this ids n1
theorem FF {mb : Nat → List Nat} : ∀ {ids : List Nat}, (ids.flatMap mb).Nodup → ∀ {i j b : Nat}, i ∈ ids → j ∈ ids → b ∈ mb i → b ∈ mb j → i = j
 | [], _, _, _, _, h, _, _, _ => by simp at h
 | k :: ids, hn, i, j, b, hi, hj, h1, h2 => by
  rw [OM] at hn
  obtain ⟨n1, n2, n3⟩ := N5.1 hn
  rcases N6.1 hi with rfl | hi'
  ·rcases N6.1 hj with rfl | hj'
   ·rfl
   ·exact absurd rfl (n3 b h1 b (Oa.2 ⟨j, hj', h2⟩))
  ·rcases N6.1 hj with rfl | hj'
   ·exact absurd rfl (n3 b h2 b (Oa.2 ⟨i, hi', h1⟩))
   ·exact FF n2 hi' hj' h1 h2
theorem Cy {mb : Nat → List Nat} : ∀ {ids : List Nat}, ids.Nodup → (∀ i, i ∈ ids → (mb i).Nodup) → (∀ i j b, i ∈ ids → j ∈ ids → b ∈ mb i → b ∈ mb j → i = j) → (ids.flatMap mb).Nodup
 | [], _, _, _ => by simp
 | i :: ids, hn, h1, h2 => by
  obtain ⟨n1, n2⟩ := N7.1 hn
  rw [OM];refine N5.2 ⟨h1 i (by simp), Cy n2 (fun j hj => h1 j (by simp [hj])) (fun j k b hj hk => h2 j k b (by simp [hj]) (by simp [hk])), fun p hp q hq e => ?_⟩;subst e
  obtain ⟨j, hj, hpj⟩ := Oa.1 hq
  exact n1 ((h2 i j p (by simp) (by simp [hj]) hp hpj) ▸ hj)
theorem flat_nodup_at {mb : Nat → List Nat} : ∀ {ids : List Nat}, (ids.flatMap mb).Nodup → ∀ {i : Nat}, i ∈ ids → (mb i).Nodup
 | [], _, _, h => by simp at h
 | k :: ids, hn, i, hi => by
  rw [OM] at hn
  obtain ⟨n1, n2, n3⟩ := N5.1 hn
  rcases N6.1 hi with rfl | hi'
  ·exact n1
  ·exact flat_nodup_at n2 hi'
theorem Ev : ∀ {ids : List Nat} {ks : List Blk} {M : List (Nat × Blk)} {i : Nat}, ids.length = ks.length → i ∈ ids → ∃ k, lookM (ids.zip ks ++ M) i = some k ∧ (i, k) ∈ ids.zip ks
 | [], _, _, _, _, h => by simp at h
 | _ :: _, [], _, _, h, _ => by simp at h
 | j :: ids, k :: ks, M, i, hl, hi => by
  rw [List.zip_cons_cons, Oh];simp only [lookM]
  by_cases h : j = i
  ·subst h; exact ⟨k, by rw [if_pos rfl], by simp⟩
  ·rw [if_neg h]
   obtain ⟨k', h1, h2⟩ := Ev (M := M) (by simpa using hl) ((N6.1 hi).resolve_left fun e => h e.symm)
   exact ⟨k', h1, by simp [h2]⟩
theorem D0 : ∀ {ids : List Nat} {ks : List Blk} {M : List (Nat × Blk)} {i : Nat}, i ∉ ids → lookM (ids.zip ks ++ M) i = lookM M i
 | [], _, _, _, _ => rfl
 | _ :: _, [], _, _, _ => rfl
 | j :: ids, k :: ks, M, i, hi => by
  rw [N6, not_or] at hi;rw [List.zip_cons_cons, Oh];simp only [lookM];rw [if_neg fun e => hi.1 e.symm];exact D0 hi.2
def Proc (P : Program) (f : FuncId) (ds : List D) (rv : List Value) (rt : List T) (ks : List Blk) (r : D) (ks' : List Blk) : Prop :=
 BJ P f ∧ ∀ (w : World) (F : Nat → Prop) (args : Array Value) (bs : List Nat), (∀ b, F b → b < w.heap.size) → RelD w F BL args.toList ds [] → RelL w F rv rt → FU w ks bs → bs.Nodup → (∀ b, b ∈ bs → b < w.heap.size ∧ ¬ F b) →
  Calls P f args w fun e w' => ∃ v br bs', e = .returned v ∧ RelD w' BW BL [v] [r] br ∧ FU w' ks' bs' ∧ (br ++ bs').Nodup ∧ (∀ b, b ∈ br ++ bs' → b ∈ bs ∨ (w.heap.size ≤ b ∧ b < w'.heap.size)) ∧
   w'.os = w.os ∧ w'.tape = w.tape ∧ w'.output = w.output ∧ w.heap.size ≤ w'.heap.size ∧ ∀ b, b < w.heap.size → b ∉ bs → w'.heap[b]? = w.heap[b]?
def LookMs (M : List (Nat × Blk)) : List Nat → List Blk → Prop
 | [], [] => True
 | i :: ids, k :: ks => lookM M i = some k ∧ k.shut = true ∧ LookMs M ids ks
 | _, _ => False
theorem LookMs.len {M : List (Nat × Blk)} : ∀ {ids : List Nat} {ks : List Blk}, LookMs M ids ks → ids.length = ks.length
 | [], [], _ => rfl
 | [], _ :: _, h => h.elim
 | _ :: _, [], h => h.elim
 | _ :: ids, _ :: ks, h => by simpa using LookMs.len h.2.2
theorem LookMs.at {M : List (Nat × Blk)} : ∀ {ids : List Nat} {ks : List Blk}, LookMs M ids ks → ∀ p, p ∈ ids.zip ks → lookM M p.1 = some p.2 ∧ p.2.shut = true
 | [], [], _, _, hp => by simp at hp
 | [], _ :: _, h, _, _ => h.elim
 | _ :: _, [], h, _, _ => h.elim
 | i :: ids, k :: ks, h, p, hp => by
  rw [List.zip_cons_cons] at hp
  rcases N6.1 hp with rfl | hp
  ·exact ⟨h.1, h.2.1⟩
  ·exact LookMs.at h.2.2 p hp
section
variable {P : Program} {c : Ctx} {s : St} {Q : Exit → St → Prop} {ops : Array Oper} {rest : List Oper} {o : Oper}
def Lg (Γ : Tys) (fn : Func) (ids : List Nat) (r : D) (ks' : List Blk) : Exit → St → Prop
 | .normal, s | .ret, s => ∃ ds' ys, EP Γ s fn.results.toList ds' ys ∧ Aq ds' = r ∧ ys.Nodup ∧ D.noImm.noImmL ds' = true ∧ LookMs s.M ids ks' ∧ ∀ id, id ∈ ids → Sum.inr id ∉ ys
 | _, _ => False
theorem Md {Γ : Tys} {fn : Func} {ids : List Nat} {r : D} {ks ks' : List Blk} {e : Exit} {ds' : List D} {ys : List (Nat ⊕ Nat)} (he : e = .normal ∨ e = .ret) (h : EP Γ s fn.results.toList ds' ys) (hn : ys.Nodup) (hi : D.noImm.noImmL ds' = true) (hy : ∀ id, id ∈ ids → Sum.inr id ∉ ys)
  (hl : LookMs s.M ids ks) (hr : Aq ds' = r) (hk : ks = ks') : Lg Γ fn ids r ks' e s := by
 subst hk
 rcases he with rfl | rfl <;> exact ⟨ds', ys, h, hr, hn, hi, hl, hy⟩
theorem Proc.core {Γ : Tys} (hΓ : Γ.ok P) {f : FuncId} {fn : Func} {code : Code} (hf : P.funcs[f]? = some fn) (hb : fn.body = some code) (hname : (fn.name == "runtime.NumGoroutine") = false) {N : Nat} {ds : List D} {rv : List Value} {rt : List T} {ks : List Blk} {r : D} {ks' : List Blk} (ids : List Nat) (rid : Nat) (fr : List (Nat × D)) (M : List (Nat × Blk))
  (hN : ds.length + (fn.ntmps - ds.length) = N) (hfr : (List.range ds.length).zip ds = fr) (hM : ids.zip ks ++ [(rid, .ro rv rt)] = M) (hids : ids.length = ks.length) (hnd : ids.Nodup) (hrid : rid ∉ ids) (hsh : ks.all Blk.shut = true)
  {w : World} {F : Nat → Prop} {args : Array Value} {bs : List Nat} (hF : ∀ b, F b → b < w.heap.size) (hargs : RelD w F BL args.toList ds []) (hrd : RelL w F rv rt) (hms : FU w ks bs) (hbn : bs.Nodup) (hblt : ∀ b, b ∈ bs → b < w.heap.size ∧ ¬ F b)
  (h : W P ⟨w, fun b => b ∈ bs, F, N⟩ code ⟨fr, M⟩ (Lg Γ fn ids r ks')) :
  Calls P f args w fun e w' => ∃ v br bs', e = .returned v ∧ RelD w' BW BL [v] [r] br ∧ FU w' ks' bs' ∧ (br ++ bs').Nodup ∧ (∀ b, b ∈ br ++ bs' → b ∈ bs ∨ (w.heap.size ≤ b ∧ b < w'.heap.size)) ∧
   w'.os = w.os ∧ w'.tape = w.tape ∧ w'.output = w.output ∧ w.heap.size ≤ w'.heap.size ∧ ∀ b, b < w.heap.size → b ∉ bs → w'.heap[b]? = w.heap[b]? := by
 classical
 subst hfr hM
 have hlen := hargs.length
 simp only [OD] at hlen
 obtain ⟨mb0, hmb, rfl⟩ := DD hids hnd hms
 have hshut : ∀ p, p ∈ ids.zip ks → p.2.shut = true := fun p hp => by
  rw [N1] at hsh;exact hsh p.2 (List.of_mem_zip (a := p.1) (b := p.2) hp).2
 have hin : ∀ {i b}, i ∈ ids → b ∈ mb0 i → b ∈ ids.flatMap mb0 := fun hi hb => Oa.2 ⟨_, hi, hb⟩
 refine calls_of_wp hf hb ?_
 have h0 : Is ⟨w, fun b => b ∈ ids.flatMap mb0, F, N⟩ ⟨(List.range ds.length).zip ds, ids.zip ks ++ [(rid, .ro rv rt)]⟩ { tmps := args ++ Array.replicate (fn.ntmps - args.size) undef, defers := [] } w := by
  refine ⟨F, fun _ => none, fun _ => [], fun i => if i ∈ ids then mb0 i else [], fun b => if h : ∃ i, i ∈ ids ∧ b ∈ mb0 i then some (.inr h.choose) else none, ?_⟩
  have hlook : ∀ (l : List D) (k t : Nat), look ((List.range' k l.length).zip l) (k + t) = (l[t]?).getD .top := by
   intro l
   induction l with
   | nil => intro k t; simp [look]
   | cons d l ih =>
    intro k t;rw [Nx, List.range'_succ, List.zip_cons_cons];simp only [look]
    cases t with
    | zero => simp
    | succ t =>
     rw [if_neg (by omega), show k + (t + 1) = k + 1 + t from by omega, ih]
     simp
  have hl0 : ∀ t, look ((List.range ds.length).zip ds) t = (ds[t]?).getD .top := fun t => by
   have := hlook ds 0 t
   simpa [List.range_eq_range'] using this
  exact {
   fr := fun t => by
    rw [hl0]
    cases hd : ds[t]? with
    | none => exact .top .done
    | some d =>
     have hlt := (List.getElem?_eq_some_iff.1 hd).1
     obtain ⟨v, h1, h2⟩ := hargs.get0 t hd
     have hlt2 : t < args.size := by rw [hlen]; exact hlt
     have hv : (args ++ Array.replicate (fn.ntmps - args.size) undef).getD t undef = v := by
      rw [Ny, Array.getElem?_append_left hlt2]
      have : args[t]? = some v := by simpa using h1
      rw [this]; rfl
     rw [hv];exact h2
   mem := fun i => by
    by_cases hi : i ∈ ids
    ·obtain ⟨k, h1, h2⟩ := Ev (M := [(rid, .ro rv rt)]) hids hi
     rw [h1];simp only [if_pos hi];exact (hmb _ h2).shut (hshut _ h2)
    ·rw [D0 hi]
     simp only [lookM, if_neg hi]
     by_cases hr : rid = i
     ·rw [if_pos hr]; exact ⟨hrd, rfl⟩
     ·rw [if_neg hr]; trivial
   ofr := by simp
   omem := fun i b hb => by
    split at hb
    ·rename_i hi
     have hex : ∃ i, i ∈ ids ∧ b ∈ mb0 i := ⟨i, hi, hb⟩
     rw [dif_pos hex]
     have := hex.choose_spec
     rw [FF hbn this.1 hi this.2 hb]
    ·cases hb
   nfr := by simp
   nmem := fun i => by
    split
    ·rename_i hi; exact flat_nodup_at hbn hi
    ·simp
   own := fun b hb => by
    split at hb
    ·rename_i hex
     obtain ⟨h1, h2⟩ := hex.choose_spec
     have := hblt b (hin h1 h2)
     exact ⟨this.2, this.1, .inr (hin h1 h2)⟩
    ·exact absurd rfl hb
   fin := hF
   f0 := fun _ h => h
   fnew := fun _ h => .inl h
   f0in := fun b h => ⟨hF b h, fun h2 => (hblt b h2).2 h⟩
   gin := fun b h => (hblt b h).1
   os := rfl
   tape := rfl
   output := rfl
   size := OJ _
   keep := fun _ _ _ => rfl
   defers := rfl
   tmps := by simp [hlen, hN] }
 refine Code.wp_mono ?_ (h _ _ h0)
 rintro e a' w' ⟨s', ⟨F', β, fb, mb, ow, hi⟩, hq⟩
 have key : (∃ ds' ys, EP Γ s' fn.results.toList ds' ys ∧ Aq ds' = r ∧ ys.Nodup ∧ D.noImm.noImmL ds' = true ∧ LookMs s'.M ids ks' ∧ ∀ id, id ∈ ids → Sum.inr id ∉ ys) → a'.defers = [] ∧ ∃ v, (results fn a'.tmps).run P w' = .ok v w' ∧
   ∃ v' br bs', Ending.returned v = .returned v' ∧ RelD w' BW BL [v'] [r] br ∧ FU w' ks' bs' ∧ (br ++ bs').Nodup ∧ (∀ b, b ∈ br ++ bs' → b ∈ ids.flatMap mb0 ∨ (w.heap.size ≤ b ∧ b < w'.heap.size)) ∧
   w'.os = w.os ∧ w'.tape = w.tape ∧ w'.output = w.output ∧ w.heap.size ≤ w'.heap.size ∧ ∀ b, b < w.heap.size → b ∉ ids.flatMap mb0 → w'.heap[b]? = w.heap[b]? := by
  rintro ⟨ds', ys, h1, hr, h2, h3, h4, h5⟩
  obtain ⟨vs, br, q1, q2, q3, q4⟩ := DV hΓ hi h1 h2
  have q5 := q2.noImm (F' := BW) (β' := BL) h3
  have hres := CP (P := P) fn a'.tmps q1
  have hfn : (ids.flatMap mb).Nodup := Cy hnd (fun i _ => hi.nmem i) fun i j b _ _ h6 h7 => by
   have e1 := hi.omem i b h6
   rw [hi.omem j b h7] at e1;cases e1; rfl
  refine ⟨hi.defers, _, hres, _, br, ids.flatMap mb, rfl, ?_, ES h4.len fun p hp => ?_, N5.2 ⟨q3, hfn, fun p hp q hq e => ?_⟩, fun b hb => ?_, hi.os, hi.tape, hi.output, hi.size, fun b hb hn => hi.keep b hb hn⟩
  ·rw [← hr]
   have hl := q5.length
   match vs, ds', hl, q5 with
   | [], [], _, q5 => cases q5; exact RelD.tup (arr := #[]) (l := []) .done .done
   | [v], [d], _, q5 => exact q5
   | v :: v2 :: vs, d :: d2 :: ds', _, q5 => simpa [Aq] using RelD.tup (arr := (v :: v2 :: vs).toArray) q5 .done
  ·obtain ⟨g1, g2⟩ := h4.at p hp
   have := hi.mem p.1
   rw [g1] at this;exact this.shut g2
  ·subst e
   obtain ⟨y, g1, g2⟩ := q4 p hp
   obtain ⟨i, hii, hpi⟩ := Oa.1 hq
   rw [hi.omem i p hpi] at g1;cases g1;exact h5 i hii g2
  ·have : ow b ≠ none := by
    rcases N3.1 hb with hb | hb
    ·obtain ⟨y, g1, _⟩ := q4 b hb; rw [g1]; simp
    ·obtain ⟨i, hii, hpi⟩ := Oa.1 hb; rw [hi.omem i b hpi]; simp
   obtain ⟨_, g2, g3⟩ := hi.own b this
   exact g3.symm.imp (fun h => h) fun h => ⟨h, g2⟩
 cases e with
 | normal => exact key hq
 | ret => exact key hq
 | _ => exact hq.elim
theorem Proc.intro {Γ : Tys} (hΓ : Γ.ok P) {f : FuncId} {fn : Func} {code : Code} (hf : P.funcs[f]? = some fn) (hb : fn.body = some code) (hname : (fn.name == "runtime.NumGoroutine") = false) {N : Nat} {ds : List D} {rv : List Value} {rt : List T} {ks : List Blk} {r : D} {ks' : List Blk} (ids : List Nat) (rid : Nat) (fr : List (Nat × D)) (M : List (Nat × Blk))
  (hN : ds.length + (fn.ntmps - ds.length) = N) (hfr : (List.range ds.length).zip ds = fr) (hM : ids.zip ks ++ [(rid, .ro rv rt)] = M) (hids : ids.length = ks.length) (hnd : ids.Nodup) (hrid : rid ∉ ids) (hsh : ks.all Blk.shut = true)
  (h : ∀ w0 G F0, W P ⟨w0, G, F0, N⟩ code ⟨fr, M⟩ (Lg Γ fn ids r ks')) : Proc P f ds rv rt ks r ks' :=
 ⟨⟨fn, hf, by rw [hb]; rfl, hname⟩, fun w F args bs hF hargs hrd hms hbn hblt => Proc.core hΓ hf hb hname ids rid fr M hN hfr hM hids hnd hrid hsh hF hargs hrd hms hbn hblt (h w _ F)⟩
inductive ResP (s : St) (ids : List Nat) : List D → List D → Prop
 | done : ResP s ids [] []
 | t {x ds es} : ResP s ids ds es → ResP s ids (.t x :: ds) (.t x :: es)
 | nil {ds es} (n : Nat) : ResP s ids ds es → ResP s ids (.nil :: ds) (.t (.list n []) :: es)
 | nil' {ds es} : ResP s ids ds es → ResP s ids (.nil :: ds) (.nil :: es)
 | own {n l ds es} : ResP s ids ds es → ResP s ids (.own (.list n l) :: ds) (.t (.list n l) :: es)
 | sl {id off len n xs ds es} : lookM s.M id = some (.L n xs) → ids.contains id = false → off + len ≤ xs.length → ResP s ids ds es → ResP s ids (.sl id off len :: ds) (.t (.list n ((xs.drop off).take len)) :: es)
 | pin {id i off b n cc ds es} (pid : Nat) : lookM s.M pid = some (.pin id b n cc) → ResP s ids ds es → ResP s ids (.ref id i off :: ds) (.t (.v (.pointer (some ⟨b, i * n + off, none⟩))) :: es)
 | agg {l l' ds es} : ResP s ids l l' → ResP s ids ds es → ResP s ids (.agg l :: ds) (.agg l' :: es)
 | aggT {l ts ds es} : ResP s ids l (ts.map D.t) → ResP s ids ds es → ResP s ids (.agg l :: ds) (.t (.agg ts) :: es)
 | top {d ds es} : ResP s ids ds es → ResP s ids (d :: ds) (.top :: es)
theorem ResP.sound {a : Act} {w : World} {F β fb mb ow} (hi : Conc c s a w F β fb mb ow) {ids : List Nat} {ds es : List D} (h : ResP s ids ds es) : ∀ {vs bs}, RelD w F β vs ds bs → (∀ b, b ∈ bs → ∃ t, ow b = some (.inl t)) →
  RelD w (fun b => b < w.heap.size ∧ ∀ i, i ∈ ids → b ∉ mb i) BL vs es [] := by
 have hFa : ∀ b, F b → b < w.heap.size ∧ ∀ i, i ∈ ids → b ∉ mb i := fun b hb => ⟨hi.fin b hb, fun i _ h => (hi.own b (by rw [hi.omem i b h]; simp)).1 hb⟩
 have hFt : ∀ b t, ow b = some (.inl t) → b < w.heap.size ∧ ∀ i, i ∈ ids → b ∉ mb i := fun b t hb => ⟨(hi.own b (by rw [hb]; simp)).2.1, fun i _ h => by rw [hi.omem i b h] at hb; cases hb⟩
 induction h with
 | done => intro vs bs hr _; cases hr; exact .done
 | t _ ih =>
  intro vs bs hr hb
  cases hr with
  | t h1 h2 => exact .t (h1.mono hFa fun _ _ => rfl) (ih h2 hb)
  | tagg h1 h2 => exact .tagg (h1.mono hFa fun _ _ => rfl) (ih h2 hb)
 | nil n _ ih =>
  intro vs bs hr hb
  cases hr with
  | nil h2 => exact .t (.none .nil) (ih h2 hb)
 | nil' _ ih =>
  intro vs bs hr hb
  cases hr with
  | nil h2 => exact .nil (ih h2 hb)
 | own _ ih =>
  intro vs bs hr hb
  cases hr with
  | own h1 h2 => exact .t (h1.rel fun b h => by obtain ⟨t, ht⟩ := hb b (by simp [h]); exact hFt b t ht) (ih h2 fun b h => hb b (by simp [h]))
 | @sl id off len n xs ds es hM hni hle _ ih =>
  intro vs bs hr hb
  have hid : id ∉ ids := by simpa using hni
  have hm := hi.mem id
  rw [hM] at hm
  have hFm : ∀ b, b ∈ mb id → b < w.heap.size ∧ ∀ i, i ∈ ids → b ∉ mb i := fun b hb' => ⟨(hi.own b (by rw [hi.omem id b hb']; simp)).2.1, fun i hii h => by
   have e1 := hi.omem i b h
   rw [hi.omem id b hb'] at e1;cases e1
   exact hid hii⟩
  have hlen : ((xs.drop off).take len).length = len := by simp; omega
  cases hr with
  | slnil q1 q2 =>
   refine .t ?_ (ih q2 hb);rw [List.take_zero];exact .none .nil
  | @sl _ _ _ ad b n' cap k _ _ _ q1 q2 q3 q4 q5 =>
   refine .t ?_ (ih q5 hb)
   rcases hm with ⟨h, _⟩ | ⟨b1, cap1, arr, e, bs1, h1, h2, h3, h4, h5, h6, h7, h8⟩
   ·rw [h] at q1; cases q1
   ·rw [h1] at q1
    cases q1
    by_cases h0 : k = 0
    ·have hl0 : len = 0 := by omega
     subst hl0;rw [List.take_zero];exact .none .nil
    ·have := q4 h0
     subst this
     have hrel := h7.rel (F := fun b => b < w.heap.size ∧ ∀ i, i ∈ ids → b ∉ mb i) fun b' hb' => hFm b' (by rw [h8]; simp [hb'])
     have h9 := (hrel.drop (off * n)).take (len * n)
     rw [FG h4, Bf fun z hz => h4 z (List.mem_of_mem_drop hz)] at h9
     have h10 := RelL.list (o := off * n) (cap := k) (xs := (xs.drop off).take len) (n := n) (fz := (0, 0)) (F := fun b => b < w.heap.size ∧ ∀ i, i ∈ ids → b ∉ mb i) (hFm b (by rw [h8]; simp)) h2 (fun j hj => by
      simp only [OO, OT, OD] at hj;simp only [List.getElem?_take, List.getElem?_drop];rw [if_pos (by omega), if_pos (by omega)]
      simp) (fun z hz => h4 z (List.mem_of_mem_drop (OX hz))) (by rw [hlen]; exact q2) h9 .nil
     rw [hlen] at h10;exact h10
 | @pin id i off b n cc ds es pid hM _ ih =>
  intro vs bs hr hb
  have hm := hi.mem pid
  rw [hM] at hm
  cases hr with
  | ref q1 q2 =>
   have := hm.1
   rw [this] at q1;cases q1;exact .t (.v rfl .nil) (ih q2 hb)
 | agg _ _ ih1 ih2 =>
  intro vs bs hr hb
  cases hr with
  | agg h0 h1 h2 => exact .agg h0 (ih1 h1 fun b h => hb b (by simp [h])) (ih2 h2 fun b h => hb b (by simp [h]))
 | aggT _ _ ih1 ih2 =>
  intro vs bs hr hb
  cases hr with
  | agg h0 h1 h2 => exact .tagg (Cr (ih1 h1 fun b h => hb b (by simp [h])) h0) (ih2 h2 fun b h => hb b (by simp [h]))
 | top _ ih =>
  intro vs bs hr hb
  cases vs with
  | nil => cases hr
  | cons v vs =>
   obtain ⟨b1, b2, _, h2, rfl⟩ := hr.cons
   exact .top (ih h2 fun b h => hb b (by simp [h]))
theorem Ep {a : Act} {w : World} {F β fb mb ow} (h : Conc c s a w F β fb mb ow) : ∀ l : List Operand, ∃ bs, RelD w F β (l.map a.eval) (l.map (opd s.fr)) bs ∧ ∀ b, b ∈ bs → ∃ t, ow b = some (.inl t)
 | [] => ⟨[], .done, by simp⟩
 | x :: l => by
  obtain ⟨bs, hr, h1⟩ := h.opd x
  obtain ⟨bs', hr', h2⟩ := Ep h l
  refine ⟨bs ++ bs', RelD.cons' hr hr', fun b hb => ?_⟩
  rcases N3.1 hb with hb | hb
  ·rcases h1 with rfl | ⟨t, _, rfl⟩
   ·cases hb
   ·exact ⟨t, h.ofr t b hb⟩
  ·exact h2 b hb
theorem Conc.lent {a : Act} {w w' : World} {F β fb mb ow} (hi : Conc c s a w F β fb mb ow) {t : Nat} (ht : t < c.n) {v : Value} {r : D} {br bs' : List Nat} {ids : List Nat} {ks' : List Blk} (hnd : ids.Nodup) (hl : ids.length = ks'.length) (hsh : ks'.all Blk.shut = true) (hrn : r.noImm = true)
  (q1 : RelD w' BW BL [v] [r] br) (q2 : FU w' ks' bs') (q3 : (br ++ bs').Nodup) (q4 : ∀ b, b ∈ br ++ bs' → b ∈ ids.flatMap mb ∨ (w.heap.size ≤ b ∧ b < w'.heap.size))
  (q5 : w'.os = w.os) (q6 : w'.tape = w.tape) (q7 : w'.output = w.output) (q8 : w.heap.size ≤ w'.heap.size) (q9 : ∀ b, b < w.heap.size → b ∉ ids.flatMap mb → w'.heap[b]? = w.heap[b]?) : Is c ⟨(t, r) :: s.fr, ids.zip ks' ++ s.M⟩ (a.put (some t) v) w' := by
 classical
 obtain ⟨mbn, hmb, rfl⟩ := DD hl hnd q2
 obtain ⟨n1, n2, n3⟩ := N5.1 q3
 have hshut : ∀ p, p ∈ ids.zip ks' → p.2.shut = true := fun p hp => by
  rw [N1] at hsh;exact hsh p.2 (List.of_mem_zip (a := p.1) (b := p.2) hp).2
 have hlent : ∀ b, b ∈ ids.flatMap mb → ∃ i, i ∈ ids ∧ ow b = some (.inr i) := fun b hb => by
  obtain ⟨i, h1, h2⟩ := Oa.1 hb
  exact ⟨i, h1, hi.omem i b h2⟩
 -- a block of what is not lent
 have stay : ∀ b y, ow b = some y → (∀ i, i ∈ ids → y ≠ .inr i) → b ∉ ids.flatMap mb ∧ b ∉ br ∧ (¬ ∃ i, i ∈ ids ∧ b ∈ mbn i) ∧ w'.heap[b]? = w.heap[b]? := fun b y hy hne => by
  have h1 : b ∉ ids.flatMap mb := fun h => by
   obtain ⟨i, h2, h3⟩ := hlent b h
   rw [hy] at h3; cases h3;exact hne i h2 rfl
  have hlt := (hi.own b (by rw [hy]; simp)).2.1
  have h2 : b ∉ br ++ ids.flatMap mbn := fun h => by
   rcases q4 b h with h | h
   ·exact h1 h
   ·omega
  refine ⟨h1, fun h => h2 (by simp [h]), fun ⟨i, h3, h4⟩ => h2 (List.mem_append_right _ (Oa.2 ⟨i, h3, h4⟩)), q9 b hlt h1⟩
 have hFw : ∀ b, F b → w'.heap[b]? = w.heap[b]? := fun b hb => q9 b (hi.fin b hb) fun h => by
  obtain ⟨i, _, h3⟩ := hlent b h
  exact (hi.own b (by rw [h3]; simp)).1 hb
 refine ⟨F, β, fun u => if t = u then br else fb u, fun i => if i ∈ ids then mbn i else mb i, fun b => if b ∈ br then some (.inl t) else if h : ∃ i, i ∈ ids ∧ b ∈ mbn i then some (.inr h.choose) else if b ∈ ids.flatMap mb then none else ow b, ?_⟩
 have howof : ∀ b y, ow b = some y → (∀ i, i ∈ ids → y ≠ .inr i) → (if b ∈ br then some (.inl t) else if h : ∃ i, i ∈ ids ∧ b ∈ mbn i then some (.inr h.choose) else if b ∈ ids.flatMap mb then none else ow b) = some y := fun b y hy hne => by
  obtain ⟨h1, h2, h3, _⟩ := stay b y hy hne
  rw [if_neg h2, dif_neg h3, if_neg h1, hy]
 exact { hi with
  fr := fun u => by
   rw [Bs _ _ _ _ (by rw [hi.tmps]; exact ht)];simp only [look];split
   ·exact q1.noImm (by simp [D.noImm.noImmL, hrn])
   ·exact (hi.fr u).mono (fun _ h => h) hFw (fun b h => (stay b _ (hi.ofr u b h) (by simp)).2.2.2) fun _ => rfl
  mem := fun i => by
   by_cases hii : i ∈ ids
   ·obtain ⟨k, h1, h2⟩ := Ev (M := s.M) hl hii
    rw [h1];simp only [if_pos hii];exact (hmb _ h2).shut (hshut _ h2)
   ·rw [D0 hii]
    simp only [if_neg hii]
    have := hi.mem i
    cases h : lookM s.M i with
    | none => rw [h] at this; exact this
    | some k =>
     rw [h] at this
     exact RelB.mono this hFw fun b h => (stay b _ (hi.omem i b h) (fun j hj e => by cases e; exact hii hj)).2.2.2
  ofr := fun u b hb => by
   split at hb
   ·rename_i e; subst e; rw [if_pos hb]
   ·exact howof b _ (hi.ofr u b hb) (by simp)
  omem := fun i b hb => by
   split at hb
   ·rename_i hii
    have hnb : b ∉ br := fun h => n3 b h b (Oa.2 ⟨i, hii, hb⟩) rfl
    have hex : ∃ i, i ∈ ids ∧ b ∈ mbn i := ⟨i, hii, hb⟩
    rw [if_neg hnb, dif_pos hex]
    have := hex.choose_spec
    rw [FF n2 this.1 hii this.2 hb]
   ·rename_i hii
    exact howof b _ (hi.omem i b hb) (fun j hj e => by cases e; exact hii hj)
  nfr := fun u => by
   split
   ·exact n1
   ·exact hi.nfr u
  nmem := fun i => by
   split
   ·rename_i hii; exact flat_nodup_at n2 hii
   ·exact hi.nmem i
  own := fun b hb => by
   have hq : b ∈ br ++ ids.flatMap mbn → ¬ F b ∧ b < w'.heap.size ∧ (c.w0.heap.size ≤ b ∨ c.G b) := fun h => by
    rcases q4 b h with h | ⟨h1, h2⟩
    ·obtain ⟨i, _, h3⟩ := hlent b h
     obtain ⟨g1, g2, g3⟩ := hi.own b (by rw [h3]; simp)
     exact ⟨g1, Od g2 q8, g3⟩
    ·exact ⟨fun h => by have := hi.fin b h; omega, h2, .inl (Nat.le_trans hi.size h1)⟩
   split at hb
   ·rename_i h; exact hq (by simp [h])
   ·split at hb
    ·rename_i h; obtain ⟨i, h1, h2⟩ := h; exact hq (List.mem_append_right _ (Oa.2 ⟨i, h1, h2⟩))
    ·split at hb
     ·exact absurd rfl hb
     ·obtain ⟨g1, g2, g3⟩ := hi.own b hb
      exact ⟨g1, Od g2 q8, g3⟩
  fin := fun b h => Od (hi.fin b h) q8
  os := q5.trans hi.os
  tape := q6.trans hi.tape
  output := q7.trans hi.output
  size := Nat.le_trans hi.size q8
  keep := fun b h hg => by
   rw [q9 b (Od h hi.size) fun h2 => ?_]
   ·exact hi.keep b h hg
   ·obtain ⟨i, _, h3⟩ := hlent b h2
    rcases (hi.own b (by rw [h3]; simp)).2.2 with h4 | h4
    ·omega
    ·exact hg h4
  defers := (BT a _ v).trans hi.defers
  tmps := (B4 a _ v).trans hi.tmps }
theorem MX {t rid : Nat} {fo : Operand} {args : Array Operand} {tys : Array TypeId} {f : FuncId} {es : List D} {rv : List Value} {rt : List T} {ks : List Blk} {r : D} {ks' : List Blk} (ids : List Nat) (hg : o.guard = none) (hd : o.dst = some t) (ht : t < c.n)
  (ho : o.op = .call { callee := .value fo, args := args, argTypes := tys }) (hf : opd s.fr fo = .clo f []) (hes : ResP s ids (args.toList.map (opd s.fr)) es) (hro : lookM s.M rid = some (.ro rv rt)) (hM : LookMs s.M ids ks) (hnd : ids.Nodup)
  (hm : Proc P f es rv rt ks r ks') (hr : r.noImm = true) (hl' : ids.length = ks'.length) (hks' : ks'.all Blk.shut = true)
  (k : WO P c ops rest ⟨(t, r) :: s.fr, ids.zip ks' ++ s.M⟩ Q) : WO P c ops (o :: rest) s Q := by
 rintro a w ⟨F, β, fb, mb, ow, hi⟩
 obtain ⟨bf, hrf, h1⟩ := hi.opd fo
 rw [hf] at hrf
 obtain ⟨arr, bs', hv, hr1, rfl⟩ := BA hrf
 have ha : arr = #[] := by
  have := hr1.length
  simpa using this
 subst ha
 obtain ⟨bs, hr2, h2⟩ := Ep hi args.toList
 have hsound := hes.sound hi hr2 h2
 have hrun : (execOp a.eval o).run P w = .ok (.enter f (args.map a.eval)) w := by
  simp [execOp, ho, resolve, hv, Deferred.ofValue, invoke, A9 hm.1]
 refine wpList_plain hg fun K hK => ?_
 unfold Oper.wp;rw [hrun, Oper.upon_enter]
 have hrel : ∀ p, p ∈ ids.zip ks → RelB w BW BL 0 p.2 (mb p.1) := fun p hp => by
  obtain ⟨g1, g2⟩ := hM.at p hp
  have := hi.mem p.1
  rw [g1] at this;exact this.shut g2
 have hfn : (ids.flatMap mb).Nodup := Cy hnd (fun i _ => hi.nmem i) fun i j b _ _ h6 h7 => by
  have e1 := hi.omem i b h6
  rw [hi.omem j b h7] at e1;cases e1; rfl
 have hrr := hi.mem rid
 rw [hro] at hrr;refine (hm.2 w (fun b => b < w.heap.size ∧ ∀ i, i ∈ ids → b ∉ mb i) (args.map a.eval) (ids.flatMap mb) (fun b h => h.1) (by simpa using hsound) (hrr.1.mono (fun b hb => ⟨hi.fin b hb, fun i _ h => (hi.own b (by rw [hi.omem i b h]; simp)).1 hb⟩) fun _ _ => rfl) (ES hM.len hrel) hfn fun b hb => ?_).mono ?_
 ·obtain ⟨i, h3, h4⟩ := Oa.1 hb
  exact ⟨(hi.own b (by rw [hi.omem i b h4]; simp)).2.1, fun h => h.2 i h3 h4⟩
 rintro e w' ⟨v, br, bs', rfl, q1, q2, q3, q4, q5, q6, q7, q8, q9⟩
 dsimp only;rw [hd];exact hK _ _ (k _ _ (hi.lent ht hnd hl' hks' hr q1 q2 q3 q4 q5 q6 q7 q8 q9))
/-! ### Places that are told -/
theorem Is.pin {a : Act} {w : World} (h : Is c s a w) {u pid : Nat} {cells : List D} (hM : lookM s.M u = some (.box cells)) (h2 : lookM s.M pid = none) : ∃ b, Is c ⟨s.fr, (pid, .pin u b cells.length 1) :: s.M⟩ a w := by
 obtain ⟨F, β, fb, mb, ow, hi⟩ := h
 have hm := hi.mem u
 rw [hM] at hm
 obtain ⟨b, arr, e, bs', h1, h3⟩ := hm
 refine ⟨b, F, β, fb, mb, ow, { hi with mem := fun i => ?_ }⟩;simp only [lookM]
 by_cases hp : pid = i
 ·subst hp
  rw [if_pos rfl]
  have := hi.mem pid
  rw [h2] at this;exact ⟨h1, this⟩
 ·rw [if_neg hp]; exact hi.mem i
theorem W_pin {x : Code} {u pid : Nat} {cells : List D} (hM : lookM s.M u = some (.box cells)) (h2 : lookM s.M pid = none) (k : ∀ b, W P c x ⟨s.fr, (pid, .pin u b cells.length 1) :: s.M⟩ Q) : W P c x s Q :=
 fun a w h => by obtain ⟨b, hb⟩ := h.pin hM h2; exact k b a w hb
theorem Le.close {u b n : Nat} {cells : List D} (pid : Nat) (hM : lookM s.M u = some (.box cells)) (hp : lookM s.M pid = some (.pin u b n 1)) (hc : D.noImm.noImmL cells = true) : Le c s ⟨s.fr, (u, .obox (.pointer (some ⟨b, 0, none⟩)) cells) :: s.M⟩ := by
 rintro a w ⟨F, β, fb, mb, ow, hi⟩
 have hm := hi.mem u
 rw [hM] at hm
 obtain ⟨b', arr, e, bs', h1, h2, h3, h4, h5⟩ := hm
 have h6 := hi.mem pid
 rw [hp] at h6;rw [h6.1] at h1;cases h1;refine ⟨F, β, fb, mb, ow, { hi with mem := fun i => ?_ }⟩;simp only [lookM]
 by_cases hu : u = i
 ·subst hu
  rw [if_pos rfl];exact .inr ⟨b, arr, e, bs', rfl, h2, h3.noImm hc, h4, h5⟩
 ·rw [if_neg hu]; exact hi.mem i
theorem Le.open {u b n : Nat} {cells : List D} (pid : Nat) (hM : lookM s.M u = some (.obox (.pointer (some ⟨b, 0, none⟩)) cells)) (hp : lookM s.M pid = some (.pin u b n 1)) (hn : n = cells.length) (hc : D.noImm.noImmL cells = true) : Le c s ⟨s.fr, (u, .box cells) :: s.M⟩ := by
 subst hn
 rintro a w ⟨F, β, fb, mb, ow, hi⟩
 have hm := hi.mem u
 rw [hM] at hm
 have h6 := hi.mem pid
 rw [hp] at h6
 rcases hm with ⟨h, _⟩ | ⟨b', arr, e, bs', h1, h2, h3, h4, h5⟩
 ·cases h
 cases h1;refine ⟨F, β, fb, mb, ow, { hi with mem := fun i => ?_ }⟩;simp only [lookM]
 by_cases hu : u = i
 ·subst hu
  rw [if_pos rfl];exact ⟨b, arr, e, bs', h6.1, h2, h3.noImm hc, h4, h5⟩
 ·rw [if_neg hu]; exact hi.mem i
theorem Hi {t : Nat} : ∀ {M : List (Nat × Blk)}, (M.all fun p => Bn t p.2) = true → ∀ id k, lookM M id = some k → Bn t k = true
 | [], _, _, _, h => by cases h
 | (j, k0) :: M, h, id, k, hk => by
  rw [OP, Nv] at h;simp only [lookM] at hk;split at hk
  ·cases hk; exact h.1
  ·exact Hi h.2 id k hk
theorem Le.openNew {u b : Nat} {cells : List D} (pid : Nat) (hM : lookM s.M u = some (.obox (.pointer (some ⟨b, 0, none⟩)) cells)) (h2 : lookM s.M pid = none) (hc : D.noImm.noImmL cells = true) (h3 : JR u s.fr = true) (h4 : (s.M.all fun p => Bn u p.2) = true) :
  Le c s ⟨s.fr, (u, .box cells) :: (pid, .pin u b cells.length 1) :: s.M⟩ := by
 rintro a w ⟨F, β, fb, mb, ow, hi⟩
 have hm := hi.mem u
 rw [hM] at hm
 rcases hm with ⟨h, _⟩ | ⟨b', arr, e, bs', q1, q2, q3, q4, q5⟩
 ·cases h
 cases q1
 have hup : ¬ u = pid := fun e => by rw [e, h2] at hM; cases hM
 have hβ : ∀ i, i ≠ u → (fun i => if i = u then some (b, cells.length, 1) else β i) i = β i := fun i h => by simp [h]
 have hcm := Hi h4
 refine ⟨F, fun i => if i = u then some (b, cells.length, 1) else β i, fb, mb, ow, { hi with fr := fun t => (hi.fr t).other hβ (by simp only [D.has.hasL, Ob]; exact B1 h3 t), mem := fun i => ?_ }⟩;simp only [lookM]
 by_cases hu : u = i
 ·subst hu
  rw [if_pos rfl];exact ⟨b, arr, e, bs', by simp, q2, q3.noImm hc, q4, q5⟩
 ·rw [if_neg hu]
  by_cases hp : pid = i
  ·subst hp
   rw [if_pos rfl]
   have := hi.mem pid
   rw [h2] at this;exact ⟨by simp, this⟩
  ·rw [if_neg hp]
   have hm := hi.mem i
   cases hk : lookM s.M i with
   | none => rw [hk] at hm; exact hm
   | some k =>
    rw [hk] at hm
    have hck := hcm i k hk
    have hiu : ¬ i = u := fun e => hu e.symm
    cases k with
    | L n' xs' =>
     rcases hm with ⟨g1, g2, g3⟩ | ⟨b, cap, arr', e', bs', g1, g⟩
     ·exact .inl ⟨by dsimp only; rw [if_neg hiu]; exact g1, g2, g3⟩
     ·exact .inr ⟨b, cap, arr', e', bs', by dsimp only; rw [if_neg hiu]; exact g1, g⟩
    | box cs =>
     obtain ⟨b, arr', e', bs', g1, g2, g3, g4, g5⟩ := hm
     simp only [Bn, ON] at hck;exact ⟨b, arr', e', bs', by dsimp only; rw [if_neg hiu]; exact g1, g2, g3.other hβ hck, g4, g5⟩
    | raw _ _ _ _ => exact hm
    | rawV _ _ => exact hm
    | ro _ _ => exact hm
    | pin j b n c =>
     simp only [Bn, ON, beq_eq_false_iff_ne] at hck;exact ⟨by dsimp only; rw [if_neg hck]; exact hm.1, hm.2⟩
    | obox _ _ => exact hm
    | bld _ _ _ _ => exact hm
    | row _ _ _ _ => exact hm
theorem Le.named {t u b n cc off : Nat} (pid : Nat) (h1 : look s.fr t = .t (.v (.pointer (some ⟨b, off, none⟩)))) (hp : lookM s.M pid = some (.pin u b n cc)) : Le c s ⟨(t, .ref u 0 off) :: s.fr, s.M⟩ := by
 rintro a w ⟨F, β, fb, mb, ow, hi⟩
 have h6 := hi.mem pid
 rw [hp] at h6
 have hr := hi.fr t
 rw [h1] at hr
 have e1 := Am hr
 have hf : fb t = [] := hr.free1 rfl
 refine ⟨F, β, fb, mb, ow, { hi with fr := fun v => ?_ }⟩;simp only [look];split
 ·rename_i e
  subst e;rw [e1, hf]
  have := RelD.ref (w := w) (F := F) (β := β) (i := 0) (off := off) h6.1 RelD.done
  simpa using this
 ·exact hi.fr v
end
end Go.Eng
end
section
/- Some of the values of a list kept, the others let go. -/
namespace Go.Eng
open Go.RowKit
section
variable {P : Program} {c : Ctx} {s : St}
end
end Go.Eng
end
section
/- Statements of open order in which operations write into memory: what each leaves is told, and where two are not ordered they do not meet. -/
namespace Go.Eng
open Go.RowKit
def Iw (prev : List Nat) (o : Oper) : Nat := o.after.toList.foldr (fun e m => if Region.binds .any e then m ||| 2 ^ e.on ||| prev.getD e.on 0 else m) 0
def DL (ops : Array Oper) : Nat → List Nat
 | 0 => []
 | k + 1 => match ops[k]? with
  | some o => DL ops k ++ [Iw (DL ops k) o]
  | none => DL ops k ++ [0]
theorem C0 (ops : Array Oper) : ∀ k, (DL ops k).length = k
 | 0 => rfl
 | k + 1 => by
  rw [DL]
  split <;> simp [C0 ops k]
theorem H6 {prev : List Nat} {o : Oper} {j : Nat} (h : (Iw prev o).testBit j = true) : ∃ e, e ∈ o.after ∧ Region.binds .any e = true ∧ (e.on = j ∨ (prev.getD e.on 0).testBit j = true) := by
 unfold Iw at h
 have key : ∀ l : List Edge, (l.foldr (fun e m => if Region.binds .any e then m ||| 2 ^ e.on ||| prev.getD e.on 0 else m) 0).testBit j = true → ∃ e, e ∈ l ∧ Region.binds .any e = true ∧ (e.on = j ∨ (prev.getD e.on 0).testBit j = true) := by
  intro l
  induction l with
  | nil => intro h; simp at h
  | cons e l ih =>
   intro h;rw [List.foldr_cons] at h;split at h
   ·rename_i hb
    rw [Nat.testBit_or, Nat.testBit_or, Bool.or_eq_true, Bool.or_eq_true] at h
    rcases h with (h | h) | h
    ·obtain ⟨e', h1, h2⟩ := ih h
     exact ⟨e', OE _ h1, h2⟩
    ·rw [Nat.testBit_two_pow] at h
     exact ⟨e, OG .., hb, .inl (by simpa using h)⟩
    ·exact ⟨e, OG .., hb, .inr h⟩
   ·obtain ⟨e', h1, h2⟩ := ih h
    exact ⟨e', OE _ h1, h2⟩
 obtain ⟨e, h1, h2⟩ := key _ h
 exact ⟨e, by simpa using h1, h2⟩
theorem LJ {ops : Array Oper} : ∀ {k i : Nat}, i < k → ∀ {o}, ops[i]? = some o → (DL ops k).getD i 0 = Iw (DL ops i) o
 | 0, _, h, _, _ => by omega
 | k + 1, i, h, o, ho => by
  rw [DL]
  by_cases e : i = k
  ·subst e
   rw [ho]
   simp [C0, OB]
  ·have ih := LJ (k := k) (i := i) (by omega) ho
   split
   ·rw [OB, List.getElem?_append_left (by rw [C0]; omega), ← OB]; exact ih
   ·rw [OB, List.getElem?_append_left (by rw [C0]; omega), ← OB]; exact ih
theorem Gk {ops : Array Oper} {i : Nat} {x : Nat} : ∀ {k : Nat}, i ≤ k → x < i → (DL ops k).getD x 0 = (DL ops i).getD x 0
 | 0, h, h2 => by omega
 | k + 1, h, h2 => by
  by_cases e : i = k + 1
  ·subst e; rfl
  ·rw [DL]
   split
   ·rw [OB, List.getElem?_append_left (by rw [C0]; omega), ← OB]; exact Gk (by omega) h2
   ·rw [OB, List.getElem?_append_left (by rw [C0]; omega), ← OB]; exact Gk (by omega) h2
def rch (A : List Nat) (i j : Nat) : Bool := (A.getD i 0).testBit j
section
variable {ops : Array Oper} {X : Nat → Bool}
theorem EU (hlt : ∀ k ok, ops[k]? = some ok → ∀ e, e ∈ ok.after → Region.binds .any e = true → e.on < k) {n : Nat} (hn : n ≤ ops.size) (hcl : ∀ j oj, ops[j]? = some oj → j < n → X j = true → ∀ e, e ∈ oj.after → Region.binds .any e = true → X e.on = true) :
  ∀ i, i < n → ∀ j, rch (DL ops n) i j = true → (∀ oi, ops[i]? = some oi → ∀ e, e ∈ oi.after → Region.binds .any e = true → X e.on = true) → X j = true ∧ j < i := by
 intro i
 induction i using Nat.strongRecOn with
 | _ i ih =>
  intro hi j hr hd
  have hoi : ops[i]? = some ops[i] := Array.getElem?_eq_getElem (by omega)
  unfold rch at hr;rw [LJ hi hoi] at hr
  obtain ⟨e, h1, h2, h3⟩ := H6 hr
  have hX := hd _ hoi e h1 h2
  have hei := hlt i _ hoi e h1 h2
  rcases h3 with h3 | h3
  ·subst h3; exact ⟨hX, hei⟩
  ·have h4 := ih e.on hei (by omega) j (by
    unfold rch;rw [Gk (i := i) (by omega) hei]
    exact h3) fun oi ho e' he' hb' => hcl e.on oi ho (by omega) hX e' he' hb'
   exact ⟨h4.1, by omega⟩
end
def Dl.ws (x : Dl) : List Nat := x.t :: x.mv
theorem Fq {x : Dl} {u : Nat} : inF x.fr u = x.ws.contains u := by
 rw [Bool.eq_iff_iff];simp only [inF, Dl.fr, Dl.ws, List.any_cons, List.any_map, Bool.or_eq_true, beq_iff_eq, Oj, Function.comp, List.contains_eq_mem, decide_eq_true_eq, N6]
 constructor
 ·rintro (h | ⟨v, hv, rfl⟩)
  ·exact .inl h.symm
  ·exact .inr hv
 ·rintro (h | h)
  ·exact .inl h.symm
  ·exact .inr ⟨u, h, rfl⟩
def EN (b : List Nat) (M : List (Nat × Blk)) : List (Nat × Blk) := M.filter fun p => !b.contains p.1
theorem CT {b : List Nat} {id : Nat} {k : Blk} : ∀ {M : List (Nat × Blk)}, lookM (EN b M) id = some k → b.contains id = false ∧ lookM M id = some k
 | [], h => by cases h
 | (j, k0) :: M, h => by
  unfold EN at h;rw [List.filter_cons] at h
  by_cases hj : b.contains j = true
  ·simp only [hj, Bool.not_true, Bool.false_eq_true, if_false] at h
   obtain ⟨h1, h2⟩ := CT (M := M) h
   refine ⟨h1, ?_⟩;rw [lookM, if_neg (fun e => by subst e; rw [h1] at hj; cases hj)];exact h2
  ·have hj' : b.contains j = false := by simpa using hj
   simp only [hj', Bool.not_false, if_true] at h;rw [lookM] at h;split at h
   ·rename_i e; subst e; cases h; exact ⟨hj', by rw [lookM, if_pos rfl]⟩
   ·rename_i e
    obtain ⟨h1, h2⟩ := CT (M := M) h
    exact ⟨h1, by rw [lookM, if_neg e]; exact h2⟩
def disB (ops : Array Oper) (oi oj : Oper) (xi xj : Dl) (bi bj : List Nat) : Bool :=
 (xj.ws.all fun u => !(oi.looksAt ops).contains u && !xi.ws.contains u) && ((xi.ws.all fun u => !(oj.looksAt ops).contains u) &&
  ((xj.M.all fun p => bi.contains p.1 && !inF xi.M p.1) && (xi.M.all fun p => bj.contains p.1)))
def FZ (ops : Array Oper) (A : List Nat) (i j : Nat) (oi oj : Oper) (xi xj : Dl) (bi bj : List Nat) : Bool :=
 (rch A j i || disB ops oi oj xi xj bi bj) && ((rch A j i || (!xi.b || (JR xi.t xj.fr && clM xi.t xj.M))) && (!xj.b || (JR xj.t xi.fr && clM xj.t xi.M)))
def MQ (s : St) (x : Dl) : Bool := !x.b || (JR x.t s.fr && clM x.t s.M)
def Mq (ops : Array Oper) (l : List Oper) (s : St) (xs : List Dl) (bads : List (List Nat)) : Bool :=
 (xs.all (MQ s)) && ((List.range l.length).all fun i => (List.range l.length).all fun j => !Nat.blt i j || match l[i]?, l[j]?, xs[i]?, xs[j]? with
  | some oi, some oj, some xi, some xj => FZ ops (DL ops l.length) i j oi oj xi xj (bads.getD i []) (bads.getD j [])
  | _, _, _, _ => false)
section
variable {P : Program} {c : Ctx} {s : St} {Q : Exit → St → Prop} {ops : Array Oper} {rest : List Oper} {o : Oper}
def QH (P : Program) (c : Ctx) (ops : Array Oper) : List (List Nat) → List Oper → St → List Dl → (St → List Dl → Prop) → Prop
 | _, [], s, acc, Q => Q s acc
 | bs, o :: rest, s, acc, Q => ∃ x : Dl, (∀ s', AgreeG ops o s.fr (EN (bs.headD []) s.M) s' → (x.b = true → Cl x.t s') → StepTo P c ops o s' (x.on s')) ∧ QH P c ops bs.tail rest (x.on s) (acc ++ [x]) Q
theorem QH.steps : ∀ {l : List Oper} {bs : List (List Nat)} {s : St} {acc : List Dl} {Q : St → List Dl → Prop}, QH P c ops bs l s acc Q → ∃ xs : List Dl, xs.length = l.length ∧ Q (onL xs s) (acc ++ xs) ∧
  ∀ i o, l[i]? = some o → ∃ x, xs[i]? = some x ∧ ∀ s', AgreeG ops o (onL (xs.take i) s).fr (EN (bs.getD i []) (onL (xs.take i) s).M) s' → (x.b = true → Cl x.t s') → StepTo P c ops o s' (x.on s')
 | [], _, s, acc, Q, h => ⟨[], rfl, by rw [OI]; exact h, by simp⟩
 | o :: rest, bs, s, acc, Q, h => by
  obtain ⟨x, h2, h3⟩ := h
  obtain ⟨xs, q1, q2, q3⟩ := QH.steps h3
  refine ⟨x :: xs, by simp [q1], by simpa [onL] using q2, fun i o' hi => ?_⟩
  cases i with
  | zero =>
   simp at hi; subst hi
   refine ⟨x, rfl, ?_⟩
   have e : bs.getD 0 [] = bs.headD [] := by cases bs <;> rfl
   rw [e];exact h2
  | succ i =>
   obtain ⟨y, p1, p3⟩ := q3 i o' (by simpa using hi)
   refine ⟨y, by simpa using p1, ?_⟩
   have e : bs.getD (i + 1) [] = bs.tail.getD i [] := by cases bs <;> simp
   rw [e]
   simpa [onL] using p3
theorem Bg {l : List Oper} {xs : List Dl} {bads : List (List Nat)} (h : Mq ops l s xs bads = true) {i j : Nat} {oi oj : Oper} {xi xj : Dl} (hij : i < j) (h1 : l[i]? = some oi) (h2 : l[j]? = some oj) (h3 : xs[i]? = some xi) (h4 : xs[j]? = some xj) :
  FZ ops (DL ops l.length) i j oi oj xi xj (bads.getD i []) (bads.getD j []) = true := by
 unfold Mq at h;rw [Nv, N1 (l := List.range l.length)] at h
 have hi := (List.getElem?_eq_some_iff.1 h1).1
 have hj := (List.getElem?_eq_some_iff.1 h2).1
 have := h.2 i (OZ.2 hi)
 rw [N1] at this
 have := this j (OZ.2 hj)
 rw [h1, h2, h3, h4] at this
 have hb : Nat.blt i j = true := by simpa using hij
 simpa [hb] using this
theorem Hj {l : List Oper} {xs : List Dl} {bads : List (List Nat)} (h : Mq ops l s xs bads = true) {i : Nat} {x : Dl} (h3 : xs[i]? = some x) : MQ s x = true := by
 unfold Mq at h;rw [Nv, N1] at h;exact h.1 x (List.mem_of_getElem? h3)
theorem WR_H {ops : Array Oper} (bads : List (List Nat)) (hB : Bw ops ops.size = true)
  (h : QH P c ops bads ops.toList s [] (fun s' xs => Mq ops ops.toList s xs bads = true ∧ WO P c ops [] s' Q)) : WR P c ops s Q := by
 obtain ⟨xs, hlen, ⟨hchk, hend⟩, hstep⟩ := h.steps
 simp only [OY] at hchk
 have hsz : ops.toList.length = ops.size := OD
 have hops : ∀ j : Nat, ops.toList[j]? = ops[j]? := fun j => by simp
 refine WR_S (l1 := ops.toList) (l2 := []) (by simp) (by rw [hsz]; exact hB) (.inl rfl) (fun X => mrg xs X s ops.toList.length) (fun X hX => ?_) (fun X i o ho hXi hcl hdep => ?_) (fun X hX => ?_)
 ·rw [Bb (i := 0) (OU _) fun j _ => hX j]
  exact Le.refl
 ·have hil : i < ops.toList.length := (List.getElem?_eq_some_iff.1 ho).1
  obtain ⟨x, hx, hst⟩ := hstep i o ho
  have hoi : ops[i]? = some o := by rw [← hops]; exact ho
  have hlt : ∀ k ok, ops[k]? = some ok → ∀ e, e ∈ ok.after → Region.binds .any e = true → e.on < k := fun k ok hk => Cf hB hk
  have hcl' : ∀ j oj, ops[j]? = some oj → j < ops.toList.length → X j = true → ∀ e, e ∈ oj.after → Region.binds .any e = true → X e.on = true := fun j oj hj _ hXj => hcl j oj (by rw [hops]; exact hj) hXj
  -- what is done, and what is not
  have after : ∀ j, rch (DL ops ops.toList.length) i j = true → X j = true := fun j hr => (EU hlt (by omega) hcl' i hil j hr fun oi h' => by rw [hoi] at h'; cases h'; exact hdep).1
  have before : ∀ j, j < ops.toList.length → rch (DL ops ops.toList.length) j i = true → X j = false := fun j hj hr => by
   cases hXj : X j with
   | false => rfl
   | true =>
    have := (EU hlt (by omega) hcl' j hj i hr fun oj h' e he hb => hcl' j oj h' hj hXj e he hb).1
    rw [hXi] at this; cases this
  have hxat : ∀ {j : Nat}, j < ops.toList.length → ∃ oj y, ops.toList[j]? = some oj ∧ xs[j]? = some y := fun {j} hj => by
   have hlj : ops.toList[j]? = some ops.toList[j] := List.getElem?_eq_getElem hj
   obtain ⟨y, hy, _⟩ := hstep j _ hlj
   exact ⟨_, y, hlj, hy⟩
  have apart : ∀ {j : Nat} {y : Dl}, j < ops.toList.length → j ≠ i → xs[j]? = some y → X j ≠ decide (j < i) →
    (∀ u, y.ws.contains u = true → (o.looksAt ops).contains u = false ∧ x.ws.contains u = false) ∧ (∀ p, p ∈ y.M → (bads.getD i []).contains p.1 = true) ∧ (∀ p, p ∈ y.M → inF x.M p.1 = false) := fun {j y} hj hji hy hne => by
   obtain ⟨oj, y', hlj, hy'⟩ := hxat hj
   rw [hy] at hy'; cases hy'
   rcases Nat.lt_or_gt_of_ne hji with h' | h'
   ·have hp := Bg hchk h' hlj ho hy hx
    have hnr : rch (DL ops ops.toList.length) i j = false := by
     cases hr : rch (DL ops ops.toList.length) i j with
     | false => rfl
     | true => exact absurd (by rw [after j hr]; simp [h']) hne
    unfold FZ at hp;rw [hnr, Oi, Nv] at hp
    have hd := hp.1
    unfold disB at hd;simp only [Nv, N1, ON] at hd
    obtain ⟨d1, d2, d3, d4⟩ := hd
    refine ⟨fun u hu => ⟨d2 u (by simpa using hu), ?_⟩, fun p hp => d4 p hp, fun p hp => ?_⟩
    ·cases hxu : x.ws.contains u with
     | false => rfl
     | true =>
      have := (d1 u (by simpa using hxu)).2
      rw [hu] at this; cases this
    ·cases hin : inF x.M p.1 with
     | false => rfl
     | true =>
      unfold inF at hin;rw [Oj] at hin
      obtain ⟨q, hq1, hq2⟩ := hin
      have := (d3 q hq1).2
      have hin2 : inF y.M q.1 = true := by
       unfold inF;rw [Oj];exact ⟨p, hp, by rw [beq_iff_eq] at hq2 ⊢; exact hq2.symm⟩
      rw [hin2] at this; cases this
   ·have hp := Bg hchk h' ho hlj hx hy
    have hnr : rch (DL ops ops.toList.length) j i = false := by
     cases hr : rch (DL ops ops.toList.length) j i with
     | false => rfl
     | true => exact absurd (by rw [before j hj hr]; simp; omega) hne
    unfold FZ at hp;rw [hnr, Oi, Nv] at hp
    have hd := hp.1
    unfold disB at hd;simp only [Nv, N1, ON] at hd
    obtain ⟨d1, d2, d3, d4⟩ := hd
    exact ⟨fun u hu => d1 u (by simpa using hu), fun p hp => (d3 p hp).1, fun p hp => (d3 p hp).2⟩
  have hag : AgreeG ops o (onL (xs.take i) s).fr (EN (bads.getD i []) (onL (xs.take i) s).M) (mrg xs X s ops.toList.length) := by
   refine ⟨fun id k hk => ?_, fun u hu => ?_⟩
   ·obtain ⟨hb, hk⟩ := CT hk
    rw [← CS (X := fun j => decide (j < i)) (by omega) (fun j hj => by simpa using hj), ← Bb (X := fun j => decide (j < i)) (i := i) (n := ops.toList.length) (by omega) (fun j hj => by simpa using hj)] at hk;rw [← hk]
    refine H5 fun j y hj hy hin => ?_
    by_cases hje : j = i
    ·subst hje; rw [hXi]; simp
    ·refine Classical.byContradiction fun hne => ?_
     have hap := (apart hj hje hy hne).2.1
     unfold inF at hin;rw [Oj] at hin
     obtain ⟨p, hp1, hp2⟩ := hin
     have := hap p hp1
     rw [show p.1 = id from by simpa using hp2, hb] at this;cases this
   ·rw [← CS (X := fun j => decide (j < i)) (by omega) (fun j hj => by simpa using hj), ← Bb (X := fun j => decide (j < i)) (i := i) (n := ops.toList.length) (by omega) (fun j hj => by simpa using hj)]
    refine Es fun j y hj hy hin => ?_
    by_cases hje : j = i
    ·subst hje; rw [hXi]; simp
    ·refine Classical.byContradiction fun hne => ?_
     have hap := ((apart hj hje hy hne).1 u (by rw [← Fq]; exact hin)).1
     rw [List.contains_eq_mem, decide_eq_false_iff_not] at hap;exact hap hu
  have hcl2 : x.b = true → Cl x.t (mrg xs X s ops.toList.length) := fun hb => by
   refine Cl.mrg ?_ fun j y hj hXj hy => ?_
   ·have := Hj hchk hx
    unfold MQ at this;rw [hb] at this;simp only [Bool.not_true, Oi, Nv] at this;exact ⟨B1 this.1, (BX this.2).1, (BX this.2).2⟩
   ·have hji : j ≠ i := fun e => by subst e; rw [hXi] at hXj; cases hXj
    obtain ⟨oj, y', hlj, hy'⟩ := hxat hj
    rw [hy] at hy'; cases hy'
    rcases Nat.lt_or_gt_of_ne hji with h' | h'
    ·have hp := Bg hchk h' hlj ho hy hx
     unfold FZ at hp;rw [hb] at hp;simp only [Bool.not_true, Oi, Nv] at hp;exact hp.2.2
    ·have hp := Bg hchk h' ho hlj hx hy
     have hnr : rch (DL ops ops.toList.length) j i = false := by
      cases hr : rch (DL ops ops.toList.length) j i with
      | false => rfl
      | true => rw [before j hj hr] at hXj; cases hXj
     unfold FZ at hp;rw [hb, hnr] at hp;simp only [Bool.not_true, Oi, Nv] at hp;exact hp.2.1
  have later : ∀ {j : Nat} {y : Dl}, j < ops.toList.length → i < j → X j = true → xs[j]? = some y → (∀ u, y.ws.contains u = true → x.ws.contains u = false) ∧ ∀ p, p ∈ y.M → inF x.M p.1 = false := fun {j y} hj hij hXj hy => by
   have hap := apart hj (by omega) hy (by rw [hXj]; simp; omega)
   exact ⟨fun u hu => (hap.1 u hu).2, hap.2.2⟩
  intro Q' hQ;refine hst _ hag hcl2 Q' (AI (Le.of (fun u => .inl ?_) (fun u => .inl ?_)) hQ)
  ·simp only [Dl.on, look_app]
   split
   ·rename_i hu
    refine Ct hx hXi hu hil fun j y hj hij hXj hy => ?_
    cases hin : inF y.fr u with
    | false => rfl
    | true =>
     have := (later hj hij hXj hy).1 u (by rw [← Fq]; exact hin)
     rw [← Fq, hu] at this; cases this
   ·rename_i hu
    refine Es fun j y hj hy hin => ?_
    have : (j == i) = false := by
     rw [beq_eq_false_iff_ne];intro e; subst e; rw [hx] at hy; cases hy; exact hu hin
    rw [this, Ob]
  ·simp only [Dl.on, lookM_app]
   split
   ·rename_i hu
    refine DZ hx hXi hu hil fun j y hj hij hXj hy => ?_
    cases hin : inF y.M u with
    | false => rfl
    | true =>
     unfold inF at hin;rw [Oj] at hin
     obtain ⟨p, hp1, hp2⟩ := hin
     have := (later hj hij hXj hy).2 p hp1
     rw [show p.1 = u from by simpa using hp2, hu] at this;cases this
   ·rename_i hu
    refine H5 fun j y hj hy hin => ?_
    have : (j == i) = false := by
     rw [beq_eq_false_iff_ne];intro e; subst e; rw [hx] at hy; cases hy; exact hu hin
    rw [this, Ob]
 ·rw [CS (by omega) hX, Nw (by omega)]
  exact hend
/-! ### The words for it -/
theorem Di {id : Nat} {ops : Array Oper} (bads : List (List Nat)) (hm : P.follows .mixedOrders = true) (hB : Bw ops ops.size = true)
  (h : QH P c ops bads ops.toList s [] (fun s' xs => Mq ops ops.toList s xs bads = true ∧ WO P c ops [] s' Q)) : W P c (.region id ops true) s Q :=
 Ic hm (WR_H bads hB h)
theorem C7 {Q : St → List Dl → Prop} {acc : List Dl} {bs : List (List Nat)} (h : Q s acc) : QH P c ops bs [] s acc Q := h
theorem LA (M : List (Nat × Blk)) : EN [] M = M := by
 unfold EN
 exact List.filter_eq_self.2 fun p _ => by simp
theorem Ab {Q : St → List Dl → Prop} {acc : List Dl} {bs : List (List Nat)} (h : QG P c ops s.M [o] s acc (fun s' acc' => QH P c ops bs rest s' acc' Q)) : QH P c ops ([] :: bs) (o :: rest) s acc Q := by
 obtain ⟨x, h1, h2, h3⟩ := h
 refine ⟨x, ?_, h3⟩;rw [List.headD_cons, LA];exact h2
theorem CL {Q : St → List Dl → Prop} {acc : List Dl} {b : List Nat} {bs : List (List Nat)} (h : QG P c ops (EN b s.M) [o] s acc (fun s' acc' => QH P c ops bs rest s' acc' Q)) : QH P c ops (b :: bs) (o :: rest) s acc Q := by
 obtain ⟨x, h1, h2, h3⟩ := h
 exact ⟨x, h2, h3⟩
theorem Aj {Q : St → List Dl → Prop} {acc : List Dl} {bs : List (List Nat)} {l : List Oper} {s' : St} (h : B6 s = some s') (k : QH P c ops bs l s' acc Q) : QH P c ops bs l s acc Q := by rw [CH h]; exact k
end
end Go.Eng
end
section
/- Rules for what is reached by places: checks for none, cells that are moved out, copies into slices, writes and calls in statements of open order. -/
namespace Go.Eng
open Go.RowKit
def NE : D → Bool
 | .ref _ _ _ => true
 | .rp _ _ => true
 | .t (.v (.pointer (some _))) => true
 | _ => false
section
variable {P : Program} {c : Ctx} {s : St} {Q : Exit → St → Prop} {ops : Array Oper} {rest : List Oper} {o : Oper}
theorem CA {t : Nat} {d : D} {x : Operand} (hg : o.guard = none) (hd : o.dst = some t) (ht : t < c.n) (ho : o.op = .nilCheck x) (hx : opd s.fr x = d) (hk : NE d = true)
  (k : WO P c ops rest ⟨(t, d) :: s.fr, s.M⟩ Q) : WO P c ops (o :: rest) s Q := by
 subst hx;refine BC hg hd ht _ (fun a w F β fb mb ow hi => ?_) k
 obtain ⟨bs, hr, _⟩ := hi.opd x
 generalize opd s.fr x = d at hr hk;generalize hev : a.eval x = xv at hr
 have hrun : ∀ p, xv = .pointer (some p) → (execOp a.eval o).run P w = .ok (.value xv) w := by
  rintro p rfl
  simp [execOp, ho, hev]
 unfold NE at hk;split at hk
 ·cases hr with | ref h1 h2 => cases h2; exact ⟨_, hrun _ rfl, .ref h1 .done⟩
 ·cases hr with | rp h1 h2 h3 h4 h5 => cases h5; exact ⟨_, hrun _ rfl, .rp h1 h2 h3 h4 .done⟩
 ·have := Am hr
  subst this;exact ⟨_, hrun _ rfl, .t (.v rfl .nil) .done⟩
 ·cases hk
theorem DK {M0 : List (Nat × Blk)} {acc : List Dl} {Q : St → List Dl → Prop} {t : Nat} {d : D} {x : Operand} (hg : o.guard = none) (hd : o.dst = some t) (ht : t < c.n) (ho : o.op = .nilCheck x) (hx : opd s.fr x = d) (hk : NE d = true)
  (k : QG P c ops M0 rest ⟨(t, d) :: s.fr, s.M⟩ (acc ++ [pl t d]) Q) : QG P c ops M0 (o :: rest) s acc Q :=
 ⟨pl t d, hd, fun s' ha _ Q h => CA hg hd ht ho (by rw [ha.opd (by rw [ho]; simp [Op.operands])]; exact hx) hk h, k⟩
theorem La {M0 : List (Nat × Blk)} {acc : List Dl} {Q : St → List Dl → Prop} {Γ : Tys} (hΓ : Γ.ok P) {ty e t n id off len : Nat} {x : Operand} {lo hi' : Option Operand} {ti te : TI} {xs : List T} {i j : Int} (hg : o.guard = none) (hd : o.dst = some t) (ht : t < c.n) (ho : o.op = .slice ty x lo hi' none)
  (h1 : A7 Γ ty = some ti) (h2 : ti.kind = .slice e) (h3 : A7 Γ e = some te) (h4 : te.size = n) (hx : opd s.fr x = .sl id off len) (hM : lookM M0 id = some (.L n xs)) (hlo : Ht s.fr lo 0 = some i) (hhi : Ht s.fr hi' len = some j)
  (h5 : 0 ≤ i) (h6 : i ≤ j) (h7 : j ≤ len)
  (k : QG P c ops M0 rest ⟨(t, .sl id (off + i.toNat) (j.toNat - i.toNat)) :: s.fr, s.M⟩ (acc ++ [pl t (.sl id (off + i.toNat) (j.toNat - i.toNat))]) Q) : QG P c ops M0 (o :: rest) s acc Q :=
 ⟨pl t _, hd, fun s' ha _ Q h => by
  have hO : ∀ (z : Option Operand) (d : Int), (∀ y, z = some y → y ∈ o.op.operands) → Ht s'.fr z d = Ht s.fr z d := fun z d hz => by
   cases z with
   | none => rfl
   | some y => simp only [Ht]; rw [ha.opd (hz y rfl)]
  exact LP hΓ hg hd ht ho h1 h2 h3 h4 (by rw [ha.opd (by rw [ho]; simp [Op.operands])]; exact hx) (ha.1 _ _ hM) (by rw [hO lo 0 (fun y hy => by subst hy; rw [ho]; simp [Op.operands])]; exact hlo)
   (by rw [hO hi' len (fun y hy => by subst hy; rw [ho]; simp [Op.operands])]; exact hhi) h5 h6 h7 h, k⟩
theorem C2 {Q : St → List Dl → Prop} {acc : List Dl} {b : List Nat} {bs : List (List Nat)} {Γ : Tys} (hΓ : Γ.ok P) {ty id off : Nat} {x y : Operand} {ti : TI} {cells ds : List D} (gt : Nat) (hg : o.guard = none) (hd : o.dst = none) (ho : o.op = .store ty x y) (h1 : A7 Γ ty = some ti)
  (hx : opd s.fr x = .ref id 0 off) (hM : lookM (EN b s.M) id = some (.box cells)) (hy : boxD (opd s.fr y) = some ds) (hf : (opd s.fr y).free = true) (hl : ds.length = ti.size) (hle : off + ds.length ≤ cells.length)
  (k : QH P c ops bs rest ⟨(gt, .top) :: s.fr, (id, .box (splice cells off ds)) :: s.M⟩ (acc ++ [⟨gt, .top, [], [(id, .box (splice cells off ds))], false⟩]) Q) : QH P c ops (b :: bs) (o :: rest) s acc Q :=
 ⟨⟨gt, .top, [], [(id, .box (splice cells off ds))], false⟩, fun s' ha _ Q h => by
  have e : opd s'.fr y = opd s.fr y := ha.opd (by rw [ho]; simp [Op.operands])
  refine JX hΓ hg hd ho h1 (by rw [ha.opd (by rw [ho]; simp [Op.operands])]; exact hx) (ha.1 _ _ hM) (by rw [e]; exact hy) hl hle ?_
  have e2 : eat y (opd s.fr y) s'.fr = s'.fr := by unfold eat; rw [if_pos hf]
  rw [e, e2]
  have hle : Le c ⟨s'.fr, (id, .box (splice cells off ds)) :: s'.M⟩ ⟨(gt, .top) :: s'.fr, (id, .box (splice cells off ds)) :: s'.M⟩ := Le.of (fun u => by
   show (if gt = u then D.top else look s'.fr u) = look s'.fr u ∨ (if gt = u then D.top else look s'.fr u) = D.top;split
   ·exact .inr rfl
   ·exact .inl rfl) (fun u => .inl rfl)
  exact AI hle h, k⟩
end
end Go.Eng
end
section
/- Copies of plain values into a slice of the function's own. -/
namespace Go.Eng
open Go.RowKit
theorem HJ {w : World} : ∀ {vs : List Value} {us : List Value} {bs : List Nat}, OwnL w vs (us.map T.v) bs → vs = us ∧ bs = [] ∧ ∀ v, v ∈ vs → v.oneCell' = true
 | [], [], _, h => by cases h; exact ⟨rfl, rfl, by simp⟩
 | [], _ :: _, _, h => by cases h
 | _ :: _, [], _, h => by cases h
 | v :: vs, u :: us, _, h => by
  cases h with
  | v h1 h2 =>
   obtain ⟨e, e2, h3⟩ := HJ h2
   subst e
   exact ⟨rfl, e2, fun x hx => by
    rcases N6.1 hx with rfl | hx
    ·exact h1
    ·exact h3 x hx⟩
theorem Ce {w : World} : ∀ {us : List Value}, (∀ v, v ∈ us → v.oneCell' = true) → OwnL w us (us.map T.v) []
 | [], _ => .nil
 | u :: us, h => .v (h u (by simp)) (Ce fun v hv => h v (by simp [hv]))
section
variable {P : Program} {c : Ctx} {s : St} {Q : Exit → St → Prop} {ops : Array Oper} {rest : List Oper} {o : Oper}
end
end Go.Eng
end
section
/- Slices whose place is told: they are cut, appended to where there is room, and cleared. -/
namespace Go.Eng
open Go.RowKit
section
variable {P : Program} {c : Ctx} {s : St} {Q : Exit → St → Prop} {ops : Array Oper} {rest : List Oper} {o : Oper}
def noR (ids : List Nat) (ys : List (Nat ⊕ Nat)) : Bool := ids.all fun i => ys.all fun y => match y with | .inr j => i != j | _ => true
theorem L2 {ids : List Nat} {ys : List (Nat ⊕ Nat)} (h : noR ids ys = true) : ∀ id, id ∈ ids → Sum.inr id ∉ ys := by
 intro id hid hy;unfold noR at h;rw [N1] at h
 have := h id hid
 rw [N1] at this
 have := this _ hy
 simp at this
end
end Go.Eng
end
section
/- Lists of which some cells are told and others owned: they are put together; slices that are told are named. -/
namespace Go.Eng
open Go.RowKit
inductive Mix : List Value → List T → List T → List T → Prop
 | nil : Mix [] [] [] []
 | keep {v t y vs ts ys xs} : Mix vs ts ys xs → Mix (v :: vs) (t :: ts) (y :: ys) (y :: xs)
 | claim {v t vs ts ys xs} : Mix vs ts ys xs → Mix (v :: vs) (t :: ts) (.v v :: ys) (t :: xs)
section
variable {P : Program} {c : Ctx} {s : St} {Q : Exit → St → Prop} {ops : Array Oper} {rest : List Oper} {o : Oper}
end
end Go.Eng
end
section
/- Variables made, and lent as they are, in statements of open order. -/
namespace Go.Eng
open Go.RowKit
section
variable {P : Program} {c : Ctx} {s : St} {ops : Array Oper} {rest : List Oper} {o : Oper}
theorem ResP.pin0 {s : St} {ids : List Nat} {id off b n cc : Nat} {ds es : List D} (pid : Nat) (h : lookM s.M pid = some (.pin id b n cc)) (k : ResP s ids ds es) : ResP s ids (.ref id 0 off :: ds) (.t (.v (.pointer (some ⟨b, off, none⟩))) :: es) := by
 have := ResP.pin (i := 0) (off := off) pid h k
 rwa [Nat.zero_mul, Nat.zero_add] at this
end
end Go.Eng
end
