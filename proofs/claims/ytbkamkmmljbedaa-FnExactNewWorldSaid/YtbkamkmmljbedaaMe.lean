import Derived.Test.YtbkamkmmljbedaaMd
set_option linter.unusedVariables false
set_option linter.unusedSimpArgs false
section
/- What is known of values, put in order; memory that is not there. -/
namespace Go.Eng
open Go.RowKit
section
variable {P : Program} {c : Ctx} {s : St} {Q : Exit → St → Prop} {ops : Array Oper} {rest : List Oper} {o : Oper}
end
end Go.Eng
end
section
/- Structs whose fields are structs, put together out of their parts. -/
namespace Go.Eng
open Go.RowKit
section
variable {P : Program} {c : Ctx} {s : St} {Q : Exit → St → Prop} {ops : Array Oper} {rest : List Oper} {o : Oper}
end
section
variable {P : Program} {c : Ctx} {s : St} {M0 : List (Nat × Blk)} {acc : List Dl} {Q : St → List Dl → Prop} {ops : Array Oper} {rest : List Oper} {o : Oper}
end
end Go.Eng
end
section
/- Slices made of so many, copied into, named: of whole numbers. -/
namespace Go.Eng
open Go.RowKit
section
variable {P : Program} {c : Ctx} {s : St} {Q : Exit → St → Prop} {ops : Array Oper} {rest : List Oper} {o : Oper}
theorem Le.eqK {id : Nat} {k k' : Blk} (h1 : lookM s.M id = some k) (h : k = k') : Le c s ⟨s.fr, (id, k') :: s.M⟩ := by
 subst h
 refine Le.of (fun t => .inl rfl) (fun i => .inl ?_)
 simp only [lookM]
 split
 ·rename_i e; subst e; exact h1.symm
 ·rfl
end
section
variable {P : Program} {c : Ctx} {s : St} {M0 : List (Nat × Blk)} {acc : List Dl} {Q : St → List Dl → Prop} {ops : Array Oper} {rest : List Oper} {o : Oper}
end
end Go.Eng
end
section
/- Statements of open order that make ready what they lend, once it is read. -/
namespace Go.Eng
open Go.RowKit
section
variable {P : Program} {c : Ctx} {s : St} {ops : Array Oper} {rest : List Oper} {o : Oper}
end
section
variable {P : Program} {c : Ctx} {s : St} {Q : Exit → St → Prop} {ops : Array Oper} {rest : List Oper} {o : Oper}
end
end Go.Eng
end
section
/- One cell of a list is laid open: the list that it owns gets a name. -/
namespace Go.Eng
open Go.RowKit
section
variable {P : Program} {c : Ctx} {s : St} {Q : Exit → St → Prop} {ops : Array Oper} {rest : List Oper} {o : Oper}
end
end Go.Eng
end
section
/- A copy within one list of plain values of the function's own. -/
namespace Go.Eng
open Go.RowKit
section
variable {P : Program} {c : Ctx} {s : St} {Q : Exit → St → Prop} {ops : Array Oper} {rest : List Oper} {o : Oper}
end
end Go.Eng
end
section
/- A region that only reads, run as if all memory were only read: what it answers of values is kept in a new variable, all else is as before. -/
namespace Go.Eng
open Go.RowKit
section
variable {P : Program} {c : Ctx} {s : St} {Q : Exit → St → Prop} {ops : Array Oper}
def ViewL (c : Ctx) (s : St) (ds es : List D) : Prop := ∀ {a : Act} {w : World} {F : Nat → Prop} {β : Place} {fb mb : Nat → List Nat} {ow : Nat → Option (Nat ⊕ Nat)}, Conc c s a w F β fb mb ow → ∀ {vs : List Value} {bs : List Nat}, RelD w F β vs ds bs → (∀ b, b ∈ bs → b < w.heap.size) →
 RelD w (fun b => b < w.heap.size) (fun _ => none) vs es []
end
end Go.Eng
end
section
/- An element's inner list, taken out of a list: the list keeps its header, told; what it leads to stands apart. -/
namespace Go.Eng
open Go.RowKit
section
variable {P : Program} {c : Ctx} {s : St} {Q : Exit → St → Prop} {ops : Array Oper} {rest : List Oper} {o : Oper}
theorem W_takeL {code : Code} {id n m i off : Nat} {xs ys : List T} {z : T} (idq : Nat) (hM : lookM s.M id = some (.L n xs)) (hz : xs[i]? = some z) (hc : z.cells[off]? = some (.list m ys)) (h2 : lookM s.M idq = none) (hne' : (id == idq) = false)
  (k : ∀ (ad : Option Addr) (cap : Nat), W P c code ⟨s.fr, (id, .L n (xs.set i (.agg (z.cells.set off (.v (.slice ad ys.length cap)))))) :: (idq, .rawV [.slice ad ys.length cap] [.list m ys]) :: s.M⟩ Q) : W P c code s Q := by
 have hne : ¬ id = idq := by simpa using hne'
 rintro a w ⟨F, β, fb, mb, ow, hi⟩
 have hmm := hi.mem id
 rw [hM] at hmm
 have hm2 := hi.mem idq
 rw [h2] at hm2
 have hil := (List.getElem?_eq_some_iff.1 hz).1
 rcases hmm with ⟨r1, r2, r3⟩ | ⟨b0, cap0, arr, e', bs', r1, r3, r4, r5, r6, r7, r8, r9⟩
 ·subst r2; simp at hil
 have hzl := r5 z (List.mem_of_getElem? hz)
 have hoff := (List.getElem?_eq_some_iff.1 hc).1
 have hat : (xs.flatMap T.cells)[i * n + off]? = some (.list m ys) := by
  rw [flat_atc r5 hz (by omega)]; exact hc
 obtain ⟨u, hu, huone⟩ := r8.get? hat
 obtain ⟨c1, c2, c3, e1, g1, g2⟩ := OwnL.at (i * n + off) r8 hu hat
 obtain ⟨ad, cap, rfl⟩ : ∃ ad cap, u = .slice ad ys.length cap := by
  cases g1 with
  | none h => exact ⟨_, _, rfl⟩
  | list _ _ _ _ _ _ _ _ => exact ⟨_, _, rfl⟩
 have hnew := g2 w (.v (.slice ad ys.length cap)) [] (fun _ _ => rfl) (.v rfl .nil)
 have hset : (xs.flatMap T.cells).set (i * n + off) (.v (.slice ad ys.length cap)) = (xs.set i (.agg (z.cells.set off (.v (.slice ad ys.length cap))))).flatMap T.cells := flat_setc r5 hz (by omega) rfl
 rw [hset] at hnew
 have hnd := hi.nmem id
 rw [r9, e1] at hnd
 refine k ad cap a w (hi.re2 hne (mp := b0 :: (c1 ++ [] ++ c3)) (mq := c2) (fun i h1 h3 => .inl (by
  simp only [lookM]; rw [if_neg (fun e => h1 e.symm), if_neg (fun e => h3 e.symm)])) ?_ ?_ (fun x h => ?_) (fun x h => ?_) ?_ ?_ ?_)
 ·simp only [lookM, if_true]
  refine .inr ⟨b0, cap0, arr, e', c1 ++ [] ++ c3, r1, r3, r4, fun x hx => ?_, by simpa using r6, r7, by rw [List.length_set]; exact hnew, rfl⟩
  rcases List.mem_or_eq_of_mem_set hx with hx | rfl
  ·exact r5 x hx
  ·show (z.cells.set off _).length = n
   rw [List.length_set]; exact hzl
 ·simp only [lookM, if_neg hne, if_true]; exact g1
 ·refine .inl ?_
  rw [r9, e1]
  simp at h ⊢
  rcases h with h | h | h
  ·exact .inl h
  ·exact .inr (.inl h)
  ·exact .inr (.inr (.inr h))
 ·exact .inl (by rw [r9, e1]; simp [h])
 ·obtain ⟨n1, n2⟩ := List.nodup_cons.1 hnd
  obtain ⟨n3, n4, n5⟩ := List.nodup_append.1 n2
  obtain ⟨n6, n7, n8⟩ := List.nodup_append.1 n3
  refine List.nodup_cons.2 ⟨fun h => n1 ?_, ?_⟩
  ·simp at h ⊢
   rcases h with h | h
   ·exact .inl h
   ·exact .inr (.inr h)
  ·rw [List.append_nil]
   exact List.nodup_append.2 ⟨n6, n4, fun x hx y hy e => n5 x (by simp [hx]) y hy e⟩
 ·exact (List.nodup_append.1 (List.nodup_append.1 (List.nodup_cons.1 hnd).2).1).2.1
 ·intro x hx hy
  obtain ⟨n1, n2⟩ := List.nodup_cons.1 hnd
  obtain ⟨n3, n4, n5⟩ := List.nodup_append.1 n2
  obtain ⟨n6, n7, n8⟩ := List.nodup_append.1 n3
  simp at hx
  rcases hx with rfl | hx | hx
  ·exact n1 (by simp [hy])
  ·exact n8 x hx x hy rfl
  ·exact n5 x (by simp [hy]) x hx rfl
theorem W_WO {code : Code} (h : WO P c #[] [] s (fun _ s' => W P c code s' Q)) : W P c code s Q := fun a w hi => by
 obtain ⟨s', h1, h2⟩ := h a w hi
 exact h2 a w h1
theorem Le.freezeB {u : Nat} {cells : List D} {ts : List T} (hM : lookM s.M u = some (.box cells)) (h : frzL cells = some ts) : Le c s ⟨s.fr, (u, .box (ts.map D.t)) :: s.M⟩ := by
 classical
 rintro a w ⟨F, β, fb, mb, ow, hi⟩
 have hm := hi.mem u
 rw [hM] at hm
 obtain ⟨b, arr, e, bs, h1, h2, h3, h4, h5⟩ := hm
 have hnd := hi.nmem u
 rw [h5] at hnd
 obtain ⟨n1, n2⟩ := List.nodup_cons.1 hnd
 have hrel := frzL_rel h3 h h4
 have hlen : (ts.map D.t).length = cells.length := by rw [List.length_map, ← hrel.length, h3.length]
 have hbs : ∀ b', b' ∈ bs → ow b' = some (.inr u) := fun b' hb => hi.omem u b' (by rw [h5]; simp [hb])
 refine ⟨fun b' => F b' ∨ b' ∈ bs, β, fb, fun i => if u = i then [b] else mb i, fun b' => if b' ∈ bs then none else ow b', ?_⟩
 exact { hi with
  fr := fun v => (hi.fr v).mono (w := w) (w' := w) (fun _ h => .inl h) (fun _ _ => rfl) (fun _ _ => rfl) fun _ => rfl
  mem := fun id => by
   simp only [lookM]
   by_cases hid : u = id
   ·subst hid
    rw [if_pos rfl, if_pos rfl]
    refine ⟨b, arr, e, [], by rw [hlen]; exact h1, h2, ?_, h4, rfl⟩
    have key : ∀ {vs : List Value} {ts : List T}, RelL w (fun b' => F b' ∨ b' ∈ bs) vs ts → vs.all (·.oneCell') = true → RelD w (fun b' => F b' ∨ b' ∈ bs) β vs (ts.map D.t) [] := by
     intro vs
     induction vs with
     | nil => intro ts h _; cases ts with | nil => exact .done | cons _ _ => cases h
     | cons v vs ih =>
      intro ts h ho
      cases ts with
      | nil => cases h
      | cons t ts =>
       obtain ⟨g1, g2⟩ := h.cons
       rw [List.all_cons, Bool.and_eq_true] at ho
       exact .t g1 (ih g2 ho.2)
    exact key hrel h4
   ·rw [if_neg hid, if_neg hid]
    have := hi.mem id
    cases hM' : lookM s.M id with
    | none => rw [hM'] at this; exact this
    | some k => rw [hM'] at this; exact relB_wider this (fun _ h => .inl h)
  ofr := fun v b' hb => by
   have h6 := hi.ofr v b' hb
   rw [if_neg (fun h => by rw [hbs b' h] at h6; cases h6)]
   exact h6
  omem := fun id b' hb => by
   by_cases hid : u = id
   ·subst hid
    rw [if_pos rfl, List.mem_singleton] at hb
    subst hb
    rw [if_neg n1]
    exact hi.omem u b' (by rw [h5]; simp)
   ·rw [if_neg hid] at hb
    have h6 := hi.omem id b' hb
    rw [if_neg (fun h => by rw [hbs b' h] at h6; cases h6; exact hid rfl)]
    exact h6
  nmem := fun id => by
   by_cases hid : u = id
   ·rw [if_pos hid]; simp
   ·rw [if_neg hid]; exact hi.nmem id
  own := fun b' hb => by
   split at hb
   ·exact absurd rfl hb
   ·rename_i hn
    obtain ⟨q1, q2, q3⟩ := hi.own b' hb
    exact ⟨fun h => h.elim q1 hn, q2, q3⟩
  fin := fun b' hb => hb.elim (hi.fin b') fun h => (hi.own b' (by rw [hbs b' h]; simp)).2.1
  f0 := fun b' hb => .inl (hi.f0 b' hb)
  fnew := fun b' hb => hb.elim (hi.fnew b') fun h => .inr (hi.own b' (by rw [hbs b' h]; simp)).2.2 }
theorem relL_drop {w : World} {F : Nat → Prop} : ∀ {vs : List Value} {ts : List T} (k : Nat), RelL w F vs ts → RelL w F (vs.drop k) (ts.drop k)
 | [], [], k, h => by rw [List.drop_nil, List.drop_nil]; exact .nil
 | [], _ :: _, _, h => by cases h
 | _ :: _, [], _, h => by cases h
 | _ :: _, _ :: _, 0, h => h
 | _ :: _, _ :: _, k + 1, h => relL_drop k h.cons.2
end
end Go.Eng
end
section
/- Calls of readers on own memory; what is told, read by what is known of it. -/
namespace Go.Eng
open Go.RowKit
section
variable {P : Program} {c : Ctx} {s : St} {Q : Exit → St → Prop} {ops : Array Oper} {rest : List Oper} {o : Oper} {M0 : List (Nat × Blk)} {acc : List Dl}
theorem WO_callV {t : Nat} {fo : Operand} {args : Array Operand} {tys : Array TypeId} {f : FuncId} {caps es : List D} {r : D} (hg : o.guard = none) (hd : o.dst = some t) (ht : t < c.n)
  (ho : o.op = .call { callee := .value fo, args := args, argTypes := tys }) (hf : opd s.fr fo = .clo f caps) (hes : ViewL c s (args.toList.map (opd s.fr) ++ caps) es) (hc : Fun P f es r) (hn : r.noImm = true)
  (k : WO P c ops rest ⟨(t, r) :: s.fr, s.M⟩ Q) : WO P c ops (o :: rest) s Q := by
 rintro a w ⟨F, β, fb, mb, ow, hi⟩
 obtain ⟨bf, hrf, h1⟩ := hi.opd fo
 rw [hf] at hrf
 obtain ⟨arr, bs', hv, hr1, rfl⟩ := relD_append' hrf
 obtain ⟨bs, hr2, h2⟩ := relD_ops hi args.toList
 have hall := hr2.append hr1
 have hsound := hes hi hall fun b hb => by
  rcases List.mem_append.1 hb with hb | hb
  ·exact h2 b hb
  ·rcases h1 with rfl | ⟨u, _, rfl⟩
   ·cases hb
   ·exact (hi.own b (by rw [hi.ofr u b hb]; simp)).2.1
 have hrun : (execOp a.eval o).run P w = .ok (.enter f (args.map a.eval ++ arr)) w := by
  simp [execOp, ho, resolve, hv, Deferred.ofValue, invoke, run_callFunc hc.1]
 refine wpList_plain hg fun K hK => ?_
 unfold Oper.wp
 rw [hrun, Oper.upon_enter]
 refine (hc.2 w (fun b => b < w.heap.size) (args.map a.eval ++ arr) (fun b h => h) (by simpa using hsound)).mono ?_
 rintro e w' ⟨v, F', bs2, rfl, hb, _, _, hr, hnd, hbs⟩
 dsimp only
 rw [hd]
 refine hK _ _ (k _ _ ⟨F, β, _, mb, _, hi.called ht hb (fun _ h => h) (fun _ h => .inl h) (hr.noImm (by simp [D.noImm.noImmL, hn])) hnd fun b h => ?_⟩)
 obtain ⟨h3, h4, h5⟩ := hbs b h
 exact ⟨h3, h4, fun h6 => by have := hi.fin b h6; omega⟩
theorem QG_callV {Q : St → List Dl → Prop} {t : Nat} {fo : Operand} {args : Array Operand} {tys : Array TypeId} {f : FuncId} {caps es : List D} {r : D} (hg : o.guard = none) (hd : o.dst = some t) (ht : t < c.n)
  (ho : o.op = .call { callee := .value fo, args := args, argTypes := tys }) (hf : opd s.fr fo = .clo f caps) (hes : ∀ s' : St, (∀ id k, lookM M0 id = some k → lookM s'.M id = some k) → ViewL c s' (args.toList.map (opd s.fr) ++ caps) es) (hc : Fun P f es r) (hn : r.noImm = true)
  (k : QG P c ops M0 rest ⟨(t, r) :: s.fr, s.M⟩ (acc ++ [pl t r]) Q) : QG P c ops M0 (o :: rest) s acc Q :=
 ⟨pl t r, hd, fun s' ha _ Q h => by
  have e1 : opd s'.fr fo = opd s.fr fo := ha.opd (by rw [ho]; simp [Op.operands, Call.operands])
  have e2 : args.toList.map (opd s'.fr) = args.toList.map (opd s.fr) := ha.opds fun x hx => by
   rw [ho]
   simp only [Op.operands, Call.operands, Array.mem_append]
   exact .inr (by simpa using hx)
  exact WO_callV hg hd ht ho (by rw [e1]; exact hf) (by rw [e2]; exact hes s' ha.1) hc hn h, k⟩
theorem Conc.raws {a : Act} {w : World} {F β fb mb ow} (hi : Conc c s a w F β fb mb ow) {id : Nat} {vs : List Value} {ts : List T} (hM : lookM s.M id = some (.rawV vs ts)) : RelL w (fun b => b < w.heap.size) vs ts := by
 have hm := hi.mem id
 rw [hM] at hm
 exact OwnL.rel hm fun b' hb' => (hi.own b' (by rw [hi.omem id b' hb']; simp)).2.1
theorem Conc.ros {a : Act} {w : World} {F β fb mb ow} (hi : Conc c s a w F β fb mb ow) {id : Nat} {vs : List Value} {ts : List T} (hM : lookM s.M id = some (.ro vs ts)) : RelL w (fun b => b < w.heap.size) vs ts := by
 have hm := hi.mem id
 rw [hM] at hm
 exact hm.1.mono (fun b hb => hi.fin b hb) fun _ _ => rfl
theorem ViewL.told5 {i0 i1 i2 i3 i4 idr : Nat} {v0 v1 v2 v3 v4 : Value} {x0 x1 x2 x3 x4 : T} {ws : List Value} {us ts' : List T} (h0 : lookM s.M i0 = some (.rawV [v0] [x0])) (h1 : lookM s.M i1 = some (.rawV [v1] [x1])) (h2 : lookM s.M i2 = some (.rawV [v2] [x2])) (h3 : lookM s.M i3 = some (.rawV [v3] [x3])) (h4 : lookM s.M i4 = some (.rawV [v4] [x4]))
  (hr : lookM s.M idr = some (.ro ws us)) (h : ∀ {w : World} {F : Nat → Prop}, RelL w F [v0, v1, v2, v3, v4] [x0, x1, x2, x3, x4] → RelL w F ws us → RelL w F [v0, v1, v2, v3, v4] ts') :
  ViewL c s [.agg [.t (.v v0), .t (.v v1), .t (.v v2), .t (.v v3), .t (.v v4)]] [.t (.agg ts')] := fun {a w F β fb mb ow} hi zs bs hrd hb => by
 have g := h (RelL.cons' (hi.raws h0) (RelL.cons' (hi.raws h1) (RelL.cons' (hi.raws h2) (RelL.cons' (hi.raws h3) (hi.raws h4))))) (hi.ros hr)
 cases hrd with
 | agg q0 q1 q2 =>
  cases q2
  have key : ∀ {xs vs : List Value} {bs}, RelD w F β xs (vs.map fun u => D.t (.v u)) bs → xs = vs := by
   intro xs vs
   induction vs generalizing xs with
   | nil => intro bs h; cases h; rfl
   | cons v vs ih =>
    intro bs h
    cases xs with
    | nil => cases h
    | cons x xs =>
     obtain ⟨b1, b2, g1, g2, _⟩ := h.cons
     rw [ih g2]
     cases g1 with
     | t p1 p2 => rw [relL_one p1]
  exact .tagg (by rw [key (vs := [v0, v1, v2, v3, v4]) q1]; exact g) .done
theorem relL_told {w : World} {F : Nat → Prop} : ∀ {zs vs : List Value}, RelL w F vs (zs.map T.v) → vs = zs
 | [], vs, h => by cases h; rfl
 | z :: zs, vs, h => by
  cases vs with
  | nil => cases h
  | cons v vs =>
   obtain ⟨h1, h2⟩ := h.cons
   rw [relL_told h2, relL_one h1]
theorem ViewL.told1 {id idr : Nat} {v : Value} {ws : List Value} {x y : T} {us : List T} (hM : lookM s.M id = some (.rawV [v] [x])) (hr : lookM s.M idr = some (.ro ws us)) (h : ∀ {w : World} {F : Nat → Prop}, RelL w F [v] [x] → RelL w F ws us → RelL w F [v] [y]) :
  ViewL c s [.t (.v v)] [.t y] := fun {a w F β fb mb ow} hi zs bs hrd hb => by
 have h1 := h (hi.raws hM) (hi.ros hr)
 cases hrd with
 | t q1 q2 =>
  cases q2
  rw [relL_one q1]
  exact .t h1 .done
theorem W_convB {code : Code} {u j idr : Nat} {x : T} {ws : List Value} {us : List T} {cells : List D} (y : T) (hM : lookM s.M u = some (.box cells)) (hj : cells[j]? = some (.t x)) (hr : lookM s.M idr = some (.ro ws us)) (h : ∀ {w : World} {F : Nat → Prop} {v}, RelL w F [v] [x] → RelL w F ws us → RelL w F [v] [y])
  (k : W P c code ⟨s.fr, (u, .box (cells.set j (.t y))) :: s.M⟩ Q) : W P c code s Q := by
 rintro a w ⟨F, β, fb, mb, ow, hi⟩
 have hm := hi.mem u
 rw [hM] at hm
 obtain ⟨b, arr, e, bs, h1, h2, h3, h4, h5⟩ := hm
 have hro := hi.mem idr
 rw [hr] at hro
 have key : ∀ {vs : List Value} {ds : List D} {bs : List Nat} {j : Nat}, RelD w F β vs ds bs → vs.all (·.oneCell') = true → ds[j]? = some (.t x) → RelD w F β vs (ds.set j (.t y)) bs := by
  intro vs
  induction vs with
  | nil =>
   intro ds bs j hr _ hj
   have := hr.length
   cases ds with
   | nil => simp at hj
   | cons _ _ => simp at this
  | cons v vs ih =>
   intro ds bs j hr ho hj
   cases ds with
   | nil => simp at hj
   | cons d ds =>
    obtain ⟨b1, b2, g1, g2, rfl⟩ := hr.cons
    rw [List.all_cons, Bool.and_eq_true] at ho
    cases j with
    | zero =>
     simp at hj
     subst hj
     cases g1 with
     | t q1 q2 =>
      cases q2
      exact RelD.cons' (.t (h q1 hro.1) .done) g2
     | tagg q1 q2 => simp [Value.oneCell'] at ho
    | succ j => exact RelD.cons' g1 (ih g2 ho.2 (by simpa using hj))
 refine k a w ⟨F, β, fb, mb, ow, { hi with mem := fun i => ?_ }⟩
 simp only [lookM]
 by_cases hid : u = i
 ·subst hid
  rw [if_pos rfl]
  exact ⟨b, arr, e, bs, by rw [List.length_set]; exact h1, h2, key h3 h4 hj, h4, h5⟩
 ·rw [if_neg hid]; exact hi.mem i
theorem W_tellS {code : Code} {t n : Nat} {xs : List T} (idr : Nat) (h1 : look s.fr t = .t (.list n xs)) (hn : lookM s.M idr = none) (k : ∀ (ad : Option Addr) (cap : Nat), W P c code ⟨(t, .t (.v (.slice ad xs.length cap))) :: s.fr, (idr, .ro [.slice ad xs.length cap] [.list n xs]) :: s.M⟩ Q) : W P c code s Q := by
 rintro a w ⟨F, β, fb, mb, ow, hi⟩
 have hr := hi.fr t
 rw [h1] at hr
 have hfb : fb t = [] := hr.free1 rfl
 have hm := hi.mem idr
 rw [hn] at hm
 obtain ⟨v, hv⟩ : ∃ v, v = a.tmps.getD t undef := ⟨_, rfl⟩
 rw [← hv] at hr
 have hrel : RelL w F [v] [.list n xs] := by
  cases hr with
  | t q1 q2 => exact q1
 obtain ⟨ad, cap, rfl⟩ : ∃ ad cap, v = .slice ad xs.length cap := by
  cases hrel with
  | none _ => exact ⟨_, _, rfl⟩
  | list _ _ _ _ _ _ _ => exact ⟨_, _, rfl⟩
 refine k ad cap a w ⟨F, β, fb, mb, ow, { hi with fr := fun y => ?_, mem := fun i => ?_ }⟩
 ·simp only [look]
  split
  ·rename_i e
   subst e
   rw [← hv, hfb]
   exact .t (.v rfl .nil) .done
  ·exact hi.fr y
 ·simp only [lookM]
  by_cases hid : idr = i
  ·subst hid
   rw [if_pos rfl]
   exact ⟨hrel, hm⟩
  ·rw [if_neg hid]; exact hi.mem i
end
end Go.Eng
end
