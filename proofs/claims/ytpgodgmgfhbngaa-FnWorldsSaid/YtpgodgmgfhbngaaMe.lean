import Derived.Test.YtpgodgmgfhbngaaMd
set_option linter.unusedVariables false
set_option linter.unusedSimpArgs false
section
/- What is known of values, put in order; memory that is not there. -/
namespace Go.Eng
open Go.RowKit
section
variable {P : Program} {c : Ctx} {s : St} {Q : Exit → St → Prop} {ops : Array Oper} {rest : List Oper} {o : Oper}
end
end Go.Eng
end
section
/- Structs whose fields are structs, put together out of their parts. -/
namespace Go.Eng
open Go.RowKit
section
variable {P : Program} {c : Ctx} {s : St} {Q : Exit → St → Prop} {ops : Array Oper} {rest : List Oper} {o : Oper}
end
section
variable {P : Program} {c : Ctx} {s : St} {M0 : List (Nat × Blk)} {acc : List Dl} {Q : St → List Dl → Prop} {ops : Array Oper} {rest : List Oper} {o : Oper}
end
end Go.Eng
end
section
/- Slices made of so many, copied into, named: of whole numbers. -/
namespace Go.Eng
open Go.RowKit
section
variable {P : Program} {c : Ctx} {s : St} {Q : Exit → St → Prop} {ops : Array Oper} {rest : List Oper} {o : Oper}
theorem Le.eqK {id : Nat} {k k' : Blk} (h1 : lookM s.M id = some k) (h : k = k') : Le c s ⟨s.fr, (id, k') :: s.M⟩ := by
 subst h
 refine Le.of (fun t => .inl rfl) (fun i => .inl ?_)
 simp only [lookM]
 split
 ·rename_i e; subst e; exact h1.symm
 ·rfl
end
section
variable {P : Program} {c : Ctx} {s : St} {M0 : List (Nat × Blk)} {acc : List Dl} {Q : St → List Dl → Prop} {ops : Array Oper} {rest : List Oper} {o : Oper}
end
end Go.Eng
end
section
/- Statements of open order that make ready what they lend, once it is read. -/
namespace Go.Eng
open Go.RowKit
section
variable {P : Program} {c : Ctx} {s : St} {ops : Array Oper} {rest : List Oper} {o : Oper}
end
section
variable {P : Program} {c : Ctx} {s : St} {Q : Exit → St → Prop} {ops : Array Oper} {rest : List Oper} {o : Oper}
end
end Go.Eng
end
section
/- One cell of a list is laid open: the list that it owns gets a name. -/
namespace Go.Eng
open Go.RowKit
section
variable {P : Program} {c : Ctx} {s : St} {Q : Exit → St → Prop} {ops : Array Oper} {rest : List Oper} {o : Oper}
theorem Le.rawListO {id b n cap : Nat} {vs : List Value} {ys : List T} (pid : Nat) (hM : lookM s.M id = some (.raw b (cap * n) vs (ys.flatMap T.cells))) (h2 : lookM s.M pid = none) (h3 : clFr id s.fr = true) (h4 : (s.M.all fun p => cleanB id p.2) = true)
  (hn : ∀ y, y ∈ ys → (T.cells y).length = n) (hl : ys.length ≤ cap) (hc : cap ≤ maxLen) :
  Le c s ⟨s.fr, (id, .L n ys) :: (pid, .pin id b n cap) :: s.M⟩ := by
 rintro a w ⟨F, β, fb, mb, ow, hi⟩
 refine hi.name pid hM h2 h3 h4 fun β' hβ hm => ?_
 obtain ⟨arr, e, bs, q1, q2, q3, q4, q5⟩ := hm
 have hvl : vs.length = ys.length * n := by rw [q4.length, flat_length hn]
 exact .inr ⟨b, cap, arr, e, bs, hβ, q1, q2, hn, hl, hc, by rw [← hvl, q3]; exact q4, q5⟩
theorem Mix.told : ∀ {vs : List Value} {ts : List T}, vs.length = ts.length → Mix vs ts (vs.map T.v) ts
 | [], [], _ => .nil
 | [], _ :: _, h => by simp at h
 | _ :: _, [], h => by simp at h
 | v :: vs, t :: ts, h => .claim (Mix.told (by simpa using h))
def toldG {β : Type} (C : List (β × List Value)) : List T := C.map fun c => .agg (c.2.map T.v)
theorem toldG_flat {β : Type} (C : List (β × List Value)) : (toldG C).flatMap T.cells = (C.flatMap (·.2)).map T.v := by
 rw [toldG, List.flatMap_map, List.map_flatMap]; rfl
theorem toldG_cells {β : Type} {C : List (β × List Value)} {n : Nat} (h : ∀ c, c ∈ C → c.2.length = n) : ∀ y, y ∈ toldG C → (T.cells y).length = n := by
 intro y hy
 obtain ⟨c, hc, rfl⟩ := List.mem_map.1 hy
 show (c.2.map T.v).length = n
 rw [List.length_map]; exact h c hc
theorem WO_openL {l : List Oper} {id n m i off : Nat} {xs ys : List T} {z : T} (id2 pid idp : Nat) (hM : lookM s.M id = some (.L n xs)) (hn : ∀ x, x ∈ xs → (T.cells x).length = n) (hz : xs[i]? = some z) (hc : z.cells[off]? = some (.list m ys)) (hy : ys ≠ [])
  (h2 : lookM s.M id2 = none) (h3 : lookM s.M pid = none) (h4 : lookM s.M idp = none) (hd : (id2 == pid || (id2 == idp || pid == idp)) = false) (hf : clFr id2 s.fr = true) (hcl : (s.M.all fun p => cleanB id2 p.2) = true)
  (k : ∀ b cap : Nat, ys.length ≤ cap → WO P c ops l ⟨s.fr, (id, .L n (xs.set i (.agg (z.cells.set off (.v (.slice (some ⟨b, 0, none⟩) ys.length cap)))))) :: (id2, .L m ys) :: (pid, .pin id2 b m cap) :: s.M⟩ Q) : WO P c ops l s Q := by
 simp only [Bool.or_eq_false_iff, beq_eq_false_iff_ne] at hd
 obtain ⟨d1, d2, d3⟩ := hd
 have n1 : ¬ id = id2 := fun e => by rw [e, h2] at hM; cases hM
 have n2 : ¬ id = pid := fun e => by rw [e, h3] at hM; cases hM
 have n3 : ¬ id = idp := fun e => by rw [e, h4] at hM; cases hM
 have n1' : ¬ id2 = id := fun e => n1 e.symm
 have n2' : ¬ pid = id := fun e => n2 e.symm
 have n3' : ¬ idp = id := fun e => n3 e.symm
 have d1' : ¬ pid = id2 := fun e => d1 e.symm
 have d2' : ¬ idp = id2 := fun e => d2 e.symm
 have d3' : ¬ idp = pid := fun e => d3 e.symm
 refine WO_exposeL (id := id) (idp := idp) hM h4 fun vs hvs => ?_
 obtain ⟨C, hC1, hC2, rfl⟩ := cutV (l := xs) (vs := vs) (n := n) hvs
 have hCl : C.length = xs.length := by rw [← hC1, List.length_map]
 refine ⟨toldG C, toldG_flat C, by rw [toldG, List.length_map, hCl], toldG_cells hC2, ?_⟩
 have hil := (List.getElem?_eq_some_iff.1 hz).1
 have hzn := hn z (List.mem_of_getElem? hz)
 have hoff : off < n := by rw [← hzn]; exact (List.getElem?_eq_some_iff.1 hc).1
 have hat : (xs.flatMap T.cells)[i * n + off]? = some (.list m ys) := by rw [flat_atc hn hz hoff]; exact hc
 have hlt : i * n + off < xs.length * n := by
  have : (i + 1) * n ≤ xs.length * n := Nat.mul_le_mul_right n hil
  rw [Nat.succ_mul] at this
  omega
 obtain ⟨u, hu⟩ : ∃ u, (C.flatMap (·.2))[i * n + off]? = some u := ⟨_, List.getElem?_eq_getElem (by rw [hvs]; exact hlt)⟩
 refine WO_explode (id := idp) (j := i * n + off) (id2 := id2) (n := m) (u := u) (xs := ys) (blk := .rawV (C.flatMap (·.2)) (xs.flatMap T.cells)) (by simp [lookM, n1, n2, n3, d1, d2, d3, n1', n2', n3', d1', d2', d3', h2, h3, h4]) rfl hu hat (by simp [lookM, n1, n2, n3, d1, d2, d3, n1', n2', n3', d1', d2', d3', h2, h3, h4]) fun e ad b cap ws hue hb he hlc hcm hcn => ?_
 have he0 : e = false := by cases e with | false => rfl | true => exact absurd (he rfl) hy
 subst he0
 obtain rfl : ad = some ⟨b, 0, none⟩ := hb rfl
 subst hue
 refine WO_le (Le.rawListO (id := id2) (b := b) (n := m) (cap := cap) (vs := ws) (ys := ys) pid (by simp [lookM, rb, setV, n1, n2, n3, d1, d2, d3, n1', n2', n3', d1', d2', d3', h2, h3, h4]) (by simp [lookM, n1, n2, n3, d1, d2, d3, n1', n2', n3', d1', d2', d3', h2, h3, h4]) hf (by simp only [List.all_cons, hcl, Bool.and_true]; rfl) hcn hlc hcm) ?_
 refine WO_le (Le.claimMix (id := id) (idp := idp) (n := n) (ys := toldG C) (xs := xs.set i (.agg (z.cells.set off (.v (.slice (some ⟨b, 0, none⟩) ys.length cap))))) (vs := C.flatMap (·.2)) (ts := (xs.flatMap T.cells).set (i * n + off) (.v (.slice (some ⟨b, 0, none⟩) ys.length cap))) (by simp [lookM, n1, n2, n3, d1, d2, d3, n1', n2', n3', d1', d2', d3', h2, h3, h4]) (by simp [lookM, setV, opened, n1, n2, n3, d1, d2, d3, n1', n2', n3', d1', d2', d3', h2, h3, h4]) ?_ (by simp [toldG, hCl]) ?_ (by simpa using n3)) ?_
 ·rw [toldG_flat, ← flat_setc (y := .agg (z.cells.set off (.v (.slice (some ⟨b, 0, none⟩) ys.length cap)))) hn hz hoff rfl]
  exact Mix.told (by rw [hvs, List.length_set, flat_length hn])
 ·intro x hx
  rcases List.mem_or_eq_of_mem_set hx with hx | rfl
  ·exact hn x hx
  ·show (z.cells.set off _).length = n
   rw [List.length_set]; exact hzn
 ·refine WO_le ?_ (k b cap hlc)
  refine Le.of (fun t => .inl rfl) fun j => .inl ?_
  simp only [lookM]
  by_cases g1 : id = j
  ·subst g1; simp
  ·rw [if_neg g1, if_neg g1]
   by_cases g2 : idp = j
   ·subst g2
    rw [lookM_dropped, if_neg d2, if_neg d3, h4]
   ·rw [lookM_drop (fun e => g2 e.symm)]
    simp only [lookM, if_neg g1, if_neg g2]
    by_cases g3 : id2 = j
    ·simp [g3]
    ·simp [g3]
theorem W_openL {code : Code} {id n m i off : Nat} {xs ys : List T} {z : T} (id2 pid idp : Nat) (hM : lookM s.M id = some (.L n xs)) (hn : ∀ x, x ∈ xs → (T.cells x).length = n) (hz : xs[i]? = some z) (hc : z.cells[off]? = some (.list m ys)) (hy : ys ≠ [])
  (h2 : lookM s.M id2 = none) (h3 : lookM s.M pid = none) (h4 : lookM s.M idp = none) (hd : (id2 == pid || (id2 == idp || pid == idp)) = false) (hf : clFr id2 s.fr = true) (hcl : (s.M.all fun p => cleanB id2 p.2) = true)
  (k : ∀ b cap : Nat, ys.length ≤ cap → W P c code ⟨s.fr, (id, .L n (xs.set i (.agg (z.cells.set off (.v (.slice (some ⟨b, 0, none⟩) ys.length cap)))))) :: (id2, .L m ys) :: (pid, .pin id2 b m cap) :: s.M⟩ Q) : W P c code s Q := by
 intro a w hi
 obtain ⟨s', h1, b, cap, hl, rfl⟩ := WO_openL (P := P) (ops := #[]) (l := []) (Q := fun _ s' => ∃ b cap : Nat, ys.length ≤ cap ∧ s' = ⟨s.fr, (id, .L n (xs.set i (.agg (z.cells.set off (.v (.slice (some ⟨b, 0, none⟩) ys.length cap)))))) :: (id2, .L m ys) :: (pid, .pin id2 b m cap) :: s.M⟩) id2 pid idp hM hn hz hc hy h2 h3 h4 hd hf hcl (fun b cap hl => WO_nil ⟨b, cap, hl, rfl⟩) a w hi
 exact k b cap hl a w h1
end
end Go.Eng
end
section
/- A copy within one list of plain values of the function's own. -/
namespace Go.Eng
open Go.RowKit
section
variable {P : Program} {c : Ctx} {s : St} {Q : Exit → St → Prop} {ops : Array Oper} {rest : List Oper} {o : Oper}
theorem WO_loadU {Γ : Tys} (hΓ : Γ.ok P) {ty t b sz id off : Nat} {x : Operand} {ti : TI} {vs : List Value} {ts : List T} {y : T} {u : Value} (hg : o.guard = none) (hd : o.dst = some t) (ht : t < c.n) (ho : o.op = .load ty x)
  (h1 : tyOf Γ ty = some ti) (h2 : ti.kind.isAgg = false) (hx : opd s.fr x = .t (.v (.pointer (some ⟨b, off, none⟩)))) (hM : lookM s.M id = some (.raw b sz vs ts)) (hy : ts[off]? = some y) (hu : vs[off]? = some u)
  (k : WO P c ops rest ⟨(t, .t (.v u)) :: s.fr, s.M⟩ Q) : WO P c ops (o :: rest) s Q :=
 WO_loadV hΓ hg hd ht ho h1 h2 hx hM hy fun u' hu' => by rw [hu] at hu'; cases hu'; exact k
theorem QL_loadU {Q : St → Prop} {Γ : Tys} (hΓ : Γ.ok P) {ty t b sz id off : Nat} {x : Operand} {ti : TI} {vs : List Value} {ts : List T} {y : T} {u : Value} (hg : o.guard = none) (hd : o.dst = some t) (ht : t < c.n) (ho : o.op = .load ty x)
  (h1 : tyOf Γ ty = some ti) (h2 : ti.kind.isAgg = false) (hx : opd s.fr x = .t (.v (.pointer (some ⟨b, off, none⟩)))) (hM : lookM s.M id = some (.raw b sz vs ts)) (hy : ts[off]? = some y) (hu : vs[off]? = some u)
  (k : QL P c ops rest ⟨(t, .t (.v u)) :: s.fr, s.M⟩ Q) : QL P c ops (o :: rest) s Q :=
 ⟨t, _, hd, fun s' ha Q h => WO_loadU hΓ hg hd ht ho h1 h2 (by rw [ha.opd (by rw [ho]; simp [Op.operands])]; exact hx) (by rw [ha.1]; exact hM) hy hu h, k⟩
theorem QG_loadU {M0 : List (Nat × Blk)} {acc : List Dl} {Q : St → List Dl → Prop} {Γ : Tys} (hΓ : Γ.ok P) {ty t b sz id off : Nat} {x : Operand} {ti : TI} {vs : List Value} {ts : List T} {y : T} {u : Value} (hg : o.guard = none) (hd : o.dst = some t) (ht : t < c.n) (ho : o.op = .load ty x)
  (h1 : tyOf Γ ty = some ti) (h2 : ti.kind.isAgg = false) (hx : opd s.fr x = .t (.v (.pointer (some ⟨b, off, none⟩)))) (hM : lookM M0 id = some (.raw b sz vs ts)) (hy : ts[off]? = some y) (hu : vs[off]? = some u)
  (k : QG P c ops M0 rest ⟨(t, .t (.v u)) :: s.fr, s.M⟩ (acc ++ [pl t (.t (.v u))]) Q) : QG P c ops M0 (o :: rest) s acc Q :=
 ⟨pl t _, hd, fun s' ha _ Q h => WO_loadU hΓ hg hd ht ho h1 h2 (by rw [ha.opd (by rw [ho]; simp [Op.operands])]; exact hx) (ha.1 _ _ hM) hy hu h, k⟩
end
end Go.Eng
end
section
/- A region that only reads, run as if all memory were only read: what it answers of values is kept in a new variable, all else is as before. -/
namespace Go.Eng
open Go.RowKit
section
variable {P : Program} {c : Ctx} {s : St} {Q : Exit → St → Prop} {ops : Array Oper}
def sameOut (ds : List Nat) (a0 a : Act) : Prop := ∀ u, u ∉ ds → a.tmps.getD u undef = a0.tmps.getD u undef
theorem sameOut.put {ds : List Nat} {a0 a : Act} (h : sameOut ds a0 a) {d : Option Nat} (hd : ∀ t, d = some t → t ∈ ds) (v : Value) : sameOut ds a0 (a.put d v) := by
 cases d with
 | none => exact h
 | some t =>
  intro u hu
  have hne : ¬ t = u := fun e => hu (e ▸ hd t rfl)
  rw [← h u hu]
  simp [Act.put, Array.getElem?_setIfInBounds_ne hne]
theorem upon_same {ds : List Nat} {a0 a : Act} {o : Oper} {next next' : Act → World → Prop} {Q1 Q2 : Exit → Act → World → Prop} {r : Result Next} (ha : sameOut ds a0 a) (hd : ∀ t, o.dst = some t → t ∈ ds) (hn : ∀ a w, sameOut ds a0 a → next a w → next' a w) (hQ : ∀ e a w, e ≠ .normal → Q1 e a w → Q2 e a w)
  (h : o.upon P a next Q1 r) : o.upon P a next' Q2 r := by
 have hl : LetsOut Q1 → LetsOut Q2 := fun ⟨a, w, h⟩ => ⟨a, w, hQ _ _ _ (by simp) h⟩
 cases r with
 | ok x w' =>
  cases x with
  | value v => exact hn _ _ (ha.put hd v) h
  | skip => exact hn _ _ (ha.put hd undef) h
  | defer d => exact hn _ _ ((show sameOut ds a0 { a with defers := d :: a.defers } from ha).put hd undef) h
  | enter f args =>
   refine Calls.mono h fun e w'' he => ?_
   cases e with
   | returned v => exact hn _ _ (ha.put hd v) he
   | panicked chain => exact hQ _ _ _ (by simp) he
   | outgrown => exact hl he
  | row row args => exact Rows.mono h fun v w'' he => hn _ _ (ha.put hd v) he
  | _ => exact h
 | halt x w' => cases x <;> simp only [Oper.upon] at h ⊢ <;> first | exact hQ _ _ _ (by simp) h | exact h
theorem wpAny_same {ds : List Nat} {a0 : Act} {Qx Qy : Exit → Act → World → Prop} (hds : ∀ (i : Nat) o, ops[i]? = some o → ∀ t, o.dst = some t → t ∈ ds) (hQ : ∀ e a w, e ≠ .normal → Qx e a w → Qy e a w) (hN : ∀ a w, sameOut ds a0 a → Qx .normal a w → Qy .normal a w) : ∀ (fuel : Nat) (listed : Array Bool) (a : Act) (w : World), sameOut ds a0 a →
  wpAny P .any ops Qx fuel listed a w → wpAny P .any ops Qy fuel listed a w
 | 0, listed, a, w, ha, h => ⟨h.1, hN _ _ ha h.2⟩
 | fuel + 1, listed, a, w, ha, h => by
  refine ⟨fun hn => hN _ _ ha (h.1 hn), fun i hi => ?_⟩
  have h1 := h.2 i hi
  unfold wpOp at h1 ⊢
  split at h1
  ·rename_i ho
   exact wpAny_same hds hQ hN fuel _ _ _ ha h1
  ·rename_i o ho
   have hd := hds i o ho
   split at h1
   ·rename_i hw
    rw [if_pos hw]
    refine h1.imp (fun h2 => ?_) fun h2 => ⟨h2.1, ?_⟩
    ·exact upon_same ha hd (fun a w hs hh => wpAny_same hds hQ hN fuel _ _ _ hs hh) hQ h2
    ·obtain ⟨a1, w1, h3⟩ := h2.2
     exact ⟨a1, w1, hQ _ _ _ (by simp) h3⟩
   ·rename_i hw
    rw [if_neg hw]
    exact wpAny_same hds hQ hN fuel _ _ _ (ha.put hd undef) h1
def ViewL (c : Ctx) (s : St) (ds es : List D) : Prop := ∀ {a : Act} {w : World} {F : Nat → Prop} {β : Place} {fb mb : Nat → List Nat} {ow : Nat → Option (Nat ⊕ Nat)}, Conc c s a w F β fb mb ow → ∀ {vs : List Value} {bs : List Nat}, RelD w F β vs ds bs → (∀ b, b ∈ bs → b < w.heap.size) →
 RelD w (fun b => b < w.heap.size) (fun _ => none) vs es []
theorem ViewL.of {ds es : List D} (h : ResL s ds es) : ViewL c s ds es := fun hi _ _ hr hb => h.sound hi hr hb
theorem ViewL.nil' : ViewL c s [] [] := ViewL.of ResL.done
theorem ViewL.cons {d e : D} {ds es : List D} (h : ViewL c s [d] [e]) (k : ViewL c s ds es) : ViewL c s (d :: ds) (e :: es) := fun hi vs bs hr hb => by
 cases vs with
 | nil => cases hr
 | cons v vs =>
  obtain ⟨b1, b2, h1, h2, rfl⟩ := hr.cons
  exact RelD.cons' (h hi h1 fun b hb' => hb b (by simp [hb'])) (k hi h2 fun b hb' => hb b (by simp [hb']))
theorem ViewL.ref {id off : Nat} {cells : List D} {ts : List T} (hM : lookM s.M id = some (.box cells)) (h : ViewL c s cells (ts.map D.t)) : ViewL c s [.ref id 0 off] [.rp (.agg ts) off] := fun {a w F β fb mb ow} hi vs bs hr hb => by
 have hm := hi.mem id
 rw [hM] at hm
 obtain ⟨b, arr, e, bs', h1, h2, h3, h4, h5⟩ := hm
 cases hr with
 | ref q1 q2 =>
  rw [h1] at q1
  cases q1
  have hin : ∀ b', b' ∈ mb id → b' < w.heap.size := fun b' hb' => (hi.own b' (by rw [hi.omem id b' hb']; simp)).2.1
  have h6 := h hi h3 fun b' hb' => hin b' (by rw [h5]; simp [hb'])
  cases q2
  rw [Nat.zero_mul]
  exact .rp (o := 0) (cs := arr.toList) (hin b (by rw [h5]; simp)) h2 (by simp) (relL_of_ts h6 h4) .done
theorem ViewL.raw {id b sz n m cap : Nat} {ws : List Value} {ts xs : List T} (hM : lookM s.M id = some (.raw b sz ws ts)) (hx : xs.flatMap T.cells = ts) (hn : ∀ x, x ∈ xs → (T.cells x).length = m) (hl : xs.length = n) (hc : n ≤ cap) : ViewL c s [.t (.v (.slice (some ⟨b, 0, none⟩) n cap))] [.t (.list m xs)] := fun {a w F β fb mb ow} hi vs bs hr hb => by
 have hm := hi.mem id
 rw [hM] at hm
 obtain ⟨arr, e, bs', h1, h2, h3, h4, h5⟩ := hm
 subst hx hl
 have hrel := h4.rel (F := fun b => b < w.heap.size) fun b' hb' => (hi.own b' (by rw [hi.omem id b' (by rw [h5]; simp [hb'])]; simp)).2.1
 cases hr with
 | t q1 q2 =>
  have e1 := relL_one q1
  subst e1
  cases q2
  refine .t (.list (o := 0) (hi.own b (by rw [hi.omem id b (by rw [h5]; simp)]; simp)).2.1 h1 (fun k hk => ?_) hn hc hrel .nil) .done
  rw [← h3]
  rw [← h3] at hk
  simp only [List.length_take, Array.length_toList] at hk
  rw [List.getElem?_take, if_pos (by omega), Nat.zero_add]
  simp
def Views (c : Ctx) (s : St) : List (Nat × D) → Prop
 | [] => True
 | (t, d) :: l => ViewL c s [look s.fr t] [d] ∧ Views c s l
theorem Views.look {s : St} : ∀ {l : List (Nat × D)}, Views c s l → ∀ t, look l t = .top ∨ ViewL c s [Eng.look s.fr t] [look l t]
 | [], _, t => .inl rfl
 | (u, d) :: l, h, t => by
  rw [Eng.look]
  split
  ·rename_i e; subst e; exact .inr h.1
  ·exact Views.look h.2 t
def D.plain : D → Bool
 | .t (.v _) => true
 | .top => true
 | _ => false
def D.toPlain (d : D) : D := if d.plain then d else .top
theorem RelD.toPlain {w w' : World} {F F' : Nat → Prop} {β β' : Place} : ∀ {vs ds bs}, RelD w F β vs ds bs → RelD w' F' β' vs (ds.map D.toPlain) []
 | _, _, _, .done => .done
 | _, _, _, .t (y := y) h1 h2 => by
  have ih := RelD.toPlain (w' := w') (F' := F') (β' := β') h2
  cases y with
  | v x =>
   cases h1 with
   | v h5 h6 => exact .t (.v h5 .nil) ih
  | list _ _ => exact .top ih
  | agg _ => exact .top ih
 | _, _, _, .top h2 => .top (RelD.toPlain h2)
 | _, _, _, .tagg _ h2 => .top (RelD.toPlain h2)
 | _, _, _, .nil h2 => .top (RelD.toPlain h2)
 | _, _, _, .agg _ _ h2 => .top (RelD.toPlain h2)
 | _, _, _, .ref _ h2 => .top (RelD.toPlain h2)
 | _, _, _, .sl _ _ _ _ h2 => .top (RelD.toPlain h2)
 | _, _, _, .slnil _ h2 => .top (RelD.toPlain h2)
 | _, _, _, .rp _ _ _ _ h2 => .top (RelD.toPlain h2)
 | _, _, _, .clo _ h2 => .top (RelD.toPlain h2)
 | _, _, _, .tup _ h2 => .top (RelD.toPlain h2)
 | _, _, _, .own _ h2 => .top (RelD.toPlain h2)
theorem Conc.later {a a' : Act} {w w' : World} {F β fb mb ow} (hi : Conc c s a w F β fb mb ow) {ds : List Nat} (hs : sameOut ds a a') (hh : ∀ b, b < w.heap.size → w'.heap[b]? = w.heap[b]?) (hz : w.heap.size ≤ w'.heap.size)
  (h1 : w'.os = w.os) (h2 : w'.tape = w.tape) (h3 : w'.output = w.output) (h4 : a'.defers = []) (h5 : a'.tmps.size = c.n) :
  Conc c ⟨ds.map (fun t => (t, D.top)) ++ s.fr, s.M⟩ a' w' F β (fun t => if t ∈ ds then [] else fb t) mb (fun b => match ow b with | some (.inl t) => if t ∈ ds then none else some (.inl t) | y => y) := by
 have hlook : ∀ t, look (ds.map (fun t => (t, D.top)) ++ s.fr) t = if t ∈ ds then .top else look s.fr t := by
  intro t
  clear hs
  induction ds with
  | nil => simp
  | cons u l ih =>
   simp only [List.map_cons, List.cons_append, look]
   by_cases e : u = t
   ·rw [if_pos e, if_pos (by simp [e])]
   ·rw [if_neg e, ih]
    simp [Ne.symm e]
 have hin : ∀ b, ow b ≠ none → w'.heap[b]? = w.heap[b]? := fun b h => hh b (hi.own b h).2.1
 have hF : ∀ b, F b → w'.heap[b]? = w.heap[b]? := fun b h => hh b (hi.fin b h)
 exact { hi with
  fr := fun t => by
   rw [hlook]
   try dsimp only
   by_cases ht : t ∈ ds
   ·rw [if_pos ht, if_pos ht]; exact .top .done
   ·rw [if_neg ht, if_neg ht, hs t ht]
    exact (hi.fr t).mono (fun _ h => h) hF (fun b h => hin b (by rw [hi.ofr t b h]; simp)) fun _ => rfl
  mem := fun i => by
   have := hi.mem i
   try dsimp only
   cases h : lookM s.M i with
   | none => rw [h] at this; exact this
   | some k =>
    rw [h] at this
    exact RelB.mono this hF fun b h => hin b (by rw [hi.omem i b h]; simp)
  ofr := fun t b hb => by
   try dsimp only at hb ⊢
   by_cases ht : t ∈ ds
   ·rw [if_pos ht] at hb; cases hb
   ·rw [if_neg ht] at hb
    rw [hi.ofr t b hb]
    simp [ht]
  omem := fun i b hb => by rw [hi.omem i b hb]
  nfr := fun t => by split <;> first | exact List.nodup_nil | exact hi.nfr t
  own := fun b hb => by
   have hb' : ow b ≠ none := fun e => hb (by simp only [e])
   obtain ⟨g1, g2, g3⟩ := hi.own b hb'
   exact ⟨g1, Nat.lt_of_lt_of_le g2 hz, g3⟩
  fin := fun b h => Nat.lt_of_lt_of_le (hi.fin b h) hz
  os := h1.trans hi.os
  tape := h2.trans hi.tape
  output := h3.trans hi.output
  size := Nat.le_trans hi.size hz
  keep := fun b h hg => by rw [hh b (Nat.lt_of_lt_of_le h hi.size)]; exact hi.keep b h hg
  defers := h4
  tmps := h5 }
theorem WR_view {s : St} (out : Nat) (cells : List D) (ds : List Nat) (fr' : List (Nat × D)) (hds : (ops.toList.all fun o => match o.dst with | some t => ds.contains t | none => true) = true) (hfr : Views c s fr') (hcl : (clFr out s.fr && clM out s.M) = true) (hod : ds.contains out = true)
  (h : ∀ w, WR P ⟨w, fun _ => False, fun b => b < w.heap.size, c.n⟩ ops ⟨fr', []⟩ (fun e s1 => e = .normal ∧ look s1.fr out = .ref out 0 0 ∧ ∃ cells1, lookM s1.M out = some (.box cells1) ∧ cells1.map D.toPlain = cells))
  (k : Q .normal ⟨(out, .ref out 0 0) :: (ds.map (fun t => (t, D.top)) ++ s.fr), (out, .box cells) :: s.M⟩) : WR P c ops s Q := by
 rintro a w ⟨F, β, fb, mb, ow, hi⟩
 have hc := Cl.of hcl
 have h0 : Is ⟨w, fun _ => False, fun b => b < w.heap.size, c.n⟩ ⟨fr', []⟩ a w := by
  refine ⟨fun b => b < w.heap.size, fun _ => none, fun _ => [], fun _ => [], fun _ => none, ?_⟩
  exact {
   fr := fun t => by
    rcases hfr.look t with e | e
    ·show RelD _ _ _ _ [look fr' t] _
     rw [e]; exact .top .done
    ·exact e hi (hi.fr t) fun b hb => (hi.own b (by rw [hi.ofr t b hb]; simp)).2.1
   mem := fun i => rfl
   ofr := by simp
   omem := by simp
   nfr := by simp
   nmem := by simp
   own := fun b hb => absurd rfl hb
   fin := fun b h => h
   f0 := fun b h => h
   fnew := fun b h => .inl h
   f0in := fun b h => ⟨h, id⟩
   gin := fun b h => h.elim
   os := rfl
   tape := rfl
   output := rfl
   size := Nat.le_refl _
   keep := fun _ _ _ => rfl
   defers := hi.defers
   tmps := hi.tmps }
 refine wpAny_same (ds := ds) (a0 := a) (fun i o ho t ht => ?_) (fun e a' w' hne hq => ?_) (fun a' w' hs hq => ?_) _ _ _ _ (fun _ _ => rfl) (h w a w h0)
 rotate_left
 ·obtain ⟨s1, _, he, _⟩ := hq
  exact absurd he hne
 ·obtain ⟨s1, ⟨F1, β1, fb1, mb1, ow1, h1⟩, _, h2, cells1, h3, rfl⟩ := hq
  have hcl1 : (cells1.map D.toPlain).length = cells1.length := List.length_map _
  have hL := hi.later (w' := w') hs (fun b hb => h1.keep b hb id) h1.size h1.os h1.tape h1.output h1.defers h1.tmps
  have hf := h1.fr out
  rw [h2] at hf
  have hm := h1.mem out
  rw [h3] at hm
  obtain ⟨b, arr, e, bs', q1, q2, q3, q4, q5⟩ := hm
  rw [← hcl1] at q1
  have q6 := RelD.toPlain (w' := w') (F' := F) (β' := fun id => if id = out then some (b, (cells1.map D.toPlain).length, 1) else β id) q3
  have hob := h1.own b (by rw [h1.omem out b (by rw [q5]; simp)]; simp)
  have hwb : w.heap.size ≤ b := hob.2.2.resolve_right id
  have hnF : ¬ F b := fun h => by have := hi.fin b h; omega
  have hnow : ow b = none := Classical.byContradiction fun h => by have := (hi.own b h).2.1; omega
  have hmo : mb out = [] := by have := hi.mem out; rw [hc.2.2] at this; exact this
  have hβ : ∀ i, i ≠ out → (fun id => if id = out then some (b, (cells1.map D.toPlain).length, 1) else β id) i = β i := fun i h => by simp [h]
  have hva : ∃ x, a'.tmps.getD out undef = x ∧ RelD w' F (fun id => if id = out then some (b, (cells1.map D.toPlain).length, 1) else β id) [x] [.ref out 0 0] [] := by
   refine ⟨_, rfl, ?_⟩
   generalize a'.tmps.getD out undef = x at hf
   cases hf with
   | ref r1 r2 =>
    rw [q1] at r1
    cases r1
    exact .ref (if_pos rfl) .done
  obtain ⟨x, hx, hxr⟩ := hva
  have hod' : out ∈ ds := by simpa using hod
  have hnL : (match ow b with | some (.inl t) => if t ∈ ds then none else some (.inl t) | y => y) = none := by rw [hnow]
  have htop : ∀ t, look (ds.map (fun t => (t, D.top)) ++ s.fr) t = .top ∨ look (ds.map (fun t => (t, D.top)) ++ s.fr) t = look s.fr t := by
   intro t
   clear hds hs hL hod hod' hnL k h
   induction ds with
   | nil => exact .inr rfl
   | cons u l ih =>
    simp only [List.map_cons, List.cons_append, look]
    split
    ·exact .inl rfl
    ·exact ih
  refine ⟨_, ⟨F, fun id => if id = out then some (b, (cells1.map D.toPlain).length, 1) else β id, fun t => if t ∈ ds then [] else fb t, fun i => if i = out then [b] else mb i, fun b' => if b' = b then some (.inr out) else match ow b' with | some (.inl t) => if t ∈ ds then none else some (.inl t) | y => y, ?_⟩, k⟩
  have hne : ∀ b', (match ow b' with | some (.inl t) => if t ∈ ds then none else some (.inl t) | y => y) ≠ none → b' ≠ b := fun b' h e => h (e ▸ hnL)
  exact { hL with
   fr := fun t => by
    simp only [look]
    split
    ·rename_i e; subst e
     rw [if_pos hod', hx]; exact hxr
    ·refine (hL.fr t).other hβ ?_
     simp only [D.has.hasL, Bool.or_false]
     rcases htop t with g | g
     ·rw [g]; rfl
     ·rw [g]; exact hc.1 t
   mem := fun i => by
    simp only [lookM]
    by_cases hi' : out = i
    ·subst hi'
     rw [if_pos rfl]
     simp only [if_true]
     exact ⟨b, arr, e, [], by simp, q2, q6, q4, rfl⟩
    ·rw [if_neg hi']
     have hiu : ¬ i = out := fun e => hi' e.symm
     simp only [if_neg hiu]
     have hm := hL.mem i
     cases hk : lookM s.M i with
     | none => rw [hk] at hm; exact hm
     | some k =>
      rw [hk] at hm
      have hck := hc.2.1 i k hk
      cases k with
      | L n' xs' =>
       rcases hm with ⟨g1, g2, g3⟩ | ⟨b, cap, arr', e', bs', g1, g⟩
       ·exact .inl ⟨by dsimp only; rw [if_neg hiu]; exact g1, g2, g3⟩
       ·exact .inr ⟨b, cap, arr', e', bs', by dsimp only; rw [if_neg hiu]; exact g1, g⟩
      | box cs =>
       obtain ⟨b, arr', e', bs', g1, g2, g3, g4, g5⟩ := hm
       simp only [cleanB, Bool.not_eq_true'] at hck
       exact ⟨b, arr', e', bs', by dsimp only; rw [if_neg hiu]; exact g1, g2, g3.other hβ hck, g4, g5⟩
      | raw _ _ _ _ => exact hm
      | rawV _ _ => exact hm
      | ro _ _ => exact hm
      | pin j b n c =>
       simp only [cleanB, Bool.not_eq_true', beq_eq_false_iff_ne] at hck
       exact ⟨by dsimp only; rw [if_neg hck]; exact hm.1, hm.2⟩
      | obox _ _ => exact hm
   ofr := fun t b' hb => by
    have h5 := hL.ofr t b' hb
    have h6 := hne b' (by rw [h5]; simp)
    rw [if_neg h6]; exact h5
   omem := fun i b' hb => by
    by_cases hi' : i = out
    ·subst hi'
     rw [if_pos rfl, List.mem_singleton] at hb
     rw [if_pos hb]
    ·rw [if_neg hi'] at hb
     have h5 := hL.omem i b' hb
     have h6 := hne b' (by rw [h5]; simp)
     rw [if_neg h6]; exact h5
   nmem := fun i => by
    split
    ·simp
    ·exact hL.nmem i
   own := fun b' hb => by
    by_cases h6 : b' = b
    ·subst h6
     exact ⟨hnF, hob.2.1, .inl (Nat.le_trans hi.size hwb)⟩
    ·rw [if_neg h6] at hb
     exact hL.own b' hb }
 ·rw [List.all_eq_true] at hds
  have := hds o (by simpa using Array.mem_of_getElem? ho)
  rw [ht] at this
  simpa using this
theorem QL_lenV {Q : St → Prop} {rest : List Oper} {o : Oper} {t ty n cap : Nat} {ad : Option Addr} {x : Operand} (hg : o.guard = none) (hd : o.dst = some t) (ht : t < c.n) (ho : o.op = .call { callee := .builtin .len, args := #[x], argTypes := #[ty] })
  (hu : ∃ e, P.underlying ty = some (.slice e)) (hx : opd s.fr x = .t (.v (.slice ad n cap))) (k : QL P c ops rest ⟨(t, .t (.int n)) :: s.fr, s.M⟩ Q) : QL P c ops (o :: rest) s Q :=
 ⟨t, _, hd, fun s' ha Q h => WO_lenV hg hd ht ho hu (by rw [ha.opd (by rw [ho]; simp [Op.operands, Call.operands])]; exact hx) h, k⟩
theorem WR_Gm (m : Nat) (hl : (ops.toList.take m).length = m) (hB : orderT ops m = true) (hT : tailT ops m = true)
  (h : QG P c ops s.M (ops.toList.take m) s [] (fun s' xs => chk ops (ops.toList.take m) s xs = true ∧ WO P c ops (ops.toList.drop m) s' Q)) : WR P c ops s Q :=
 WR_G (l1 := ops.toList.take m) (l2 := ops.toList.drop m) (by simp) (by rw [hl]; exact hB) (.inr (by rw [hl]; exact hT)) h
end
end Go.Eng
end
section
/- An element's inner list, taken out of a list: the list keeps its header, told; what it leads to stands apart. -/
namespace Go.Eng
open Go.RowKit
section
variable {P : Program} {c : Ctx} {s : St} {Q : Exit → St → Prop} {ops : Array Oper} {rest : List Oper} {o : Oper}
theorem W_takeL {code : Code} {id n m i off : Nat} {xs ys : List T} {z : T} (idq : Nat) (hM : lookM s.M id = some (.L n xs)) (hz : xs[i]? = some z) (hc : z.cells[off]? = some (.list m ys)) (h2 : lookM s.M idq = none) (hne' : (id == idq) = false)
  (k : ∀ (ad : Option Addr) (cap : Nat), W P c code ⟨s.fr, (id, .L n (xs.set i (.agg (z.cells.set off (.v (.slice ad ys.length cap)))))) :: (idq, .rawV [.slice ad ys.length cap] [.list m ys]) :: s.M⟩ Q) : W P c code s Q := by
 have hne : ¬ id = idq := by simpa using hne'
 rintro a w ⟨F, β, fb, mb, ow, hi⟩
 have hmm := hi.mem id
 rw [hM] at hmm
 have hm2 := hi.mem idq
 rw [h2] at hm2
 have hil := (List.getElem?_eq_some_iff.1 hz).1
 rcases hmm with ⟨r1, r2, r3⟩ | ⟨b0, cap0, arr, e', bs', r1, r3, r4, r5, r6, r7, r8, r9⟩
 ·subst r2; simp at hil
 have hzl := r5 z (List.mem_of_getElem? hz)
 have hoff := (List.getElem?_eq_some_iff.1 hc).1
 have hat : (xs.flatMap T.cells)[i * n + off]? = some (.list m ys) := by
  rw [flat_atc r5 hz (by omega)]; exact hc
 obtain ⟨u, hu, huone⟩ := r8.get? hat
 obtain ⟨c1, c2, c3, e1, g1, g2⟩ := OwnL.at (i * n + off) r8 hu hat
 obtain ⟨ad, cap, rfl⟩ : ∃ ad cap, u = .slice ad ys.length cap := by
  cases g1 with
  | none h => exact ⟨_, _, rfl⟩
  | list _ _ _ _ _ _ _ _ => exact ⟨_, _, rfl⟩
 have hnew := g2 w (.v (.slice ad ys.length cap)) [] (fun _ _ => rfl) (.v rfl .nil)
 have hset : (xs.flatMap T.cells).set (i * n + off) (.v (.slice ad ys.length cap)) = (xs.set i (.agg (z.cells.set off (.v (.slice ad ys.length cap))))).flatMap T.cells := flat_setc r5 hz (by omega) rfl
 rw [hset] at hnew
 have hnd := hi.nmem id
 rw [r9, e1] at hnd
 refine k ad cap a w (hi.re2 hne (mp := b0 :: (c1 ++ [] ++ c3)) (mq := c2) (fun i h1 h3 => .inl (by
  simp only [lookM]; rw [if_neg (fun e => h1 e.symm), if_neg (fun e => h3 e.symm)])) ?_ ?_ (fun x h => ?_) (fun x h => ?_) ?_ ?_ ?_)
 ·simp only [lookM, if_true]
  refine .inr ⟨b0, cap0, arr, e', c1 ++ [] ++ c3, r1, r3, r4, fun x hx => ?_, by simpa using r6, r7, by rw [List.length_set]; exact hnew, rfl⟩
  rcases List.mem_or_eq_of_mem_set hx with hx | rfl
  ·exact r5 x hx
  ·show (z.cells.set off _).length = n
   rw [List.length_set]; exact hzl
 ·simp only [lookM, if_neg hne, if_true]; exact g1
 ·refine .inl ?_
  rw [r9, e1]
  simp at h ⊢
  rcases h with h | h | h
  ·exact .inl h
  ·exact .inr (.inl h)
  ·exact .inr (.inr (.inr h))
 ·exact .inl (by rw [r9, e1]; simp [h])
 ·obtain ⟨n1, n2⟩ := List.nodup_cons.1 hnd
  obtain ⟨n3, n4, n5⟩ := List.nodup_append.1 n2
  obtain ⟨n6, n7, n8⟩ := List.nodup_append.1 n3
  refine List.nodup_cons.2 ⟨fun h => n1 ?_, ?_⟩
  ·simp at h ⊢
   rcases h with h | h
   ·exact .inl h
   ·exact .inr (.inr h)
  ·rw [List.append_nil]
   exact List.nodup_append.2 ⟨n6, n4, fun x hx y hy e => n5 x (by simp [hx]) y hy e⟩
 ·exact (List.nodup_append.1 (List.nodup_append.1 (List.nodup_cons.1 hnd).2).1).2.1
 ·intro x hx hy
  obtain ⟨n1, n2⟩ := List.nodup_cons.1 hnd
  obtain ⟨n3, n4, n5⟩ := List.nodup_append.1 n2
  obtain ⟨n6, n7, n8⟩ := List.nodup_append.1 n3
  simp at hx
  rcases hx with rfl | hx | hx
  ·exact n1 (by simp [hy])
  ·exact n8 x hx x hy rfl
  ·exact n5 x (by simp [hy]) x hx rfl
theorem Le.ownBack0 {t id : Nat} {v : Value} {x : T} (h1 : look s.fr t = .t (.v v)) (h2 : lookM s.M id = some (.rawV [v] [x])) : Le c s ⟨(t, .own x) :: s.fr, (id, .rawV [] []) :: s.M⟩ := by
 classical
 rintro a w ⟨F, β, fb, mb, ow, hi⟩
 have hr := hi.fr t
 rw [h1] at hr
 have e1 := relD_t hr
 have hm := hi.mem id
 rw [h2] at hm
 have hO : OwnL w [v] [x] (mb id) := hm
 have ho : ∀ b, b ∈ mb id → ow b = some (.inr id) := fun b h => hi.omem id b h
 have hfb : fb t = [] := hr.free1 rfl
 refine ⟨F, β, fun y => if y = t then mb id else fb y, fun i => if i = id then [] else mb i, fun b => if b ∈ mb id then some (.inl t) else ow b, ?_⟩
 exact { hi with
  fr := fun y => by
   simp only [look]
   by_cases h : t = y
   ·subst h
    rw [if_pos rfl, if_pos rfl, e1]
    simpa using RelD.own (F := F) (β := β) hO .done
   ·rw [if_neg h, if_neg (fun e => h e.symm)]
    exact hi.fr y
  mem := fun i => by
   simp only [lookM]
   by_cases h : i = id
   ·subst h; rw [if_pos rfl, if_pos rfl]; exact OwnL.nil
   ·rw [if_neg (fun e => h e.symm), if_neg h]; exact hi.mem i
  ofr := fun y b hb => by
   split at hb
   ·rename_i h; subst h; rw [if_pos hb]
   ·have h5 := hi.ofr y b hb
    rw [if_neg (fun h => by rw [ho b h] at h5; cases h5)]
    exact h5
  omem := fun i b hb => by
   split at hb
   ·cases hb
   ·rename_i hne
    have h5 := hi.omem i b hb
    rw [if_neg (fun h => by rw [ho b h] at h5; cases h5; exact hne rfl)]
    exact h5
  nfr := fun y => by
   split
   ·exact hi.nmem id
   ·exact hi.nfr y
  nmem := fun i => by
   split
   ·exact List.nodup_nil
   ·exact hi.nmem i
  own := fun b hb => by
   split at hb
   ·rename_i h; exact hi.own b (by rw [ho b h]; simp)
   ·exact hi.own b hb }
theorem QH_loadBack {Q : St → List Dl → Prop} {acc : List Dl} {b : List Nat} {bs : List (List Nat)} {Γ : Tys} (hΓ : Γ.ok P) {ty t id i off n : Nat} {x : Operand} {ti : TI} {xs : List T} {z y : T} {v : Value} (idq : Nat) (hg : o.guard = none) (hd : o.dst = some t) (ht : t < c.n) (ho : o.op = .load ty x)
  (h1 : tyOf Γ ty = some ti) (hx : opd s.fr x = .ref id i off) (hM : lookM (dropB b s.M) id = some (.L n xs)) (hz : xs[i]? = some z) (hp : partD ti.kind ti.size (z.cells.map scal) off = some (.t (.v v))) (hq : lookM (dropB b s.M) idq = some (.rawV [v] [y]))
  (k : QH P c ops bs rest ⟨(t, .own y) :: s.fr, (idq, .rawV [] []) :: s.M⟩ (acc ++ [⟨t, .own y, [], [(idq, .rawV [] [])], false⟩]) Q) : QH P c ops (b :: bs) (o :: rest) s acc Q :=
 ⟨⟨t, .own y, [], [(idq, .rawV [] [])], false⟩, fun s' ha _ Q h => by
  refine WO_loadL hΓ hg hd ht ho h1 (by rw [ha.opd (by rw [ho]; simp [Op.operands])]; exact hx) (ha.1 _ _ hM) hz hp ?_
  have h3 : Le c ⟨(t, .own y) :: (t, .t (.v v)) :: s'.fr, (idq, .rawV [] []) :: s'.M⟩ ⟨(t, .own y) :: s'.fr, (idq, .rawV [] []) :: s'.M⟩ := Le.of (fun u => .inl (by
   show (if t = u then D.own y else look s'.fr u) = if t = u then D.own y else if t = u then _ else look s'.fr u
   split <;> rfl)) (fun u => .inl rfl)
  have h2 : Le c ⟨(t, .t (.v v)) :: s'.fr, s'.M⟩ ⟨(t, .own y) :: (t, .t (.v v)) :: s'.fr, (idq, .rawV [] []) :: s'.M⟩ := Le.ownBack0 (t := t) (id := idq) (v := v) (by show (if t = t then _ else _) = _; rw [if_pos rfl]) (ha.1 _ _ hq)
  exact WO_le (h2.trans h3) h, k⟩
theorem Le.putBack {id idq n i off : Nat} {xs : List T} {z : T} {u : Value} {y : T} (z' : T) (hM : lookM s.M id = some (.L n xs)) (h2 : lookM s.M idq = some (.rawV [u] [y])) (hz : xs[i]? = some z) (hc : z.cells[off]? = some (.v u)) (hz' : z'.cells = z.cells.set off y) (hne' : (id == idq) = false) :
  Le c s ⟨s.fr, (id, .L n (xs.set i z')) :: dropM (some idq) s.M⟩ := by
 have hne : ¬ id = idq := by simpa using hne'
 rintro a w ⟨F, β, fb, mb, ow, hi⟩
 have hmm := hi.mem id
 rw [hM] at hmm
 have hm2 := hi.mem idq
 rw [h2] at hm2
 have hO : OwnL w [u] [y] (mb idq) := hm2
 have hil := (List.getElem?_eq_some_iff.1 hz).1
 rcases hmm with ⟨r1, r2, r3⟩ | ⟨b0, cap0, arr, e', bs', r1, r3, r4, r5, r6, r7, r8, r9⟩
 ·subst r2; simp at hil
 have hzl := r5 z (List.mem_of_getElem? hz)
 have hoff := (List.getElem?_eq_some_iff.1 hc).1
 have hat : (xs.flatMap T.cells)[i * n + off]? = some (.v u) := by
  rw [flat_atc r5 hz (by omega)]; exact hc
 obtain ⟨u', hu, huone⟩ := r8.get? hat
 obtain ⟨c1, c2, c3, e1, g1, g2⟩ := OwnL.at (i * n + off) r8 hu hat
 have hu2 : u' = u ∧ c2 = [] := by
  cases g1 with
  | v q1 q2 => cases q2; exact ⟨rfl, rfl⟩
 obtain ⟨rfl, rfl⟩ := hu2
 have hnew := g2 w y (mb idq) (fun _ _ => rfl) hO
 have hset : (xs.flatMap T.cells).set (i * n + off) y = (xs.set i z').flatMap T.cells := flat_setc r5 hz (by omega) hz'
 rw [hset] at hnew
 have hnd := hi.nmem id
 rw [r9, e1] at hnd
 have hnd2 := hi.nmem idq
 simp only [List.append_nil] at hnd
 have hdrop : lookM ((id, Blk.L n (xs.set i z')) :: dropM (some idq) s.M) idq = none := by
  simp only [lookM]; rw [if_neg hne, lookM_dropped]
 have hd : ∀ x, x ∈ mb idq → x ∉ b0 :: (c1 ++ c3) := fun x hx hy => hi.dis hne (b := x) (by rw [r9, e1]; simpa using hy) hx
 refine hi.re2 hne (mp := b0 :: (c1 ++ mb idq ++ c3)) (mq := []) (fun i h1 h3 => .inl (by
  simp only [lookM]; rw [if_neg (fun e => h1 e.symm), lookM_drop h3])) ?_ ?_ (fun x h => ?_) (by simp) ?_ (by simp) (by simp)
 ·simp only [lookM, if_true]
  refine .inr ⟨b0, cap0, arr, e', c1 ++ mb idq ++ c3, r1, r3, r4, fun x hx => ?_, by simpa using r6, r7, by rw [List.length_set]; exact hnew, rfl⟩
  rcases List.mem_or_eq_of_mem_set hx with hx | rfl
  ·exact r5 x hx
  ·rw [hz', List.length_set]; exact hzl
 ·rw [hdrop]
 ·rcases List.mem_cons.1 h with rfl | h
  ·exact .inl (by rw [r9]; simp)
  ·rcases List.mem_append.1 h with h | h
   ·rcases List.mem_append.1 h with h | h
    ·exact .inl (by rw [r9, e1]; simp [h])
    ·exact .inr h
   ·exact .inl (by rw [r9, e1]; simp [h])
 ·obtain ⟨n1, n2⟩ := List.nodup_cons.1 hnd
  obtain ⟨n3, n4, n5⟩ := List.nodup_append.1 n2
  refine List.nodup_cons.2 ⟨fun h => ?_, ?_⟩
  ·rcases List.mem_append.1 h with h | h
   ·rcases List.mem_append.1 h with h | h
    ·exact n1 (by simp [h])
    ·exact hd _ h (by simp)
   ·exact n1 (by simp [h])
  ·refine List.nodup_append.2 ⟨List.nodup_append.2 ⟨n3, hnd2, fun x hx y hy e => ?_⟩, n4, fun x hx y hy e => ?_⟩
   ·subst e; exact hd x hy (by simp [hx])
   ·subst e
    rcases List.mem_append.1 hx with hx | hx
    ·exact n5 x hx x hy rfl
    ·exact hd x hx (by simp [hy])
theorem Le.sameL {id n : Nat} {xs ys : List T} (hM : lookM s.M id = some (.L n xs)) (h : ys.flatMap T.cells = xs.flatMap T.cells) (hl : ys.length = xs.length) (hn : ∀ y, y ∈ ys → (T.cells y).length = n) : Le c s ⟨s.fr, (id, .L n ys) :: s.M⟩ := by
 rintro a w ⟨F, β, fb, mb, ow, hi⟩
 refine ⟨F, β, fb, mb, ow, { hi with mem := fun i => ?_ }⟩
 show match (if id = i then _ else _) with | some k => RelB w F β i k (mb i) | none => mb i = []
 by_cases hid : id = i
 ·subst hid
  rw [if_pos rfl]
  have hm := hi.mem id
  rw [hM] at hm
  rcases hm with ⟨r1, r2, r3⟩ | ⟨b, cap, arr, e', bs', r1, r3, r4, r5, r6, r7, r8, r9⟩
  ·subst r2
   exact .inl ⟨r1, List.eq_nil_of_length_eq_zero (by simpa using hl), r3⟩
  ·exact .inr ⟨b, cap, arr, e', bs', r1, r3, r4, hn, by rw [hl]; exact r6, r7, by rw [hl, h]; exact r8, r9⟩
 ·rw [if_neg hid]; exact hi.mem i
theorem W_WO {code : Code} (h : WO P c #[] [] s (fun _ s' => W P c code s' Q)) : W P c code s Q := fun a w hi => by
 obtain ⟨s', h1, h2⟩ := h a w hi
 exact h2 a w h1
theorem Le.freezeB {u : Nat} {cells : List D} {ts : List T} (hM : lookM s.M u = some (.box cells)) (h : frzL cells = some ts) : Le c s ⟨s.fr, (u, .box (ts.map D.t)) :: s.M⟩ := by
 classical
 rintro a w ⟨F, β, fb, mb, ow, hi⟩
 have hm := hi.mem u
 rw [hM] at hm
 obtain ⟨b, arr, e, bs, h1, h2, h3, h4, h5⟩ := hm
 have hnd := hi.nmem u
 rw [h5] at hnd
 obtain ⟨n1, n2⟩ := List.nodup_cons.1 hnd
 have hrel := frzL_rel h3 h h4
 have hlen : (ts.map D.t).length = cells.length := by rw [List.length_map, ← hrel.length, h3.length]
 have hbs : ∀ b', b' ∈ bs → ow b' = some (.inr u) := fun b' hb => hi.omem u b' (by rw [h5]; simp [hb])
 refine ⟨fun b' => F b' ∨ b' ∈ bs, β, fb, fun i => if u = i then [b] else mb i, fun b' => if b' ∈ bs then none else ow b', ?_⟩
 exact { hi with
  fr := fun v => (hi.fr v).mono (w := w) (w' := w) (fun _ h => .inl h) (fun _ _ => rfl) (fun _ _ => rfl) fun _ => rfl
  mem := fun id => by
   simp only [lookM]
   by_cases hid : u = id
   ·subst hid
    rw [if_pos rfl, if_pos rfl]
    refine ⟨b, arr, e, [], by rw [hlen]; exact h1, h2, ?_, h4, rfl⟩
    have key : ∀ {vs : List Value} {ts : List T}, RelL w (fun b' => F b' ∨ b' ∈ bs) vs ts → vs.all (·.oneCell') = true → RelD w (fun b' => F b' ∨ b' ∈ bs) β vs (ts.map D.t) [] := by
     intro vs
     induction vs with
     | nil => intro ts h _; cases ts with | nil => exact .done | cons _ _ => cases h
     | cons v vs ih =>
      intro ts h ho
      cases ts with
      | nil => cases h
      | cons t ts =>
       obtain ⟨g1, g2⟩ := h.cons
       rw [List.all_cons, Bool.and_eq_true] at ho
       exact .t g1 (ih g2 ho.2)
    exact key hrel h4
   ·rw [if_neg hid, if_neg hid]
    have := hi.mem id
    cases hM' : lookM s.M id with
    | none => rw [hM'] at this; exact this
    | some k => rw [hM'] at this; exact relB_wider this (fun _ h => .inl h)
  ofr := fun v b' hb => by
   have h6 := hi.ofr v b' hb
   rw [if_neg (fun h => by rw [hbs b' h] at h6; cases h6)]
   exact h6
  omem := fun id b' hb => by
   by_cases hid : u = id
   ·subst hid
    rw [if_pos rfl, List.mem_singleton] at hb
    subst hb
    rw [if_neg n1]
    exact hi.omem u b' (by rw [h5]; simp)
   ·rw [if_neg hid] at hb
    have h6 := hi.omem id b' hb
    rw [if_neg (fun h => by rw [hbs b' h] at h6; cases h6; exact hid rfl)]
    exact h6
  nmem := fun id => by
   by_cases hid : u = id
   ·rw [if_pos hid]; simp
   ·rw [if_neg hid]; exact hi.nmem id
  own := fun b' hb => by
   split at hb
   ·exact absurd rfl hb
   ·rename_i hn
    obtain ⟨q1, q2, q3⟩ := hi.own b' hb
    exact ⟨fun h => h.elim q1 hn, q2, q3⟩
  fin := fun b' hb => hb.elim (hi.fin b') fun h => (hi.own b' (by rw [hbs b' h]; simp)).2.1
  f0 := fun b' hb => .inl (hi.f0 b' hb)
  fnew := fun b' hb => hb.elim (hi.fnew b') fun h => .inr (hi.own b' (by rw [hbs b' h]; simp)).2.2 }
theorem relL_drop {w : World} {F : Nat → Prop} : ∀ {vs : List Value} {ts : List T} (k : Nat), RelL w F vs ts → RelL w F (vs.drop k) (ts.drop k)
 | [], [], k, h => by rw [List.drop_nil, List.drop_nil]; exact .nil
 | [], _ :: _, _, h => by cases h
 | _ :: _, [], _, h => by cases h
 | _ :: _, _ :: _, 0, h => h
 | _ :: _, _ :: _, k + 1, h => relL_drop k h.cons.2
theorem ViewL.rawP {id b sz off n : Nat} {ws : List Value} {ts : List T} (x : T) (hM : lookM s.M id = some (.raw b sz ws ts)) (hr : ∀ {w : World} {F : Nat → Prop} {vs}, RelL w F vs ((ts.drop off).take n) → RelL w F vs (T.cells x)) :
  ViewL c s [.t (.v (.pointer (some ⟨b, off, none⟩)))] [.rp x 0] := fun {a w F β fb mb ow} hi vs bs hrd hb => by
 have hm := hi.mem id
 rw [hM] at hm
 obtain ⟨arr, e, bs', h1, h2, h3, h4, h5⟩ := hm
 have hrel := h4.rel (F := fun b => b < w.heap.size) fun b' hb' => (hi.own b' (by rw [hi.omem id b' (by rw [h5]; simp [hb'])]; simp)).2.1
 cases hrd with
 | t q1 q2 =>
  have e1 := relL_one q1
  subst e1
  cases q2
  refine RelD.rp (F := fun b => b < w.heap.size) (o := off) (off := 0) (cs := (ws.drop off).take n) (hi.own b (by rw [hi.omem id b (by rw [h5]; simp)]; simp)).2.1 h1 (fun k hk => ?_) (hr (w := w) (F := fun b => b < w.heap.size) ((relL_drop off hrel).take n)) .done
  simp only [List.length_take, List.length_drop] at hk
  rw [List.getElem?_take, if_pos (by omega), List.getElem?_drop, ← h3, List.getElem?_take, if_pos (by omega)]
  simp
end
end Go.Eng
end
section
/- Calls of readers on own memory; what is told, read by what is known of it. -/
namespace Go.Eng
open Go.RowKit
section
variable {P : Program} {c : Ctx} {s : St} {Q : Exit → St → Prop} {ops : Array Oper} {rest : List Oper} {o : Oper} {M0 : List (Nat × Blk)} {acc : List Dl}
theorem WO_callV {t : Nat} {fo : Operand} {args : Array Operand} {tys : Array TypeId} {f : FuncId} {caps es : List D} {r : D} (hg : o.guard = none) (hd : o.dst = some t) (ht : t < c.n)
  (ho : o.op = .call { callee := .value fo, args := args, argTypes := tys }) (hf : opd s.fr fo = .clo f caps) (hes : ViewL c s (args.toList.map (opd s.fr) ++ caps) es) (hc : Fun P f es r) (hn : r.noImm = true)
  (k : WO P c ops rest ⟨(t, r) :: s.fr, s.M⟩ Q) : WO P c ops (o :: rest) s Q := by
 rintro a w ⟨F, β, fb, mb, ow, hi⟩
 obtain ⟨bf, hrf, h1⟩ := hi.opd fo
 rw [hf] at hrf
 obtain ⟨arr, bs', hv, hr1, rfl⟩ := relD_append' hrf
 obtain ⟨bs, hr2, h2⟩ := relD_ops hi args.toList
 have hall := hr2.append hr1
 have hsound := hes hi hall fun b hb => by
  rcases List.mem_append.1 hb with hb | hb
  ·exact h2 b hb
  ·rcases h1 with rfl | ⟨u, _, rfl⟩
   ·cases hb
   ·exact (hi.own b (by rw [hi.ofr u b hb]; simp)).2.1
 have hrun : (execOp a.eval o).run P w = .ok (.enter f (args.map a.eval ++ arr)) w := by
  simp [execOp, ho, resolve, hv, Deferred.ofValue, invoke, run_callFunc hc.1]
 refine wpList_plain hg fun K hK => ?_
 unfold Oper.wp
 rw [hrun, Oper.upon_enter]
 refine (hc.2 w (fun b => b < w.heap.size) (args.map a.eval ++ arr) (fun b h => h) (by simpa using hsound)).mono ?_
 rintro e w' ⟨v, F', bs2, rfl, hb, _, _, hr, hnd, hbs⟩
 dsimp only
 rw [hd]
 refine hK _ _ (k _ _ ⟨F, β, _, mb, _, hi.called ht hb (fun _ h => h) (fun _ h => .inl h) (hr.noImm (by simp [D.noImm.noImmL, hn])) hnd fun b h => ?_⟩)
 obtain ⟨h3, h4, h5⟩ := hbs b h
 exact ⟨h3, h4, fun h6 => by have := hi.fin b h6; omega⟩
theorem QG_callV {Q : St → List Dl → Prop} {t : Nat} {fo : Operand} {args : Array Operand} {tys : Array TypeId} {f : FuncId} {caps es : List D} {r : D} (hg : o.guard = none) (hd : o.dst = some t) (ht : t < c.n)
  (ho : o.op = .call { callee := .value fo, args := args, argTypes := tys }) (hf : opd s.fr fo = .clo f caps) (hes : ∀ s' : St, (∀ id k, lookM M0 id = some k → lookM s'.M id = some k) → ViewL c s' (args.toList.map (opd s.fr) ++ caps) es) (hc : Fun P f es r) (hn : r.noImm = true)
  (k : QG P c ops M0 rest ⟨(t, r) :: s.fr, s.M⟩ (acc ++ [pl t r]) Q) : QG P c ops M0 (o :: rest) s acc Q :=
 ⟨pl t r, hd, fun s' ha _ Q h => by
  have e1 : opd s'.fr fo = opd s.fr fo := ha.opd (by rw [ho]; simp [Op.operands, Call.operands])
  have e2 : args.toList.map (opd s'.fr) = args.toList.map (opd s.fr) := ha.opds fun x hx => by
   rw [ho]
   simp only [Op.operands, Call.operands, Array.mem_append]
   exact .inr (by simpa using hx)
  exact WO_callV hg hd ht ho (by rw [e1]; exact hf) (by rw [e2]; exact hes s' ha.1) hc hn h, k⟩
theorem Conc.raws {a : Act} {w : World} {F β fb mb ow} (hi : Conc c s a w F β fb mb ow) {id : Nat} {vs : List Value} {ts : List T} (hM : lookM s.M id = some (.rawV vs ts)) : RelL w (fun b => b < w.heap.size) vs ts := by
 have hm := hi.mem id
 rw [hM] at hm
 exact OwnL.rel hm fun b' hb' => (hi.own b' (by rw [hi.omem id b' hb']; simp)).2.1
theorem Conc.ros {a : Act} {w : World} {F β fb mb ow} (hi : Conc c s a w F β fb mb ow) {id : Nat} {vs : List Value} {ts : List T} (hM : lookM s.M id = some (.ro vs ts)) : RelL w (fun b => b < w.heap.size) vs ts := by
 have hm := hi.mem id
 rw [hM] at hm
 exact hm.1.mono (fun b hb => hi.fin b hb) fun _ _ => rfl
theorem ViewL.told5 {i0 i1 i2 i3 i4 idr : Nat} {v0 v1 v2 v3 v4 : Value} {x0 x1 x2 x3 x4 : T} {ws : List Value} {us ts' : List T} (h0 : lookM s.M i0 = some (.rawV [v0] [x0])) (h1 : lookM s.M i1 = some (.rawV [v1] [x1])) (h2 : lookM s.M i2 = some (.rawV [v2] [x2])) (h3 : lookM s.M i3 = some (.rawV [v3] [x3])) (h4 : lookM s.M i4 = some (.rawV [v4] [x4]))
  (hr : lookM s.M idr = some (.ro ws us)) (h : ∀ {w : World} {F : Nat → Prop}, RelL w F [v0, v1, v2, v3, v4] [x0, x1, x2, x3, x4] → RelL w F ws us → RelL w F [v0, v1, v2, v3, v4] ts') :
  ViewL c s [.agg [.t (.v v0), .t (.v v1), .t (.v v2), .t (.v v3), .t (.v v4)]] [.t (.agg ts')] := fun {a w F β fb mb ow} hi zs bs hrd hb => by
 have g := h (RelL.cons' (hi.raws h0) (RelL.cons' (hi.raws h1) (RelL.cons' (hi.raws h2) (RelL.cons' (hi.raws h3) (hi.raws h4))))) (hi.ros hr)
 cases hrd with
 | agg q0 q1 q2 =>
  cases q2
  have key : ∀ {xs vs : List Value} {bs}, RelD w F β xs (vs.map fun u => D.t (.v u)) bs → xs = vs := by
   intro xs vs
   induction vs generalizing xs with
   | nil => intro bs h; cases h; rfl
   | cons v vs ih =>
    intro bs h
    cases xs with
    | nil => cases h
    | cons x xs =>
     obtain ⟨b1, b2, g1, g2, _⟩ := h.cons
     rw [ih g2]
     cases g1 with
     | t p1 p2 => rw [relL_one p1]
  exact .tagg (by rw [key (vs := [v0, v1, v2, v3, v4]) q1]; exact g) .done
theorem relL_told {w : World} {F : Nat → Prop} : ∀ {zs vs : List Value}, RelL w F vs (zs.map T.v) → vs = zs
 | [], vs, h => by cases h; rfl
 | z :: zs, vs, h => by
  cases vs with
  | nil => cases h
  | cons v vs =>
   obtain ⟨h1, h2⟩ := h.cons
   rw [relL_told h2, relL_one h1]
theorem ViewL.told1 {id idr : Nat} {v : Value} {ws : List Value} {x y : T} {us : List T} (hM : lookM s.M id = some (.rawV [v] [x])) (hr : lookM s.M idr = some (.ro ws us)) (h : ∀ {w : World} {F : Nat → Prop}, RelL w F [v] [x] → RelL w F ws us → RelL w F [v] [y]) :
  ViewL c s [.t (.v v)] [.t y] := fun {a w F β fb mb ow} hi zs bs hrd hb => by
 have h1 := h (hi.raws hM) (hi.ros hr)
 cases hrd with
 | t q1 q2 =>
  cases q2
  rw [relL_one q1]
  exact .t h1 .done
theorem W_convB {code : Code} {u j idr : Nat} {x : T} {ws : List Value} {us : List T} {cells : List D} (y : T) (hM : lookM s.M u = some (.box cells)) (hj : cells[j]? = some (.t x)) (hr : lookM s.M idr = some (.ro ws us)) (h : ∀ {w : World} {F : Nat → Prop} {v}, RelL w F [v] [x] → RelL w F ws us → RelL w F [v] [y])
  (k : W P c code ⟨s.fr, (u, .box (cells.set j (.t y))) :: s.M⟩ Q) : W P c code s Q := by
 rintro a w ⟨F, β, fb, mb, ow, hi⟩
 have hm := hi.mem u
 rw [hM] at hm
 obtain ⟨b, arr, e, bs, h1, h2, h3, h4, h5⟩ := hm
 have hro := hi.mem idr
 rw [hr] at hro
 have key : ∀ {vs : List Value} {ds : List D} {bs : List Nat} {j : Nat}, RelD w F β vs ds bs → vs.all (·.oneCell') = true → ds[j]? = some (.t x) → RelD w F β vs (ds.set j (.t y)) bs := by
  intro vs
  induction vs with
  | nil =>
   intro ds bs j hr _ hj
   have := hr.length
   cases ds with
   | nil => simp at hj
   | cons _ _ => simp at this
  | cons v vs ih =>
   intro ds bs j hr ho hj
   cases ds with
   | nil => simp at hj
   | cons d ds =>
    obtain ⟨b1, b2, g1, g2, rfl⟩ := hr.cons
    rw [List.all_cons, Bool.and_eq_true] at ho
    cases j with
    | zero =>
     simp at hj
     subst hj
     cases g1 with
     | t q1 q2 =>
      cases q2
      exact RelD.cons' (.t (h q1 hro.1) .done) g2
     | tagg q1 q2 => simp [Value.oneCell'] at ho
    | succ j => exact RelD.cons' g1 (ih g2 ho.2 (by simpa using hj))
 refine k a w ⟨F, β, fb, mb, ow, { hi with mem := fun i => ?_ }⟩
 simp only [lookM]
 by_cases hid : u = i
 ·subst hid
  rw [if_pos rfl]
  exact ⟨b, arr, e, bs, by rw [List.length_set]; exact h1, h2, key h3 h4 hj, h4, h5⟩
 ·rw [if_neg hid]; exact hi.mem i
theorem W_tellS {code : Code} {t n : Nat} {xs : List T} (idr : Nat) (h1 : look s.fr t = .t (.list n xs)) (hn : lookM s.M idr = none) (k : ∀ (ad : Option Addr) (cap : Nat), W P c code ⟨(t, .t (.v (.slice ad xs.length cap))) :: s.fr, (idr, .ro [.slice ad xs.length cap] [.list n xs]) :: s.M⟩ Q) : W P c code s Q := by
 rintro a w ⟨F, β, fb, mb, ow, hi⟩
 have hr := hi.fr t
 rw [h1] at hr
 have hfb : fb t = [] := hr.free1 rfl
 have hm := hi.mem idr
 rw [hn] at hm
 obtain ⟨v, hv⟩ : ∃ v, v = a.tmps.getD t undef := ⟨_, rfl⟩
 rw [← hv] at hr
 have hrel : RelL w F [v] [.list n xs] := by
  cases hr with
  | t q1 q2 => exact q1
 obtain ⟨ad, cap, rfl⟩ : ∃ ad cap, v = .slice ad xs.length cap := by
  cases hrel with
  | none _ => exact ⟨_, _, rfl⟩
  | list _ _ _ _ _ _ _ => exact ⟨_, _, rfl⟩
 refine k ad cap a w ⟨F, β, fb, mb, ow, { hi with fr := fun y => ?_, mem := fun i => ?_ }⟩
 ·simp only [look]
  split
  ·rename_i e
   subst e
   rw [← hv, hfb]
   exact .t (.v rfl .nil) .done
  ·exact hi.fr y
 ·simp only [lookM]
  by_cases hid : idr = i
  ·subst hid
   rw [if_pos rfl]
   exact ⟨hrel, hm⟩
  ·rw [if_neg hid]; exact hi.mem i
theorem QG_rem {Q : St → List Dl → Prop} {t ty ty' : Nat} {x y : Operand} {a b : Int} (hg : o.guard = none) (hd : o.dst = some t) (ht : t < c.n) (ho : o.op = .binOp .rem ty x y ty') (hx : opd s.fr x = .t (.v (.int .i64 a))) (hy : opd s.fr y = .t (.v (.int .i64 b)))
  (hb : b ≠ 0) (kk : QG P c ops M0 rest ⟨(t, .t (.v (.int .i64 (a.tmod b)))) :: s.fr, s.M⟩ (acc ++ [pl t (.t (.v (.int .i64 (a.tmod b))))]) Q) : QG P c ops M0 (o :: rest) s acc Q :=
 ⟨pl t _, hd, fun s' ha _ Q h => WO_rem hg hd ht ho (by rw [ha.opd (by rw [ho]; simp [Op.operands])]; exact hx) (by rw [ha.opd (by rw [ho]; simp [Op.operands])]; exact hy) hb h, kk⟩
end
end Go.Eng
end
section
/- Arithmetic of words of any width. -/
namespace Go.Eng
open Go.RowKit
section
variable {P : Program} {c : Ctx} {s : St} {Q : Exit → St → Prop} {ops : Array Oper} {rest : List Oper} {o : Oper}
def BinIs (P : Program) (op : BinOp) (u1 u2 v : Value) : Prop := ∀ (ty : Nat) (ox oy : Operand) (w : World), ((do eqGuard op ty ox oy u1 u2; binOp op ty u1 u2 : Sem Value)).run P w = .ok v w
theorem WO_binW {t ty ty' : Nat} {op : BinOp} {x y : Operand} {u1 u2 v : Value} (hg : o.guard = none) (hd : o.dst = some t) (ht : t < c.n) (ho : o.op = .binOp op ty x y ty') (hx : opd s.fr x = .t (.v u1)) (hy : opd s.fr y = .t (.v u2)) (hv : BinIs P op u1 u2 v) (hone : v.oneCell' = true)
  (kk : WO P c ops rest ⟨(t, .t (.v v)) :: s.fr, s.M⟩ Q) : WO P c ops (o :: rest) s Q := by
 refine WO_val hg hd ht _ (fun a' w F β fb mb ow hi => ?_) kk
 refine ⟨v, ?_, .t (.v hone .nil) .done⟩
 have e1 := eval_v hi hx
 have e2 := eval_v hi hy
 simp only [execOp, ho, e1, e2]
 have := hv ty x y w
 simp only [Sem.run_bind] at this ⊢
 revert this
 cases h : (eqGuard op ty x y u1 u2).run P w <;> simp_all [Result.andThen]
theorem binAdd {k : IntKind} {a b : Int} : BinIs P .add (.int k a) (.int k b) (.int k (k.wrap (a + b))) := fun ty ox oy w => by
 simp [eqGuard, binOp, Op.intArith]
theorem binMul {k : IntKind} {a b : Int} : BinIs P .mul (.int k a) (.int k b) (.int k (k.wrap (a * b))) := fun ty ox oy w => by
 simp [eqGuard, binOp, Op.intArith]
theorem binShr {k k2 : IntKind} {a b : Int} (hb : ¬ b < 0) : BinIs P .shr (.int k a) (.int k2 b) (.int k (a.fdiv (2 ^ min b.toNat k.bits))) := fun ty ox oy w => by
 simp [eqGuard, binOp, Op.shift, hb]
theorem binAnd {k : IntKind} {a b : Int} : BinIs P .and (.int k a) (.int k b) (.int k (k.wrap ((BitVec.ofInt k.bits a &&& BitVec.ofInt k.bits b).toNat : Nat))) := fun ty ox oy w => by
 simp [eqGuard, binOp, Op.intBits]
theorem WO_convId {src dst t : Nat} {x : Operand} {td : TypeDesc} {k k0 : IntKind} {n m : Int} (hg : o.guard = none) (hd : o.dst = some t) (ht : t < c.n) (ho : o.op = .convert src dst x)
  (h1 : P.underlying src = some td) (h2 : P.underlying dst = some (.int k)) (hx : opd s.fr x = .t (.v (.int k0 n))) (hw : k.wrap n = m)
  (kk : WO P c ops rest ⟨(t, .t (.v (.int k m))) :: s.fr, s.M⟩ Q) : WO P c ops (o :: rest) s Q := by
 subst hw; exact WO_conv hg hd ht ho h1 h2 hx kk
theorem QL_convId {Q : St → Prop} {src dst t : Nat} {x : Operand} {td : TypeDesc} {k k0 : IntKind} {n m : Int} (hg : o.guard = none) (hd : o.dst = some t) (ht : t < c.n) (ho : o.op = .convert src dst x)
  (h1 : P.underlying src = some td) (h2 : P.underlying dst = some (.int k)) (hx : opd s.fr x = .t (.v (.int k0 n))) (hw : k.wrap n = m)
  (kk : QL P c ops rest ⟨(t, .t (.v (.int k m))) :: s.fr, s.M⟩ Q) : QL P c ops (o :: rest) s Q :=
 ⟨t, _, hd, fun s' ha Q h => WO_convId hg hd ht ho h1 h2 (by rw [ha.opd (by rw [ho]; simp [Op.operands])]; exact hx) hw h, kk⟩
end
end Go.Eng
end
section
/- Regions of open order that write, with a tail in order. -/
namespace Go.Eng
open Go.RowKit
section
variable {P : Program} {c : Ctx} {s : St} {Q : Exit → St → Prop}
theorem WR_Ht {l1 l2 : List Oper} {ops : Array Oper} (bads : List (List Nat)) (he : ops = (l1 ++ l2).toArray) (hB : orderT ops l1.length = true) (hT : l2 = [] ∨ tailT ops l1.length = true)
  (h : QH P c ops bads l1 s [] (fun s' xs => chkH ops l1 s xs bads = true ∧ WO P c ops l2 s' Q)) : WR P c ops s Q := by
 obtain ⟨xs, hlen, ⟨hchk, hend⟩, hstep⟩ := h.steps
 simp only [List.nil_append] at hchk
 have hops : ∀ j : Nat, j < l1.length → l1[j]? = ops[j]? := fun j hj => by subst he; rw [List.getElem?_toArray, List.getElem?_append_left hj]
 have hsz : l1.length ≤ ops.size := by subst he; simp
 refine WR_S he hB hT (fun X => mrg xs X s l1.length) (fun X hX => ?_) (fun X i o ho hXi hcl hdep => ?_) (fun X hX => ?_)
 ·rw [mrg_stop (i := 0) (Nat.zero_le _) fun j _ => hX j]
  exact Le.refl
 ·have hil : i < l1.length := (List.getElem?_eq_some_iff.1 ho).1
  obtain ⟨x, hx, hst⟩ := hstep i o ho
  have hoi : ops[i]? = some o := by rw [← hops i hil]; exact ho
  have hlt : ∀ k ok, ops[k]? = some ok → ∀ e, e ∈ ok.after → Region.binds .any e = true → e.on < k := fun k ok hk => orderT_lt hB hk
  have hcl' : ∀ j oj, ops[j]? = some oj → j < l1.length → X j = true → ∀ e, e ∈ oj.after → Region.binds .any e = true → X e.on = true := fun j oj hj hjl hXj => hcl j oj (by rw [hops j hjl]; exact hj) hXj
  -- what is done, and what is not
  have after : ∀ j, rch (ancs ops l1.length) i j = true → X j = true := fun j hr => (rch_done hlt (by omega) hcl' i hil j hr fun oi h' => by rw [hoi] at h'; cases h'; exact hdep).1
  have before : ∀ j, j < l1.length → rch (ancs ops l1.length) j i = true → X j = false := fun j hj hr => by
   cases hXj : X j with
   | false => rfl
   | true =>
    have := (rch_done hlt (by omega) hcl' j hj i hr fun oj h' e he hb => hcl' j oj h' hj hXj e he hb).1
    rw [hXi] at this; cases this
  have hxat : ∀ {j : Nat}, j < l1.length → ∃ oj y, l1[j]? = some oj ∧ xs[j]? = some y := fun {j} hj => by
   have hlj : l1[j]? = some l1[j] := List.getElem?_eq_getElem hj
   obtain ⟨y, hy, _⟩ := hstep j _ hlj
   exact ⟨_, y, hlj, hy⟩
  have apart : ∀ {j : Nat} {y : Dl}, j < l1.length → j ≠ i → xs[j]? = some y → X j ≠ decide (j < i) →
    (∀ u, y.ws.contains u = true → (o.looksAt ops).contains u = false ∧ x.ws.contains u = false) ∧ (∀ p, p ∈ y.M → (bads.getD i []).contains p.1 = true) ∧ (∀ p, p ∈ y.M → inF x.M p.1 = false) := fun {j y} hj hji hy hne => by
   obtain ⟨oj, y', hlj, hy'⟩ := hxat hj
   rw [hy] at hy'; cases hy'
   rcases Nat.lt_or_gt_of_ne hji with h' | h'
   ·have hp := chkH_pair hchk h' hlj ho hy hx
    have hnr : rch (ancs ops l1.length) i j = false := by
     cases hr : rch (ancs ops l1.length) i j with
     | false => rfl
     | true => exact absurd (by rw [after j hr]; simp [h']) hne
    unfold pairH at hp
    rw [hnr, Bool.false_or, Bool.and_eq_true] at hp
    have hd := hp.1
    unfold disB at hd
    simp only [Bool.and_eq_true, List.all_eq_true, Bool.not_eq_true'] at hd
    obtain ⟨d1, d2, d3, d4⟩ := hd
    refine ⟨fun u hu => ⟨d2 u (by simpa using hu), ?_⟩, fun p hp => d4 p hp, fun p hp => ?_⟩
    ·cases hxu : x.ws.contains u with
     | false => rfl
     | true =>
      have := (d1 u (by simpa using hxu)).2
      rw [hu] at this; cases this
    ·cases hin : inF x.M p.1 with
     | false => rfl
     | true =>
      unfold inF at hin
      rw [List.any_eq_true] at hin
      obtain ⟨q, hq1, hq2⟩ := hin
      have := (d3 q hq1).2
      have hin2 : inF y.M q.1 = true := by
       unfold inF
       rw [List.any_eq_true]
       exact ⟨p, hp, by rw [beq_iff_eq] at hq2 ⊢; exact hq2.symm⟩
      rw [hin2] at this; cases this
   ·have hp := chkH_pair hchk h' ho hlj hx hy
    have hnr : rch (ancs ops l1.length) j i = false := by
     cases hr : rch (ancs ops l1.length) j i with
     | false => rfl
     | true => exact absurd (by rw [before j hj hr]; simp; omega) hne
    unfold pairH at hp
    rw [hnr, Bool.false_or, Bool.and_eq_true] at hp
    have hd := hp.1
    unfold disB at hd
    simp only [Bool.and_eq_true, List.all_eq_true, Bool.not_eq_true'] at hd
    obtain ⟨d1, d2, d3, d4⟩ := hd
    exact ⟨fun u hu => d1 u (by simpa using hu), fun p hp => (d3 p hp).1, fun p hp => (d3 p hp).2⟩
  have hag : AgreeG ops o (onL (xs.take i) s).fr (dropB (bads.getD i []) (onL (xs.take i) s).M) (mrg xs X s l1.length) := by
   refine ⟨fun id k hk => ?_, fun u hu => ?_⟩
   ·obtain ⟨hb, hk⟩ := lookM_dropB hk
    rw [← mrg_all (X := fun j => decide (j < i)) (by omega) (fun j hj => by simpa using hj), ← mrg_stop (X := fun j => decide (j < i)) (i := i) (n := l1.length) (by omega) (fun j hj => by simpa using hj)] at hk
    rw [← hk]
    refine mrg_M fun j y hj hy hin => ?_
    by_cases hje : j = i
    ·subst hje; rw [hXi]; simp
    ·refine Classical.byContradiction fun hne => ?_
     have hap := (apart hj hje hy hne).2.1
     unfold inF at hin
     rw [List.any_eq_true] at hin
     obtain ⟨p, hp1, hp2⟩ := hin
     have := hap p hp1
     rw [show p.1 = id from by simpa using hp2, hb] at this
     cases this
   ·rw [← mrg_all (X := fun j => decide (j < i)) (by omega) (fun j hj => by simpa using hj), ← mrg_stop (X := fun j => decide (j < i)) (i := i) (n := l1.length) (by omega) (fun j hj => by simpa using hj)]
    refine mrg_fr fun j y hj hy hin => ?_
    by_cases hje : j = i
    ·subst hje; rw [hXi]; simp
    ·refine Classical.byContradiction fun hne => ?_
     have hap := ((apart hj hje hy hne).1 u (by rw [← inF_fr]; exact hin)).1
     rw [List.contains_eq_mem, decide_eq_false_iff_not] at hap
     exact hap hu
  have hcl2 : x.b = true → Cl x.t (mrg xs X s l1.length) := fun hb => by
   refine Cl.mrg ?_ fun j y hj hXj hy => ?_
   ·have := chkH_base hchk hx
    unfold baseH at this
    rw [hb] at this
    simp only [Bool.not_true, Bool.false_or, Bool.and_eq_true] at this
    exact ⟨clFr_look this.1, (clM_look this.2).1, (clM_look this.2).2⟩
   ·have hji : j ≠ i := fun e => by subst e; rw [hXi] at hXj; cases hXj
    obtain ⟨oj, y', hlj, hy'⟩ := hxat hj
    rw [hy] at hy'; cases hy'
    rcases Nat.lt_or_gt_of_ne hji with h' | h'
    ·have hp := chkH_pair hchk h' hlj ho hy hx
     unfold pairH at hp
     rw [hb] at hp
     simp only [Bool.not_true, Bool.false_or, Bool.and_eq_true] at hp
     exact hp.2.2
    ·have hp := chkH_pair hchk h' ho hlj hx hy
     have hnr : rch (ancs ops l1.length) j i = false := by
      cases hr : rch (ancs ops l1.length) j i with
      | false => rfl
      | true => rw [before j hj hr] at hXj; cases hXj
     unfold pairH at hp
     rw [hb, hnr] at hp
     simp only [Bool.not_true, Bool.false_or, Bool.and_eq_true] at hp
     exact hp.2.1
  have later : ∀ {j : Nat} {y : Dl}, j < l1.length → i < j → X j = true → xs[j]? = some y → (∀ u, y.ws.contains u = true → x.ws.contains u = false) ∧ ∀ p, p ∈ y.M → inF x.M p.1 = false := fun {j y} hj hij hXj hy => by
   have hap := apart hj (by omega) hy (by rw [hXj]; simp; omega)
   exact ⟨fun u hu => (hap.1 u hu).2, hap.2.2⟩
  intro Q' hQ
  refine hst _ hag hcl2 Q' (WO_le (Le.of (fun u => .inl ?_) (fun u => .inl ?_)) hQ)
  ·simp only [Dl.on, look_app]
   split
   ·rename_i hu
    refine mrg_add_fr hx hXi hu hil fun j y hj hij hXj hy => ?_
    cases hin : inF y.fr u with
    | false => rfl
    | true =>
     have := (later hj hij hXj hy).1 u (by rw [← inF_fr]; exact hin)
     rw [← inF_fr, hu] at this; cases this
   ·rename_i hu
    refine mrg_fr fun j y hj hy hin => ?_
    have : (j == i) = false := by
     rw [beq_eq_false_iff_ne]
     intro e; subst e; rw [hx] at hy; cases hy; exact hu hin
    rw [this, Bool.or_false]
  ·simp only [Dl.on, lookM_app]
   split
   ·rename_i hu
    refine mrg_add_M hx hXi hu hil fun j y hj hij hXj hy => ?_
    cases hin : inF y.M u with
    | false => rfl
    | true =>
     unfold inF at hin
     rw [List.any_eq_true] at hin
     obtain ⟨p, hp1, hp2⟩ := hin
     have := (later hj hij hXj hy).2 p hp1
     rw [show p.1 = u from by simpa using hp2, hu] at this
     cases this
   ·rename_i hu
    refine mrg_M fun j y hj hy hin => ?_
    have : (j == i) = false := by
     rw [beq_eq_false_iff_ne]
     intro e; subst e; rw [hx] at hy; cases hy; exact hu hin
    rw [this, Bool.or_false]
 ·rw [mrg_all (by omega) hX, List.take_of_length_le (by omega)]
  exact hend
theorem W_regionHm {id : Nat} {ops : Array Oper} (m : Nat) (bads : List (List Nat)) (hm : P.follows .mixedOrders = true) (hl : (ops.toList.take m).length = m) (hB : orderT ops m = true) (hT : tailT ops m = true)
  (h : QH P c ops bads (ops.toList.take m) s [] (fun s' xs => chkH ops (ops.toList.take m) s xs bads = true ∧ WO P c ops (ops.toList.drop m) s' Q)) : W P c (.region id ops true) s Q :=
 W_of_WR hm (WR_Ht (l1 := ops.toList.take m) (l2 := ops.toList.drop m) bads (by simp) (by rw [hl]; exact hB) (.inr (by rw [hl]; exact hT)) h)
end
end Go.Eng
end
