import Derived.Test.YtkllmdolplcklaaMd
import Derived.Laws.StructEq
import Derived.ChangeKeysEq
import Derived.Laws.IdiomStrings
import Derived.Laws.Strings2
import Derived.Stop.IfaceNil
import Derived.Test.YtkllmdolplcklaaMb
import Derived.OpenVars
import Derived.Handed
import Derived.HandedShaped
import Derived.Lib.LaidTab
import Derived.Lib.FrozenHead
import Derived.Shelf.Strings.BuilderK
import Derived.Lib.FrozenHead2
set_option linter.unusedVariables false
set_option linter.unusedSimpArgs false
section
/- What is known of values, put in order; memory that is not there. -/
namespace Go.Eng
open Go.RowKit
section
variable {P : Program} {c : Ctx} {s : St} {Q : Exit → St → Prop} {ops : Array Oper} {rest : List Oper} {o : Oper}
end
end Go.Eng
end
section
/- Structs whose fields are structs, put together out of their parts. -/
namespace Go.Eng
open Go.RowKit
section
variable {P : Program} {c : Ctx} {s : St} {Q : Exit → St → Prop} {ops : Array Oper} {rest : List Oper} {o : Oper}
end
section
variable {P : Program} {c : Ctx} {s : St} {M0 : List (Nat × Blk)} {acc : List Dl} {Q : St → List Dl → Prop} {ops : Array Oper} {rest : List Oper} {o : Oper}
end
end Go.Eng
end
section
/- Slices made of so many, copied into, named: of whole numbers. -/
namespace Go.Eng
open Go.RowKit
section
variable {P : Program} {c : Ctx} {s : St} {Q : Exit → St → Prop} {ops : Array Oper} {rest : List Oper} {o : Oper}
theorem Le.eqK {id : Nat} {k k' : Blk} (h1 : lookM s.M id = some k) (h : k = k') : Le c s ⟨s.fr, (id, k') :: s.M⟩ := by
 subst h;refine Le.of (fun t => .inl rfl) (fun i => .inl ?_);simp only [lookM];split
 ·rename_i e; subst e; exact h1.symm
 ·rfl
end
section
variable {P : Program} {c : Ctx} {s : St} {M0 : List (Nat × Blk)} {acc : List Dl} {Q : St → List Dl → Prop} {ops : Array Oper} {rest : List Oper} {o : Oper}
end
end Go.Eng
end
section
/- Statements of open order that make ready what they lend, once it is read. -/
namespace Go.Eng
open Go.RowKit
section
variable {P : Program} {c : Ctx} {s : St} {ops : Array Oper} {rest : List Oper} {o : Oper}
end
section
variable {P : Program} {c : Ctx} {s : St} {Q : Exit → St → Prop} {ops : Array Oper} {rest : List Oper} {o : Oper}
end
end Go.Eng
end
section
/- One cell of a list is laid open: the list that it owns gets a name. -/
namespace Go.Eng
open Go.RowKit
section
variable {P : Program} {c : Ctx} {s : St} {Q : Exit → St → Prop} {ops : Array Oper} {rest : List Oper} {o : Oper}
theorem Le.rawListO {id b n cap : Nat} {vs : List Value} {ys : List T} (pid : Nat) (hM : lookM s.M id = some (.raw b (cap * n) vs (ys.flatMap T.cells))) (h2 : lookM s.M pid = none) (h3 : Gu id s.fr = true) (h4 : (s.M.all fun p => Ai id p.2) = true)
  (hn : ∀ y, y ∈ ys → (T.cells y).length = n) (hl : ys.length ≤ cap) (hc : cap ≤ maxLen) :
  Le c s ⟨s.fr, (id, .L n ys) :: (pid, .pin id b n cap) :: s.M⟩ := by
 rintro a w ⟨F, β, fb, mb, ow, hi⟩
 refine hi.name pid hM h2 h3 h4 fun β' hβ hm => ?_
 obtain ⟨arr, e, bs, q1, q2, q3, q4, q5⟩ := hm
 have hvl : vs.length = ys.length * n := by rw [q4.length, Ah hn]
 exact .inr ⟨b, cap, arr, e, bs, hβ, q1, q2, hn, hl, hc, by rw [← hvl, q3]; exact q4, q5⟩
theorem Mix.told : ∀ {vs : List Value} {ts : List T}, vs.length = ts.length → Mix vs ts (vs.map T.v) ts
 | [], [], _ => .nil
 | [], _ :: _, h => by simp at h
 | _ :: _, [], h => by simp at h
 | v :: vs, t :: ts, h => .claim (Mix.told (by simpa using h))
def IG {β : Type} (C : List (β × List Value)) : List T := C.map fun c => .agg (c.2.map T.v)
theorem Fq {β : Type} (C : List (β × List Value)) : (IG C).flatMap T.cells = (C.flatMap (·.2)).map T.v := by
 rw [IG, List.flatMap_map, List.map_flatMap]; rfl
theorem IE {β : Type} {C : List (β × List Value)} {n : Nat} (h : ∀ c, c ∈ C → c.2.length = n) : ∀ y, y ∈ IG C → (T.cells y).length = n := by
 intro y hy
 obtain ⟨c, hc, rfl⟩ := OM.1 hy
 show (c.2.map T.v).length = n;rw [Nj]; exact h c hc
theorem MR {l : List Oper} {id n m i off : Nat} {xs ys : List T} {z : T} (id2 pid idp : Nat) (hM : lookM s.M id = some (.L n xs)) (hn : ∀ x, x ∈ xs → (T.cells x).length = n) (hz : xs[i]? = some z) (hc : z.cells[off]? = some (.list m ys)) (hy : ys ≠ [])
  (h2 : lookM s.M id2 = none) (h3 : lookM s.M pid = none) (h4 : lookM s.M idp = none) (hd : (id2 == pid || (id2 == idp || pid == idp)) = false) (hf : Gu id2 s.fr = true) (hcl : (s.M.all fun p => Ai id2 p.2) = true)
  (k : ∀ b cap : Nat, ys.length ≤ cap → WO P c ops l ⟨s.fr, (id, .L n (xs.set i (.agg (z.cells.set off (.v (.slice (some ⟨b, 0, none⟩) ys.length cap)))))) :: (id2, .L m ys) :: (pid, .pin id2 b m cap) :: s.M⟩ Q) : WO P c ops l s Q := by
 simp only [OC, beq_eq_false_iff_ne] at hd
 obtain ⟨d1, d2, d3⟩ := hd
 have n1 : ¬ id = id2 := fun e => by rw [e, h2] at hM; cases hM
 have n2 : ¬ id = pid := fun e => by rw [e, h3] at hM; cases hM
 have n3 : ¬ id = idp := fun e => by rw [e, h4] at hM; cases hM
 have n1' : ¬ id2 = id := fun e => n1 e.symm
 have n2' : ¬ pid = id := fun e => n2 e.symm
 have n3' : ¬ idp = id := fun e => n3 e.symm
 have d1' : ¬ pid = id2 := fun e => d1 e.symm
 have d2' : ¬ idp = id2 := fun e => d2 e.symm
 have d3' : ¬ idp = pid := fun e => d3 e.symm
 refine KN (id := id) (idp := idp) hM h4 fun vs hvs => ?_
 obtain ⟨C, hC1, hC2, rfl⟩ := cutV (l := xs) (vs := vs) (n := n) hvs
 have hCl : C.length = xs.length := by rw [← hC1, Nj]
 refine ⟨IG C, Fq C, by rw [IG, Nj, hCl], IE hC2, ?_⟩
 have hil := (List.getElem?_eq_some_iff.1 hz).1
 have hzn := hn z (OV hz)
 have hoff : off < n := by rw [← hzn]; exact (List.getElem?_eq_some_iff.1 hc).1
 have hat : (xs.flatMap T.cells)[i * n + off]? = some (.list m ys) := by rw [EK hn hz hoff]; exact hc
 have hlt : i * n + off < xs.length * n := by
  have : (i + 1) * n ≤ xs.length * n := Od n hil
  rw [Og] at this;omega
 obtain ⟨u, hu⟩ : ∃ u, (C.flatMap (·.2))[i * n + off]? = some u := ⟨_, List.getElem?_eq_getElem (by rw [hvs]; exact hlt)⟩
 refine Ec (id := idp) (j := i * n + off) (id2 := id2) (n := m) (u := u) (xs := ys) (blk := .rawV (C.flatMap (·.2)) (xs.flatMap T.cells)) (by simp [lookM, n1, n2, n3, d1, d2, d3, n1', n2', n3', d1', d2', d3', h2, h3, h4]) rfl hu hat (by simp [lookM, n1, n2, n3, d1, d2, d3, n1', n2', n3', d1', d2', d3', h2, h3, h4]) fun e ad b cap ws hue hb he hlc hcm hcn => ?_
 have he0 : e = false := by cases e with | false => rfl | true => exact absurd (he rfl) hy
 subst he0
 obtain rfl : ad = some ⟨b, 0, none⟩ := hb rfl
 subst hue;refine WO_le (Le.rawListO (id := id2) (b := b) (n := m) (cap := cap) (vs := ws) (ys := ys) pid (by simp [lookM, rb, setV, n1, n2, n3, d1, d2, d3, n1', n2', n3', d1', d2', d3', h2, h3, h4]) (by simp [lookM, n1, n2, n3, d1, d2, d3, n1', n2', n3', d1', d2', d3', h2, h3, h4]) hf (by simp only [Oe, hcl, Bool.and_true]; rfl) hcn hlc hcm) ?_;refine WO_le (Le.claimMix (id := id) (idp := idp) (n := n) (ys := IG C) (xs := xs.set i (.agg (z.cells.set off (.v (.slice (some ⟨b, 0, none⟩) ys.length cap))))) (vs := C.flatMap (·.2)) (ts := (xs.flatMap T.cells).set (i * n + off) (.v (.slice (some ⟨b, 0, none⟩) ys.length cap))) (by simp [lookM, n1, n2, n3, d1, d2, d3, n1', n2', n3', d1', d2', d3', h2, h3, h4]) (by simp [lookM, setV, Kr, n1, n2, n3, d1, d2, d3, n1', n2', n3', d1', d2', d3', h2, h3, h4]) ?_ (by simp [IG, hCl]) ?_ (by simpa using n3)) ?_
 ·rw [Fq, ← DN (y := .agg (z.cells.set off (.v (.slice (some ⟨b, 0, none⟩) ys.length cap)))) hn hz hoff rfl]
  exact Mix.told (by rw [hvs, Ns, Ah hn])
 ·intro x hx
  rcases OK hx with hx | rfl
  ·exact hn x hx
  ·show (z.cells.set off _).length = n
   rw [Ns]; exact hzn
 ·refine WO_le ?_ (k b cap hlc)
  refine Le.of (fun t => .inl rfl) fun j => .inl ?_
  simp only [lookM]
  by_cases g1 : id = j
  ·subst g1; simp
  ·rw [if_neg g1, if_neg g1]
   by_cases g2 : idp = j
   ·subst g2
    rw [As, if_neg d2, if_neg d3, h4]
   ·rw [BO (fun e => g2 e.symm)]
    simp only [lookM, if_neg g1, if_neg g2]
    by_cases g3 : id2 = j
    ·simp [g3]
    ·simp [g3]
theorem LS {code : Code} {id n m i off : Nat} {xs ys : List T} {z : T} (id2 pid idp : Nat) (hM : lookM s.M id = some (.L n xs)) (hn : ∀ x, x ∈ xs → (T.cells x).length = n) (hz : xs[i]? = some z) (hc : z.cells[off]? = some (.list m ys)) (hy : ys ≠ [])
  (h2 : lookM s.M id2 = none) (h3 : lookM s.M pid = none) (h4 : lookM s.M idp = none) (hd : (id2 == pid || (id2 == idp || pid == idp)) = false) (hf : Gu id2 s.fr = true) (hcl : (s.M.all fun p => Ai id2 p.2) = true)
  (k : ∀ b cap : Nat, ys.length ≤ cap → W P c code ⟨s.fr, (id, .L n (xs.set i (.agg (z.cells.set off (.v (.slice (some ⟨b, 0, none⟩) ys.length cap)))))) :: (id2, .L m ys) :: (pid, .pin id2 b m cap) :: s.M⟩ Q) : W P c code s Q := by
 intro a w hi
 obtain ⟨s', h1, b, cap, hl, rfl⟩ := MR (P := P) (ops := #[]) (l := []) (Q := fun _ s' => ∃ b cap : Nat, ys.length ≤ cap ∧ s' = ⟨s.fr, (id, .L n (xs.set i (.agg (z.cells.set off (.v (.slice (some ⟨b, 0, none⟩) ys.length cap)))))) :: (id2, .L m ys) :: (pid, .pin id2 b m cap) :: s.M⟩) id2 pid idp hM hn hz hc hy h2 h3 h4 hd hf hcl (fun b cap hl => Mv ⟨b, cap, hl, rfl⟩) a w hi
 exact k b cap hl a w h1
end
end Go.Eng
end
section
/- A copy within one list of plain values of the function's own. -/
namespace Go.Eng
open Go.RowKit
section
variable {P : Program} {c : Ctx} {s : St} {Q : Exit → St → Prop} {ops : Array Oper} {rest : List Oper} {o : Oper}
theorem Ev {Γ : Tys} (hΓ : Γ.ok P) {ty t b sz id off : Nat} {x : Operand} {ti : TI} {vs : List Value} {ts : List T} {y : T} {u : Value} (hg : o.guard = none) (hd : o.dst = some t) (ht : t < c.n) (ho : o.op = .load ty x)
  (h1 : A4 Γ ty = some ti) (h2 : ti.kind.isAgg = false) (hx : opd s.fr x = .t (.v (.pointer (some ⟨b, off, none⟩)))) (hM : lookM s.M id = some (.raw b sz vs ts)) (hy : ts[off]? = some y) (hu : vs[off]? = some u)
  (k : WO P c ops rest ⟨(t, .t (.v u)) :: s.fr, s.M⟩ Q) : WO P c ops (o :: rest) s Q :=
 MS hΓ hg hd ht ho h1 h2 hx hM hy fun u' hu' => by rw [hu] at hu'; cases hu'; exact k
theorem Ew {Q : St → Prop} {Γ : Tys} (hΓ : Γ.ok P) {ty t b sz id off : Nat} {x : Operand} {ti : TI} {vs : List Value} {ts : List T} {y : T} {u : Value} (hg : o.guard = none) (hd : o.dst = some t) (ht : t < c.n) (ho : o.op = .load ty x)
  (h1 : A4 Γ ty = some ti) (h2 : ti.kind.isAgg = false) (hx : opd s.fr x = .t (.v (.pointer (some ⟨b, off, none⟩)))) (hM : lookM s.M id = some (.raw b sz vs ts)) (hy : ts[off]? = some y) (hu : vs[off]? = some u)
  (k : QL P c ops rest ⟨(t, .t (.v u)) :: s.fr, s.M⟩ Q) : QL P c ops (o :: rest) s Q :=
 ⟨t, _, hd, fun s' ha Q h => Ev hΓ hg hd ht ho h1 h2 (by rw [ha.opd (by rw [ho]; simp [Op.operands])]; exact hx) (by rw [ha.1]; exact hM) hy hu h, k⟩
theorem Jl {M0 : List (Nat × Blk)} {acc : List Dl} {Q : St → List Dl → Prop} {Γ : Tys} (hΓ : Γ.ok P) {ty t b sz id off : Nat} {x : Operand} {ti : TI} {vs : List Value} {ts : List T} {y : T} {u : Value} (hg : o.guard = none) (hd : o.dst = some t) (ht : t < c.n) (ho : o.op = .load ty x)
  (h1 : A4 Γ ty = some ti) (h2 : ti.kind.isAgg = false) (hx : opd s.fr x = .t (.v (.pointer (some ⟨b, off, none⟩)))) (hM : lookM M0 id = some (.raw b sz vs ts)) (hy : ts[off]? = some y) (hu : vs[off]? = some u)
  (k : QG P c ops M0 rest ⟨(t, .t (.v u)) :: s.fr, s.M⟩ (acc ++ [pl t (.t (.v u))]) Q) : QG P c ops M0 (o :: rest) s acc Q :=
 ⟨pl t _, hd, fun s' ha _ Q h => Ev hΓ hg hd ht ho h1 h2 (by rw [ha.opd (by rw [ho]; simp [Op.operands])]; exact hx) (ha.1 _ _ hM) hy hu h, k⟩
end
end Go.Eng
end
section
/- A region that only reads, run as if all memory were only read: what it answers of values is kept in a new variable, all else is as before. -/
namespace Go.Eng
open Go.RowKit
section
variable {P : Program} {c : Ctx} {s : St} {Q : Exit → St → Prop} {ops : Array Oper}
def sameOut (ds : List Nat) (a0 a : Act) : Prop := ∀ u, u ∉ ds → a.tmps.getD u undef = a0.tmps.getD u undef
theorem sameOut.put {ds : List Nat} {a0 a : Act} (h : sameOut ds a0 a) {d : Option Nat} (hd : ∀ t, d = some t → t ∈ ds) (v : Value) : sameOut ds a0 (a.put d v) := by
 cases d with
 | none => exact h
 | some t =>
  intro u hu
  have hne : ¬ t = u := fun e => hu (e ▸ hd t rfl)
  rw [← h u hu]
  simp [Act.put, Array.getElem?_setIfInBounds_ne hne]
theorem KS {ds : List Nat} {a0 a : Act} {o : Oper} {next next' : Act → World → Prop} {Q1 Q2 : Exit → Act → World → Prop} {r : Result Next} (ha : sameOut ds a0 a) (hd : ∀ t, o.dst = some t → t ∈ ds) (hn : ∀ a w, sameOut ds a0 a → next a w → next' a w) (hQ : ∀ e a w, e ≠ .normal → Q1 e a w → Q2 e a w)
  (h : o.upon P a next Q1 r) : o.upon P a next' Q2 r := by
 have hl : LetsOut Q1 → LetsOut Q2 := fun ⟨a, w, h⟩ => ⟨a, w, hQ _ _ _ (by simp) h⟩
 cases r with
 | ok x w' =>
  cases x with
  | value v => exact hn _ _ (ha.put hd v) h
  | skip => exact hn _ _ (ha.put hd undef) h
  | defer d => exact hn _ _ ((show sameOut ds a0 { a with defers := d :: a.defers } from ha).put hd undef) h
  | enter f args =>
   refine Calls.mono h fun e w'' he => ?_
   cases e with
   | returned v => exact hn _ _ (ha.put hd v) he
   | panicked chain => exact hQ _ _ _ (by simp) he
   | outgrown => exact hl he
  | row row args => exact Rows.mono h fun v w'' he => hn _ _ (ha.put hd v) he
  | _ => exact h
 | halt x w' => cases x <;> simp only [Oper.upon] at h ⊢ <;> first | exact hQ _ _ _ (by simp) h | exact h
theorem DP {ds : List Nat} {a0 : Act} {Qx Qy : Exit → Act → World → Prop} (hds : ∀ (i : Nat) o, ops[i]? = some o → ∀ t, o.dst = some t → t ∈ ds) (hQ : ∀ e a w, e ≠ .normal → Qx e a w → Qy e a w) (hN : ∀ a w, sameOut ds a0 a → Qx .normal a w → Qy .normal a w) : ∀ (fuel : Nat) (listed : Array Bool) (a : Act) (w : World), sameOut ds a0 a →
  wpAny P .any ops Qx fuel listed a w → wpAny P .any ops Qy fuel listed a w
 | 0, listed, a, w, ha, h => ⟨h.1, hN _ _ ha h.2⟩
 | fuel + 1, listed, a, w, ha, h => by
  refine ⟨fun hn => hN _ _ ha (h.1 hn), fun i hi => ?_⟩
  have h1 := h.2 i hi
  unfold wpOp at h1 ⊢;split at h1
  ·rename_i ho
   exact DP hds hQ hN fuel _ _ _ ha h1
  ·rename_i o ho
   have hd := hds i o ho
   split at h1
   ·rename_i hw
    rw [if_pos hw]
    refine h1.imp (fun h2 => ?_) fun h2 => ⟨h2.1, ?_⟩
    ·exact KS ha hd (fun a w hs hh => DP hds hQ hN fuel _ _ _ hs hh) hQ h2
    ·obtain ⟨a1, w1, h3⟩ := h2.2
     exact ⟨a1, w1, hQ _ _ _ (by simp) h3⟩
   ·rename_i hw
    rw [if_neg hw];exact DP hds hQ hN fuel _ _ _ (ha.put hd undef) h1
def ViewL (c : Ctx) (s : St) (ds es : List D) : Prop := ∀ {a : Act} {w : World} {F : Nat → Prop} {β : Ak} {fb mb : Nat → List Nat} {ow : Nat → Option (Nat ⊕ Nat)}, Conc c s a w F β fb mb ow → ∀ {vs : List Value} {bs : List Nat}, RelD w F β vs ds bs → (∀ b, b ∈ bs → b < w.heap.size) →
 RelD w (fun b => b < w.heap.size) (fun _ => none) vs es []
theorem ViewL.of {ds es : List D} (h : ResL s ds es) : ViewL c s ds es := fun hi _ _ hr hb => h.sound hi hr hb
theorem ViewL.nil' : ViewL c s [] [] := ViewL.of ResL.done
theorem ViewL.cons {d e : D} {ds es : List D} (h : ViewL c s [d] [e]) (k : ViewL c s ds es) : ViewL c s (d :: ds) (e :: es) := fun hi vs bs hr hb => by
 cases vs with
 | nil => cases hr
 | cons v vs =>
  obtain ⟨b1, b2, h1, h2, rfl⟩ := hr.cons
  exact RelD.cons' (h hi h1 fun b hb' => hb b (by simp [hb'])) (k hi h2 fun b hb' => hb b (by simp [hb']))
theorem ViewL.ref {id off : Nat} {cells : List D} {ts : List T} (hM : lookM s.M id = some (.box cells)) (h : ViewL c s cells (ts.map D.t)) : ViewL c s [.ref id 0 off] [.rp (.agg ts) off] := fun {a w F β fb mb ow} hi vs bs hr hb => by
 have hm := hi.mem id
 rw [hM] at hm
 obtain ⟨b, arr, e, bs', h1, h2, h3, h4, h5⟩ := hm
 cases hr with
 | ref q1 q2 =>
  rw [h1] at q1;cases q1
  have hin : ∀ b', b' ∈ mb id → b' < w.heap.size := fun b' hb' => (hi.own b' (by rw [hi.omem id b' hb']; simp)).2.1
  have h6 := h hi h3 fun b' hb' => hin b' (by rw [h5]; simp [hb'])
  cases q2;rw [OY];exact .rp (o := 0) (cs := arr.toList) (hin b (by rw [h5]; simp)) h2 (by simp) (Cj h6 h4) .done
theorem ViewL.raw {id b sz n m cap : Nat} {ws : List Value} {ts xs : List T} (hM : lookM s.M id = some (.raw b sz ws ts)) (hx : xs.flatMap T.cells = ts) (hn : ∀ x, x ∈ xs → (T.cells x).length = m) (hl : xs.length = n) (hc : n ≤ cap) : ViewL c s [.t (.v (.slice (some ⟨b, 0, none⟩) n cap))] [.t (.list m xs)] := fun {a w F β fb mb ow} hi vs bs hr hb => by
 have hm := hi.mem id
 rw [hM] at hm
 obtain ⟨arr, e, bs', h1, h2, h3, h4, h5⟩ := hm
 subst hx hl
 have hrel := h4.rel (F := fun b => b < w.heap.size) fun b' hb' => (hi.own b' (by rw [hi.omem id b' (by rw [h5]; simp [hb'])]; simp)).2.1
 cases hr with
 | t q1 q2 =>
  have e1 := Cy q1
  subst e1;cases q2;refine .t (.list (o := 0) (hi.own b (by rw [hi.omem id b (by rw [h5]; simp)]; simp)).2.1 h1 (fun k hk => ?_) hn hc hrel .nil) .done;rw [← h3];rw [← h3] at hk;simp only [N0, N1] at hk;rw [List.getElem?_take, if_pos (by omega), N5]
  simp
def Views (c : Ctx) (s : St) : List (Nat × D) → Prop
 | [] => True
 | (t, d) :: l => ViewL c s [look s.fr t] [d] ∧ Views c s l
theorem Views.look {s : St} : ∀ {l : List (Nat × D)}, Views c s l → ∀ t, look l t = .top ∨ ViewL c s [Eng.look s.fr t] [look l t]
 | [], _, t => .inl rfl
 | (u, d) :: l, h, t => by
  rw [Eng.look];split
  ·rename_i e; subst e; exact .inr h.1
  ·exact Views.look h.2 t
def D.plain : D → Bool
 | .t (.v _) => true
 | .top => true
 | _ => false
def D.toPlain (d : D) : D := if d.plain then d else .top
theorem RelD.toPlain {w w' : World} {F F' : Nat → Prop} {β β' : Ak} : ∀ {vs ds bs}, RelD w F β vs ds bs → RelD w' F' β' vs (ds.map D.toPlain) []
 | _, _, _, .done => .done
 | _, _, _, .t (y := y) h1 h2 => by
  have ih := RelD.toPlain (w' := w') (F' := F') (β' := β') h2
  cases y with
  | v x =>
   cases h1 with
   | v h5 h6 => exact .t (.v h5 .nil) ih
  | list _ _ => exact .top ih
  | agg _ => exact .top ih
 | _, _, _, .top h2 => .top (RelD.toPlain h2)
 | _, _, _, .tagg _ h2 => .top (RelD.toPlain h2)
 | _, _, _, .nil h2 => .top (RelD.toPlain h2)
 | _, _, _, .agg _ _ h2 => .top (RelD.toPlain h2)
 | _, _, _, .ref _ h2 => .top (RelD.toPlain h2)
 | _, _, _, .sl _ _ _ _ h2 => .top (RelD.toPlain h2)
 | _, _, _, .slnil _ h2 => .top (RelD.toPlain h2)
 | _, _, _, .rp _ _ _ _ h2 => .top (RelD.toPlain h2)
 | _, _, _, .clo _ h2 => .top (RelD.toPlain h2)
 | _, _, _, .tup _ h2 => .top (RelD.toPlain h2)
 | _, _, _, .own _ h2 => .top (RelD.toPlain h2)
theorem Conc.later {a a' : Act} {w w' : World} {F β fb mb ow} (hi : Conc c s a w F β fb mb ow) {ds : List Nat} (hs : sameOut ds a a') (hh : ∀ b, b < w.heap.size → w'.heap[b]? = w.heap[b]?) (hz : w.heap.size ≤ w'.heap.size)
  (h1 : w'.os = w.os) (h2 : w'.tape = w.tape) (h3 : w'.output = w.output) (h4 : a'.defers = []) (h5 : a'.tmps.size = c.n) :
  Conc c ⟨ds.map (fun t => (t, D.top)) ++ s.fr, s.M⟩ a' w' F β (fun t => if t ∈ ds then [] else fb t) mb (fun b => match ow b with | some (.inl t) => if t ∈ ds then none else some (.inl t) | y => y) := by
 have hlook : ∀ t, look (ds.map (fun t => (t, D.top)) ++ s.fr) t = if t ∈ ds then .top else look s.fr t := by
  intro t;clear hs
  induction ds with
  | nil => simp
  | cons u l ih =>
   simp only [OA, Ob, look]
   by_cases e : u = t
   ·rw [if_pos e, if_pos (by simp [e])]
   ·rw [if_neg e, ih]
    simp [Ne.symm e]
 have hin : ∀ b, ow b ≠ none → w'.heap[b]? = w.heap[b]? := fun b h => hh b (hi.own b h).2.1
 have hF : ∀ b, F b → w'.heap[b]? = w.heap[b]? := fun b h => hh b (hi.fin b h)
 exact { hi with
  fr := fun t => by
   rw [hlook]
   try dsimp only
   by_cases ht : t ∈ ds
   ·rw [if_pos ht, if_pos ht]; exact .top .done
   ·rw [if_neg ht, if_neg ht, hs t ht]
    exact (hi.fr t).mono (fun _ h => h) hF (fun b h => hin b (by rw [hi.ofr t b h]; simp)) fun _ => rfl
  mem := fun i => by
   have := hi.mem i
   try dsimp only
   cases h : lookM s.M i with
   | none => rw [h] at this; exact this
   | some k =>
    rw [h] at this
    exact RelB.mono this hF fun b h => hin b (by rw [hi.omem i b h]; simp)
  ofr := fun t b hb => by
   try dsimp only at hb ⊢
   by_cases ht : t ∈ ds
   ·rw [if_pos ht] at hb; cases hb
   ·rw [if_neg ht] at hb
    rw [hi.ofr t b hb]
    simp [ht]
  omem := fun i b hb => by rw [hi.omem i b hb]
  nfr := fun t => by split <;> first | exact List.nodup_nil | exact hi.nfr t
  own := fun b hb => by
   have hb' : ow b ≠ none := fun e => hb (by simp only [e])
   obtain ⟨g1, g2, g3⟩ := hi.own b hb'
   exact ⟨g1, OO g2 hz, g3⟩
  fin := fun b h => OO (hi.fin b h) hz
  os := h1.trans hi.os
  tape := h2.trans hi.tape
  output := h3.trans hi.output
  size := N7 hi.size hz
  keep := fun b h hg => by rw [hh b (OO h hi.size)]; exact hi.keep b h hg
  defers := h4
  tmps := h5 }
theorem LU {s : St} (out : Nat) (cells : List D) (ds : List Nat) (fr' : List (Nat × D)) (hds : (ops.toList.all fun o => match o.dst with | some t => ds.contains t | none => true) = true) (hfr : Views c s fr') (hcl : (Gu out s.fr && clM out s.M) = true) (hod : ds.contains out = true)
  (h : ∀ w, WR P ⟨w, fun _ => False, fun b => b < w.heap.size, c.n⟩ ops ⟨fr', []⟩ (fun e s1 => e = .normal ∧ look s1.fr out = .ref out 0 0 ∧ ∃ cells1, lookM s1.M out = some (.box cells1) ∧ cells1.map D.toPlain = cells))
  (k : Q .normal ⟨(out, .ref out 0 0) :: (ds.map (fun t => (t, D.top)) ++ s.fr), (out, .box cells) :: s.M⟩) : WR P c ops s Q := by
 rintro a w ⟨F, β, fb, mb, ow, hi⟩
 have hc := Cl.of hcl
 have h0 : Is ⟨w, fun _ => False, fun b => b < w.heap.size, c.n⟩ ⟨fr', []⟩ a w := by
  refine ⟨fun b => b < w.heap.size, fun _ => none, fun _ => [], fun _ => [], fun _ => none, ?_⟩
  exact {
   fr := fun t => by
    rcases hfr.look t with e | e
    ·show RelD _ _ _ _ [look fr' t] _
     rw [e]; exact .top .done
    ·exact e hi (hi.fr t) fun b hb => (hi.own b (by rw [hi.ofr t b hb]; simp)).2.1
   mem := fun i => rfl
   ofr := by simp
   omem := by simp
   nfr := by simp
   nmem := by simp
   own := fun b hb => absurd rfl hb
   fin := fun b h => h
   f0 := fun b h => h
   fnew := fun b h => .inl h
   f0in := fun b h => ⟨h, id⟩
   gin := fun b h => h.elim
   os := rfl
   tape := rfl
   output := rfl
   size := Nm _
   keep := fun _ _ _ => rfl
   defers := hi.defers
   tmps := hi.tmps }
 refine DP (ds := ds) (a0 := a) (fun i o ho t ht => ?_) (fun e a' w' hne hq => ?_) (fun a' w' hs hq => ?_) _ _ _ _ (fun _ _ => rfl) (h w a w h0)
 rotate_left
 ·obtain ⟨s1, _, he, _⟩ := hq
  exact absurd he hne
 ·obtain ⟨s1, ⟨F1, β1, fb1, mb1, ow1, h1⟩, _, h2, cells1, h3, rfl⟩ := hq
  have hcl1 : (cells1.map D.toPlain).length = cells1.length := Nj _
  have hL := hi.later (w' := w') hs (fun b hb => h1.keep b hb id) h1.size h1.os h1.tape h1.output h1.defers h1.tmps
  have hf := h1.fr out
  rw [h2] at hf
  have hm := h1.mem out
  rw [h3] at hm
  obtain ⟨b, arr, e, bs', q1, q2, q3, q4, q5⟩ := hm
  rw [← hcl1] at q1
  have q6 := RelD.toPlain (w' := w') (F' := F) (β' := fun id => if id = out then some (b, (cells1.map D.toPlain).length, 1) else β id) q3
  have hob := h1.own b (by rw [h1.omem out b (by rw [q5]; simp)]; simp)
  have hwb : w.heap.size ≤ b := hob.2.2.resolve_right id
  have hnF : ¬ F b := fun h => by have := hi.fin b h; omega
  have hnow : ow b = none := Classical.byContradiction fun h => by have := (hi.own b h).2.1; omega
  have hmo : mb out = [] := by have := hi.mem out; rw [hc.2.2] at this; exact this
  have hβ : ∀ i, i ≠ out → (fun id => if id = out then some (b, (cells1.map D.toPlain).length, 1) else β id) i = β i := fun i h => by simp [h]
  have hva : ∃ x, a'.tmps.getD out undef = x ∧ RelD w' F (fun id => if id = out then some (b, (cells1.map D.toPlain).length, 1) else β id) [x] [.ref out 0 0] [] := by
   refine ⟨_, rfl, ?_⟩;generalize a'.tmps.getD out undef = x at hf
   cases hf with
   | ref r1 r2 =>
    rw [q1] at r1;cases r1;exact .ref (if_pos rfl) .done
  obtain ⟨x, hx, hxr⟩ := hva
  have hod' : out ∈ ds := by simpa using hod
  have hnL : (match ow b with | some (.inl t) => if t ∈ ds then none else some (.inl t) | y => y) = none := by rw [hnow]
  have htop : ∀ t, look (ds.map (fun t => (t, D.top)) ++ s.fr) t = .top ∨ look (ds.map (fun t => (t, D.top)) ++ s.fr) t = look s.fr t := by
   intro t;clear hds hs hL hod hod' hnL k h
   induction ds with
   | nil => exact .inr rfl
   | cons u l ih =>
    simp only [OA, Ob, look];split
    ·exact .inl rfl
    ·exact ih
  refine ⟨_, ⟨F, fun id => if id = out then some (b, (cells1.map D.toPlain).length, 1) else β id, fun t => if t ∈ ds then [] else fb t, fun i => if i = out then [b] else mb i, fun b' => if b' = b then some (.inr out) else match ow b' with | some (.inl t) => if t ∈ ds then none else some (.inl t) | y => y, ?_⟩, k⟩
  have hne : ∀ b', (match ow b' with | some (.inl t) => if t ∈ ds then none else some (.inl t) | y => y) ≠ none → b' ≠ b := fun b' h e => h (e ▸ hnL)
  exact { hL with
   fr := fun t => by
    simp only [look];split
    ·rename_i e; subst e
     rw [if_pos hod', hx]; exact hxr
    ·refine (hL.fr t).other hβ ?_
     simp only [D.has.hasL, OL]
     rcases htop t with g | g
     ·rw [g]; rfl
     ·rw [g]; exact hc.1 t
   mem := fun i => by
    simp only [lookM]
    by_cases hi' : out = i
    ·subst hi'
     rw [if_pos rfl];simp only [if_true];exact ⟨b, arr, e, [], by simp, q2, q6, q4, rfl⟩
    ·rw [if_neg hi']
     have hiu : ¬ i = out := fun e => hi' e.symm
     simp only [if_neg hiu]
     have hm := hL.mem i
     cases hk : lookM s.M i with
     | none => rw [hk] at hm; exact hm
     | some k =>
      rw [hk] at hm
      have hck := hc.2.1 i k hk
      cases k with
      | L n' xs' =>
       rcases hm with ⟨g1, g2, g3⟩ | ⟨b, cap, arr', e', bs', g1, g⟩
       ·exact .inl ⟨by dsimp only; rw [if_neg hiu]; exact g1, g2, g3⟩
       ·exact .inr ⟨b, cap, arr', e', bs', by dsimp only; rw [if_neg hiu]; exact g1, g⟩
      | box cs =>
       obtain ⟨b, arr', e', bs', g1, g2, g3, g4, g5⟩ := hm
       simp only [Ai, N9] at hck;exact ⟨b, arr', e', bs', by dsimp only; rw [if_neg hiu]; exact g1, g2, g3.other hβ hck, g4, g5⟩
      | raw _ _ _ _ => exact hm
      | rawV _ _ => exact hm
      | ro _ _ => exact hm
      | pin j b n c =>
       simp only [Ai, N9, beq_eq_false_iff_ne] at hck;exact ⟨by dsimp only; rw [if_neg hck]; exact hm.1, hm.2⟩
      | obox _ _ => exact hm
      | bld _ _ _ _ => exact hm
      | row _ _ _ _ => exact hm
   ofr := fun t b' hb => by
    have h5 := hL.ofr t b' hb
    have h6 := hne b' (by rw [h5]; simp)
    rw [if_neg h6]; exact h5
   omem := fun i b' hb => by
    by_cases hi' : i = out
    ·subst hi'
     rw [if_pos rfl, OE] at hb;rw [if_pos hb]
    ·rw [if_neg hi'] at hb
     have h5 := hL.omem i b' hb
     have h6 := hne b' (by rw [h5]; simp)
     rw [if_neg h6]; exact h5
   nmem := fun i => by
    split
    ·simp
    ·exact hL.nmem i
   own := fun b' hb => by
    by_cases h6 : b' = b
    ·subst h6
     exact ⟨hnF, hob.2.1, .inl (N7 hi.size hwb)⟩
    ·rw [if_neg h6] at hb
     exact hL.own b' hb }
 ·rw [Np] at hds
  have := hds o (by simpa using Array.mem_of_getElem? ho)
  rw [ht] at this
  simpa using this
theorem Lb {Q : St → Prop} {rest : List Oper} {o : Oper} {t ty n cap : Nat} {ad : Option Addr} {x : Operand} (hg : o.guard = none) (hd : o.dst = some t) (ht : t < c.n) (ho : o.op = .call { callee := .builtin .len, args := #[x], argTypes := #[ty] })
  (hu : ∃ e, P.underlying ty = some (.slice e)) (hx : opd s.fr x = .t (.v (.slice ad n cap))) (k : QL P c ops rest ⟨(t, .t (.int n)) :: s.fr, s.M⟩ Q) : QL P c ops (o :: rest) s Q :=
 ⟨t, _, hd, fun s' ha Q h => Eb hg hd ht ho hu (by rw [ha.opd (by rw [ho]; simp [Op.operands, Call.operands])]; exact hx) h, k⟩
theorem WR_Gm (m : Nat) (hl : (ops.toList.take m).length = m) (hB : BR ops m = true) (hT : DZ ops m = true)
  (h : QG P c ops s.M (ops.toList.take m) s [] (fun s' xs => chk ops (ops.toList.take m) s xs = true ∧ WO P c ops (ops.toList.drop m) s' Q)) : WR P c ops s Q :=
 WR_G (l1 := ops.toList.take m) (l2 := ops.toList.drop m) (by simp) (by rw [hl]; exact hB) (.inr (by rw [hl]; exact hT)) h
end
end Go.Eng
end
section
/- An element's inner list, taken out of a list: the list keeps its header, told; what it leads to stands apart. -/
namespace Go.Eng
open Go.RowKit
section
variable {P : Program} {c : Ctx} {s : St} {Q : Exit → St → Prop} {ops : Array Oper} {rest : List Oper} {o : Oper}
theorem Dv {code : Code} {id n m i off : Nat} {xs ys : List T} {z : T} (idq : Nat) (hM : lookM s.M id = some (.L n xs)) (hz : xs[i]? = some z) (hc : z.cells[off]? = some (.list m ys)) (h2 : lookM s.M idq = none) (hne' : (id == idq) = false)
  (k : ∀ (ad : Option Addr) (cap : Nat), W P c code ⟨s.fr, (id, .L n (xs.set i (.agg (z.cells.set off (.v (.slice ad ys.length cap)))))) :: (idq, .rawV [.slice ad ys.length cap] [.list m ys]) :: s.M⟩ Q) : W P c code s Q := by
 have hne : ¬ id = idq := by simpa using hne'
 rintro a w ⟨F, β, fb, mb, ow, hi⟩
 have hmm := hi.mem id
 rw [hM] at hmm
 have hm2 := hi.mem idq
 rw [h2] at hm2
 have hil := (List.getElem?_eq_some_iff.1 hz).1
 rcases hmm with ⟨r1, r2, r3⟩ | ⟨b0, cap0, arr, e', bs', r1, r3, r4, r5, r6, r7, r8, r9⟩
 ·subst r2; simp at hil
 have hzl := r5 z (OV hz)
 have hoff := (List.getElem?_eq_some_iff.1 hc).1
 have hat : (xs.flatMap T.cells)[i * n + off]? = some (.list m ys) := by
  rw [EK r5 hz (by omega)]; exact hc
 obtain ⟨u, hu, huone⟩ := r8.get? hat
 obtain ⟨c1, c2, c3, e1, g1, g2⟩ := OwnL.at (i * n + off) r8 hu hat
 obtain ⟨ad, cap, rfl⟩ : ∃ ad cap, u = .slice ad ys.length cap := by
  cases g1 with
  | none h => exact ⟨_, _, rfl⟩
  | list _ _ _ _ _ _ _ _ => exact ⟨_, _, rfl⟩
 have hnew := g2 w (.v (.slice ad ys.length cap)) [] (fun _ _ => rfl) (.v rfl .nil)
 have hset : (xs.flatMap T.cells).set (i * n + off) (.v (.slice ad ys.length cap)) = (xs.set i (.agg (z.cells.set off (.v (.slice ad ys.length cap))))).flatMap T.cells := DN r5 hz (by omega) rfl
 rw [hset] at hnew
 have hnd := hi.nmem id
 rw [r9, e1] at hnd
 refine k ad cap a w (hi.re2 hne (mp := b0 :: (c1 ++ [] ++ c3)) (mq := c2) (fun i h1 h3 => .inl (by
  simp only [lookM]; rw [if_neg (fun e => h1 e.symm), if_neg (fun e => h3 e.symm)])) ?_ ?_ (fun x h => ?_) (fun x h => ?_) ?_ ?_ ?_)
 ·simp only [lookM, if_true]
  refine .inr ⟨b0, cap0, arr, e', c1 ++ [] ++ c3, r1, r3, r4, fun x hx => ?_, by simpa using r6, r7, by rw [Ns]; exact hnew, rfl⟩
  rcases OK hx with hx | rfl
  ·exact r5 x hx
  ·show (z.cells.set off _).length = n
   rw [Ns]; exact hzl
 ·simp only [lookM, if_neg hne, if_true]; exact g1
 ·refine .inl ?_
  rw [r9, e1]
  simp at h ⊢
  rcases h with h | h | h
  ·exact .inl h
  ·exact .inr (.inl h)
  ·exact .inr (.inr (.inr h))
 ·exact .inl (by rw [r9, e1]; simp [h])
 ·obtain ⟨n1, n2⟩ := Nw.1 hnd
  obtain ⟨n3, n4, n5⟩ := Nq.1 n2
  obtain ⟨n6, n7, n8⟩ := Nq.1 n3
  refine Nw.2 ⟨fun h => n1 ?_, ?_⟩
  ·simp at h ⊢
   rcases h with h | h
   ·exact .inl h
   ·exact .inr (.inr h)
  ·rw [OD]
   exact Nq.2 ⟨n6, n4, fun x hx y hy e => n5 x (by simp [hx]) y hy e⟩
 ·exact (Nq.1 (Nq.1 (Nw.1 hnd).2).1).2.1
 ·intro x hx hy
  obtain ⟨n1, n2⟩ := Nw.1 hnd
  obtain ⟨n3, n4, n5⟩ := Nq.1 n2
  obtain ⟨n6, n7, n8⟩ := Nq.1 n3
  simp at hx
  rcases hx with rfl | hx | hx
  ·exact n1 (by simp [hy])
  ·exact n8 x hx x hy rfl
  ·exact n5 x (by simp [hy]) x hx rfl
theorem Le.ownBack0 {t id : Nat} {v : Value} {x : T} (h1 : look s.fr t = .t (.v v)) (h2 : lookM s.M id = some (.rawV [v] [x])) : Le c s ⟨(t, .own x) :: s.fr, (id, .rawV [] []) :: s.M⟩ := by
 classical
 rintro a w ⟨F, β, fb, mb, ow, hi⟩
 have hr := hi.fr t
 rw [h1] at hr
 have e1 := A1 hr
 have hm := hi.mem id
 rw [h2] at hm
 have hO : OwnL w [v] [x] (mb id) := hm
 have ho : ∀ b, b ∈ mb id → ow b = some (.inr id) := fun b h => hi.omem id b h
 have hfb : fb t = [] := hr.free1 rfl
 refine ⟨F, β, fun y => if y = t then mb id else fb y, fun i => if i = id then [] else mb i, fun b => if b ∈ mb id then some (.inl t) else ow b, ?_⟩
 exact { hi with
  fr := fun y => by
   simp only [look]
   by_cases h : t = y
   ·subst h
    rw [if_pos rfl, if_pos rfl, e1]
    simpa using RelD.own (F := F) (β := β) hO .done
   ·rw [if_neg h, if_neg (fun e => h e.symm)]
    exact hi.fr y
  mem := fun i => by
   simp only [lookM]
   by_cases h : i = id
   ·subst h; rw [if_pos rfl, if_pos rfl]; exact OwnL.nil
   ·rw [if_neg (fun e => h e.symm), if_neg h]; exact hi.mem i
  ofr := fun y b hb => by
   split at hb
   ·rename_i h; subst h; rw [if_pos hb]
   ·have h5 := hi.ofr y b hb
    rw [if_neg (fun h => by rw [ho b h] at h5; cases h5)];exact h5
  omem := fun i b hb => by
   split at hb
   ·cases hb
   ·rename_i hne
    have h5 := hi.omem i b hb
    rw [if_neg (fun h => by rw [ho b h] at h5; cases h5; exact hne rfl)];exact h5
  nfr := fun y => by
   split
   ·exact hi.nmem id
   ·exact hi.nfr y
  nmem := fun i => by
   split
   ·exact List.nodup_nil
   ·exact hi.nmem i
  own := fun b hb => by
   split at hb
   ·rename_i h; exact hi.own b (by rw [ho b h]; simp)
   ·exact hi.own b hb }
theorem Dx {Q : St → List Dl → Prop} {acc : List Dl} {b : List Nat} {bs : List (List Nat)} {Γ : Tys} (hΓ : Γ.ok P) {ty t id i off n : Nat} {x : Operand} {ti : TI} {xs : List T} {z y : T} {v : Value} (idq : Nat) (hg : o.guard = none) (hd : o.dst = some t) (ht : t < c.n) (ho : o.op = .load ty x)
  (h1 : A4 Γ ty = some ti) (hx : opd s.fr x = .ref id i off) (hM : lookM (CG b s.M) id = some (.L n xs)) (hz : xs[i]? = some z) (hp : IQ ti.kind ti.size (z.cells.map scal) off = some (.t (.v v))) (hq : lookM (CG b s.M) idq = some (.rawV [v] [y]))
  (k : QH P c ops bs rest ⟨(t, .own y) :: s.fr, (idq, .rawV [] []) :: s.M⟩ (acc ++ [⟨t, .own y, [], [(idq, .rawV [] [])], false⟩]) Q) : QH P c ops (b :: bs) (o :: rest) s acc Q :=
 ⟨⟨t, .own y, [], [(idq, .rawV [] [])], false⟩, fun s' ha _ Q h => by
  refine Bl hΓ hg hd ht ho h1 (by rw [ha.opd (by rw [ho]; simp [Op.operands])]; exact hx) (ha.1 _ _ hM) hz hp ?_
  have h3 : Le c ⟨(t, .own y) :: (t, .t (.v v)) :: s'.fr, (idq, .rawV [] []) :: s'.M⟩ ⟨(t, .own y) :: s'.fr, (idq, .rawV [] []) :: s'.M⟩ := Le.of (fun u => .inl (by
   show (if t = u then D.own y else look s'.fr u) = if t = u then D.own y else if t = u then _ else look s'.fr u
   split <;> rfl)) (fun u => .inl rfl)
  have h2 : Le c ⟨(t, .t (.v v)) :: s'.fr, s'.M⟩ ⟨(t, .own y) :: (t, .t (.v v)) :: s'.fr, (idq, .rawV [] []) :: s'.M⟩ := Le.ownBack0 (t := t) (id := idq) (v := v) (by show (if t = t then _ else _) = _; rw [if_pos rfl]) (ha.1 _ _ hq)
  exact WO_le (h2.trans h3) h, k⟩
theorem Le.putBack {id idq n i off : Nat} {xs : List T} {z : T} {u : Value} {y : T} (z' : T) (hM : lookM s.M id = some (.L n xs)) (h2 : lookM s.M idq = some (.rawV [u] [y])) (hz : xs[i]? = some z) (hc : z.cells[off]? = some (.v u)) (hz' : z'.cells = z.cells.set off y) (hne' : (id == idq) = false) :
  Le c s ⟨s.fr, (id, .L n (xs.set i z')) :: dropM (some idq) s.M⟩ := by
 have hne : ¬ id = idq := by simpa using hne'
 rintro a w ⟨F, β, fb, mb, ow, hi⟩
 have hmm := hi.mem id
 rw [hM] at hmm
 have hm2 := hi.mem idq
 rw [h2] at hm2
 have hO : OwnL w [u] [y] (mb idq) := hm2
 have hil := (List.getElem?_eq_some_iff.1 hz).1
 rcases hmm with ⟨r1, r2, r3⟩ | ⟨b0, cap0, arr, e', bs', r1, r3, r4, r5, r6, r7, r8, r9⟩
 ·subst r2; simp at hil
 have hzl := r5 z (OV hz)
 have hoff := (List.getElem?_eq_some_iff.1 hc).1
 have hat : (xs.flatMap T.cells)[i * n + off]? = some (.v u) := by
  rw [EK r5 hz (by omega)]; exact hc
 obtain ⟨u', hu, huone⟩ := r8.get? hat
 obtain ⟨c1, c2, c3, e1, g1, g2⟩ := OwnL.at (i * n + off) r8 hu hat
 have hu2 : u' = u ∧ c2 = [] := by
  cases g1 with
  | v q1 q2 => cases q2; exact ⟨rfl, rfl⟩
 obtain ⟨rfl, rfl⟩ := hu2
 have hnew := g2 w y (mb idq) (fun _ _ => rfl) hO
 have hset : (xs.flatMap T.cells).set (i * n + off) y = (xs.set i z').flatMap T.cells := DN r5 hz (by omega) hz'
 rw [hset] at hnew
 have hnd := hi.nmem id
 rw [r9, e1] at hnd
 have hnd2 := hi.nmem idq
 simp only [OD] at hnd
 have hdrop : lookM ((id, Blk.L n (xs.set i z')) :: dropM (some idq) s.M) idq = none := by
  simp only [lookM]; rw [if_neg hne, As]
 have hd : ∀ x, x ∈ mb idq → x ∉ b0 :: (c1 ++ c3) := fun x hx hy => hi.dis hne (b := x) (by rw [r9, e1]; simpa using hy) hx
 refine hi.re2 hne (mp := b0 :: (c1 ++ mb idq ++ c3)) (mq := []) (fun i h1 h3 => .inl (by
  simp only [lookM]; rw [if_neg (fun e => h1 e.symm), BO h3])) ?_ ?_ (fun x h => ?_) (by simp) ?_ (by simp) (by simp)
 ·simp only [lookM, if_true]
  refine .inr ⟨b0, cap0, arr, e', c1 ++ mb idq ++ c3, r1, r3, r4, fun x hx => ?_, by simpa using r6, r7, by rw [Ns]; exact hnew, rfl⟩
  rcases OK hx with hx | rfl
  ·exact r5 x hx
  ·rw [hz', Ns]; exact hzl
 ·rw [hdrop]
 ·rcases N2.1 h with rfl | h
  ·exact .inl (by rw [r9]; simp)
  ·rcases Nn.1 h with h | h
   ·rcases Nn.1 h with h | h
    ·exact .inl (by rw [r9, e1]; simp [h])
    ·exact .inr h
   ·exact .inl (by rw [r9, e1]; simp [h])
 ·obtain ⟨n1, n2⟩ := Nw.1 hnd
  obtain ⟨n3, n4, n5⟩ := Nq.1 n2
  refine Nw.2 ⟨fun h => ?_, ?_⟩
  ·rcases Nn.1 h with h | h
   ·rcases Nn.1 h with h | h
    ·exact n1 (by simp [h])
    ·exact hd _ h (by simp)
   ·exact n1 (by simp [h])
  ·refine Nq.2 ⟨Nq.2 ⟨n3, hnd2, fun x hx y hy e => ?_⟩, n4, fun x hx y hy e => ?_⟩
   ·subst e; exact hd x hy (by simp [hx])
   ·subst e
    rcases Nn.1 hx with hx | hx
    ·exact n5 x hx x hy rfl
    ·exact hd x hx (by simp [hy])
theorem Le.sameL {id n : Nat} {xs ys : List T} (hM : lookM s.M id = some (.L n xs)) (h : ys.flatMap T.cells = xs.flatMap T.cells) (hl : ys.length = xs.length) (hn : ∀ y, y ∈ ys → (T.cells y).length = n) : Le c s ⟨s.fr, (id, .L n ys) :: s.M⟩ := by
 rintro a w ⟨F, β, fb, mb, ow, hi⟩
 refine ⟨F, β, fb, mb, ow, { hi with mem := fun i => ?_ }⟩
 show match (if id = i then _ else _) with | some k => RelB w F β i k (mb i) | none => mb i = []
 by_cases hid : id = i
 ·subst hid
  rw [if_pos rfl]
  have hm := hi.mem id
  rw [hM] at hm
  rcases hm with ⟨r1, r2, r3⟩ | ⟨b, cap, arr, e', bs', r1, r3, r4, r5, r6, r7, r8, r9⟩
  ·subst r2
   exact .inl ⟨r1, OG (by simpa using hl), r3⟩
  ·exact .inr ⟨b, cap, arr, e', bs', r1, r3, r4, hn, by rw [hl]; exact r6, r7, by rw [hl, h]; exact r8, r9⟩
 ·rw [if_neg hid]; exact hi.mem i
theorem W_WO {code : Code} (h : WO P c #[] [] s (fun _ s' => W P c code s' Q)) : W P c code s Q := fun a w hi => by
 obtain ⟨s', h1, h2⟩ := h a w hi
 exact h2 a w h1
theorem Le.freezeB {u : Nat} {cells : List D} {ts : List T} (hM : lookM s.M u = some (.box cells)) (h : KR cells = some ts) : Le c s ⟨s.fr, (u, .box (ts.map D.t)) :: s.M⟩ := by
 classical
 rintro a w ⟨F, β, fb, mb, ow, hi⟩
 have hm := hi.mem u
 rw [hM] at hm
 obtain ⟨b, arr, e, bs, h1, h2, h3, h4, h5⟩ := hm
 have hnd := hi.nmem u
 rw [h5] at hnd
 obtain ⟨n1, n2⟩ := Nw.1 hnd
 have hrel := frzL_rel h3 h h4
 have hlen : (ts.map D.t).length = cells.length := by rw [Nj, ← hrel.length, h3.length]
 have hbs : ∀ b', b' ∈ bs → ow b' = some (.inr u) := fun b' hb => hi.omem u b' (by rw [h5]; simp [hb])
 refine ⟨fun b' => F b' ∨ b' ∈ bs, β, fb, fun i => if u = i then [b] else mb i, fun b' => if b' ∈ bs then none else ow b', ?_⟩
 exact { hi with
  fr := fun v => (hi.fr v).mono (w := w) (w' := w) (fun _ h => .inl h) (fun _ _ => rfl) (fun _ _ => rfl) fun _ => rfl
  mem := fun id => by
   simp only [lookM]
   by_cases hid : u = id
   ·subst hid
    rw [if_pos rfl, if_pos rfl];refine ⟨b, arr, e, [], by rw [hlen]; exact h1, h2, ?_, h4, rfl⟩
    have key : ∀ {vs : List Value} {ts : List T}, RelL w (fun b' => F b' ∨ b' ∈ bs) vs ts → vs.all (·.oneCell') = true → RelD w (fun b' => F b' ∨ b' ∈ bs) β vs (ts.map D.t) [] := by
     intro vs
     induction vs with
     | nil => intro ts h _; cases ts with | nil => exact .done | cons _ _ => cases h
     | cons v vs ih =>
      intro ts h ho
      cases ts with
      | nil => cases h
      | cons t ts =>
       obtain ⟨g1, g2⟩ := h.cons
       rw [Oe, Nk] at ho;exact .t g1 (ih g2 ho.2)
    exact key hrel h4
   ·rw [if_neg hid, if_neg hid]
    have := hi.mem id
    cases hM' : lookM s.M id with
    | none => rw [hM'] at this; exact this
    | some k => rw [hM'] at this; exact relB_wider this (fun _ h => .inl h)
  ofr := fun v b' hb => by
   have h6 := hi.ofr v b' hb
   rw [if_neg (fun h => by rw [hbs b' h] at h6; cases h6)];exact h6
  omem := fun id b' hb => by
   by_cases hid : u = id
   ·subst hid
    rw [if_pos rfl, OE] at hb;subst hb;rw [if_neg n1];exact hi.omem u b' (by rw [h5]; simp)
   ·rw [if_neg hid] at hb
    have h6 := hi.omem id b' hb
    rw [if_neg (fun h => by rw [hbs b' h] at h6; cases h6; exact hid rfl)];exact h6
  nmem := fun id => by
   by_cases hid : u = id
   ·rw [if_pos hid]; simp
   ·rw [if_neg hid]; exact hi.nmem id
  own := fun b' hb => by
   split at hb
   ·exact absurd rfl hb
   ·rename_i hn
    obtain ⟨q1, q2, q3⟩ := hi.own b' hb
    exact ⟨fun h => h.elim q1 hn, q2, q3⟩
  fin := fun b' hb => hb.elim (hi.fin b') fun h => (hi.own b' (by rw [hbs b' h]; simp)).2.1
  f0 := fun b' hb => .inl (hi.f0 b' hb)
  fnew := fun b' hb => hb.elim (hi.fnew b') fun h => .inr (hi.own b' (by rw [hbs b' h]; simp)).2.2 }
theorem HM {w : World} {F : Nat → Prop} : ∀ {vs : List Value} {ts : List T} (k : Nat), RelL w F vs ts → RelL w F (vs.drop k) (ts.drop k)
 | [], [], k, h => by rw [List.drop_nil, List.drop_nil]; exact .nil
 | [], _ :: _, _, h => by cases h
 | _ :: _, [], _, h => by cases h
 | _ :: _, _ :: _, 0, h => h
 | _ :: _, _ :: _, k + 1, h => HM k h.cons.2
theorem ViewL.rawP {id b sz off n : Nat} {ws : List Value} {ts : List T} (x : T) (hM : lookM s.M id = some (.raw b sz ws ts)) (hr : ∀ {w : World} {F : Nat → Prop} {vs}, RelL w F vs ((ts.drop off).take n) → RelL w F vs (T.cells x)) :
  ViewL c s [.t (.v (.pointer (some ⟨b, off, none⟩)))] [.rp x 0] := fun {a w F β fb mb ow} hi vs bs hrd hb => by
 have hm := hi.mem id
 rw [hM] at hm
 obtain ⟨arr, e, bs', h1, h2, h3, h4, h5⟩ := hm
 have hrel := h4.rel (F := fun b => b < w.heap.size) fun b' hb' => (hi.own b' (by rw [hi.omem id b' (by rw [h5]; simp [hb'])]; simp)).2.1
 cases hrd with
 | t q1 q2 =>
  have e1 := Cy q1
  subst e1;cases q2;refine RelD.rp (F := fun b => b < w.heap.size) (o := off) (off := 0) (cs := (ws.drop off).take n) (hi.own b (by rw [hi.omem id b (by rw [h5]; simp)]; simp)).2.1 h1 (fun k hk => ?_) (hr (w := w) (F := fun b => b < w.heap.size) ((HM off hrel).take n)) .done;simp only [N0, OS] at hk;rw [List.getElem?_take, if_pos (by omega), List.getElem?_drop, ← h3, List.getElem?_take, if_pos (by omega)]
  simp
end
end Go.Eng
end
section
/- Calls of readers on own memory; what is told, read by what is known of it. -/
namespace Go.Eng
open Go.RowKit
section
variable {P : Program} {c : Ctx} {s : St} {Q : Exit → St → Prop} {ops : Array Oper} {rest : List Oper} {o : Oper} {M0 : List (Nat × Blk)} {acc : List Dl}
theorem MU {t : Nat} {fo : Operand} {args : Array Operand} {tys : Array TypeId} {f : FuncId} {caps es : List D} {r : D} (hg : o.guard = none) (hd : o.dst = some t) (ht : t < c.n)
  (ho : o.op = .call { callee := .value fo, args := args, argTypes := tys }) (hf : opd s.fr fo = .clo f caps) (hes : ViewL c s (args.toList.map (opd s.fr) ++ caps) es) (hc : Fun P f es r) (hn : r.noImm = true)
  (k : WO P c ops rest ⟨(t, r) :: s.fr, s.M⟩ Q) : WO P c ops (o :: rest) s Q := by
 rintro a w ⟨F, β, fb, mb, ow, hi⟩
 obtain ⟨bf, hrf, h1⟩ := hi.opd fo
 rw [hf] at hrf
 obtain ⟨arr, bs', hv, hr1, rfl⟩ := Br hrf
 obtain ⟨bs, hr2, h2⟩ := EB hi args.toList
 have hall := hr2.append hr1
 have hsound := hes hi hall fun b hb => by
  rcases Nn.1 hb with hb | hb
  ·exact h2 b hb
  ·rcases h1 with rfl | ⟨u, _, rfl⟩
   ·cases hb
   ·exact (hi.own b (by rw [hi.ofr u b hb]; simp)).2.1
 have hrun : (execOp a.eval o).run P w = .ok (.enter f (args.map a.eval ++ arr)) w := by
  simp [execOp, ho, resolve, hv, Deferred.ofValue, invoke, Bq hc.1]
 refine wpList_plain hg fun K hK => ?_
 unfold Oper.wp;rw [hrun, Oper.upon_enter];refine (hc.2 w (fun b => b < w.heap.size) (args.map a.eval ++ arr) (fun b h => h) (by simpa using hsound)).mono ?_
 rintro e w' ⟨v, F', bs2, rfl, hb, _, _, hr, hnd, hbs⟩
 dsimp only;rw [hd];refine hK _ _ (k _ _ ⟨F, β, _, mb, _, hi.called ht hb (fun _ h => h) (fun _ h => .inl h) (hr.noImm (by simp [D.noImm.noImmL, hn])) hnd fun b h => ?_⟩)
 obtain ⟨h3, h4, h5⟩ := hbs b h
 exact ⟨h3, h4, fun h6 => by have := hi.fin b h6; omega⟩
theorem Conc.raws {a : Act} {w : World} {F β fb mb ow} (hi : Conc c s a w F β fb mb ow) {id : Nat} {vs : List Value} {ts : List T} (hM : lookM s.M id = some (.rawV vs ts)) : RelL w (fun b => b < w.heap.size) vs ts := by
 have hm := hi.mem id
 rw [hM] at hm
 exact OwnL.rel hm fun b' hb' => (hi.own b' (by rw [hi.omem id b' hb']; simp)).2.1
theorem Conc.ros {a : Act} {w : World} {F β fb mb ow} (hi : Conc c s a w F β fb mb ow) {id : Nat} {vs : List Value} {ts : List T} (hM : lookM s.M id = some (.ro vs ts)) : RelL w (fun b => b < w.heap.size) vs ts := by
 have hm := hi.mem id
 rw [hM] at hm
 exact hm.1.mono (fun b hb => hi.fin b hb) fun _ _ => rfl
theorem ViewL.told5 {i0 i1 i2 i3 i4 idr : Nat} {v0 v1 v2 v3 v4 : Value} {x0 x1 x2 x3 x4 : T} {ws : List Value} {us ts' : List T} (h0 : lookM s.M i0 = some (.rawV [v0] [x0])) (h1 : lookM s.M i1 = some (.rawV [v1] [x1])) (h2 : lookM s.M i2 = some (.rawV [v2] [x2])) (h3 : lookM s.M i3 = some (.rawV [v3] [x3])) (h4 : lookM s.M i4 = some (.rawV [v4] [x4]))
  (hr : lookM s.M idr = some (.ro ws us)) (h : ∀ {w : World} {F : Nat → Prop}, RelL w F [v0, v1, v2, v3, v4] [x0, x1, x2, x3, x4] → RelL w F ws us → RelL w F [v0, v1, v2, v3, v4] ts') :
  ViewL c s [.agg [.t (.v v0), .t (.v v1), .t (.v v2), .t (.v v3), .t (.v v4)]] [.t (.agg ts')] := fun {a w F β fb mb ow} hi zs bs hrd hb => by
 have g := h (RelL.cons' (hi.raws h0) (RelL.cons' (hi.raws h1) (RelL.cons' (hi.raws h2) (RelL.cons' (hi.raws h3) (hi.raws h4))))) (hi.ros hr)
 cases hrd with
 | agg q0 q1 q2 =>
  cases q2
  have key : ∀ {xs vs : List Value} {bs}, RelD w F β xs (vs.map fun u => D.t (.v u)) bs → xs = vs := by
   intro xs vs
   induction vs generalizing xs with
   | nil => intro bs h; cases h; rfl
   | cons v vs ih =>
    intro bs h
    cases xs with
    | nil => cases h
    | cons x xs =>
     obtain ⟨b1, b2, g1, g2, _⟩ := h.cons
     rw [ih g2]
     cases g1 with
     | t p1 p2 => rw [Cy p1]
  exact .tagg (by rw [key (vs := [v0, v1, v2, v3, v4]) q1]; exact g) .done
theorem NX {code : Code} {u j idr : Nat} {x : T} {ws : List Value} {us : List T} {cells : List D} (y : T) (hM : lookM s.M u = some (.box cells)) (hj : cells[j]? = some (.t x)) (hr : lookM s.M idr = some (.ro ws us)) (h : ∀ {w : World} {F : Nat → Prop} {v}, RelL w F [v] [x] → RelL w F ws us → RelL w F [v] [y])
  (k : W P c code ⟨s.fr, (u, .box (cells.set j (.t y))) :: s.M⟩ Q) : W P c code s Q := by
 rintro a w ⟨F, β, fb, mb, ow, hi⟩
 have hm := hi.mem u
 rw [hM] at hm
 obtain ⟨b, arr, e, bs, h1, h2, h3, h4, h5⟩ := hm
 have hro := hi.mem idr
 rw [hr] at hro
 have key : ∀ {vs : List Value} {ds : List D} {bs : List Nat} {j : Nat}, RelD w F β vs ds bs → vs.all (·.oneCell') = true → ds[j]? = some (.t x) → RelD w F β vs (ds.set j (.t y)) bs := by
  intro vs
  induction vs with
  | nil =>
   intro ds bs j hr _ hj
   have := hr.length
   cases ds with
   | nil => simp at hj
   | cons _ _ => simp at this
  | cons v vs ih =>
   intro ds bs j hr ho hj
   cases ds with
   | nil => simp at hj
   | cons d ds =>
    obtain ⟨b1, b2, g1, g2, rfl⟩ := hr.cons
    rw [Oe, Nk] at ho
    cases j with
    | zero =>
     simp at hj
     subst hj
     cases g1 with
     | t q1 q2 =>
      cases q2;exact RelD.cons' (.t (h q1 hro.1) .done) g2
     | tagg q1 q2 => simp [Value.oneCell'] at ho
    | succ j => exact RelD.cons' g1 (ih g2 ho.2 (by simpa using hj))
 refine k a w ⟨F, β, fb, mb, ow, { hi with mem := fun i => ?_ }⟩;simp only [lookM]
 by_cases hid : u = i
 ·subst hid
  rw [if_pos rfl];exact ⟨b, arr, e, bs, by rw [Ns]; exact h1, h2, key h3 h4 hj, h4, h5⟩
 ·rw [if_neg hid]; exact hi.mem i
theorem NU {code : Code} {t n : Nat} {xs : List T} (idr : Nat) (h1 : look s.fr t = .t (.list n xs)) (hn : lookM s.M idr = none) (k : ∀ (ad : Option Addr) (cap : Nat), W P c code ⟨(t, .t (.v (.slice ad xs.length cap))) :: s.fr, (idr, .ro [.slice ad xs.length cap] [.list n xs]) :: s.M⟩ Q) : W P c code s Q := by
 rintro a w ⟨F, β, fb, mb, ow, hi⟩
 have hr := hi.fr t
 rw [h1] at hr
 have hfb : fb t = [] := hr.free1 rfl
 have hm := hi.mem idr
 rw [hn] at hm
 obtain ⟨v, hv⟩ : ∃ v, v = a.tmps.getD t undef := ⟨_, rfl⟩
 rw [← hv] at hr
 have hrel : RelL w F [v] [.list n xs] := by
  cases hr with
  | t q1 q2 => exact q1
 obtain ⟨ad, cap, rfl⟩ : ∃ ad cap, v = .slice ad xs.length cap := by
  cases hrel with
  | none _ => exact ⟨_, _, rfl⟩
  | list _ _ _ _ _ _ _ => exact ⟨_, _, rfl⟩
 refine k ad cap a w ⟨F, β, fb, mb, ow, { hi with fr := fun y => ?_, mem := fun i => ?_ }⟩
 ·simp only [look]
  split
  ·rename_i e
   subst e;rw [← hv, hfb];exact .t (.v rfl .nil) .done
  ·exact hi.fr y
 ·simp only [lookM]
  by_cases hid : idr = i
  ·subst hid
   rw [if_pos rfl];exact ⟨hrel, hm⟩
  ·rw [if_neg hid]; exact hi.mem i
theorem QG_rem {Q : St → List Dl → Prop} {t ty ty' : Nat} {x y : Operand} {a b : Int} (hg : o.guard = none) (hd : o.dst = some t) (ht : t < c.n) (ho : o.op = .binOp .rem ty x y ty') (hx : opd s.fr x = .t (.v (.int .i64 a))) (hy : opd s.fr y = .t (.v (.int .i64 b)))
  (hb : b ≠ 0) (kk : QG P c ops M0 rest ⟨(t, .t (.v (.int .i64 (a.tmod b)))) :: s.fr, s.M⟩ (acc ++ [pl t (.t (.v (.int .i64 (a.tmod b))))]) Q) : QG P c ops M0 (o :: rest) s acc Q :=
 ⟨pl t _, hd, fun s' ha _ Q h => LW hg hd ht ho (by rw [ha.opd (by rw [ho]; simp [Op.operands])]; exact hx) (by rw [ha.opd (by rw [ho]; simp [Op.operands])]; exact hy) hb h, kk⟩
end
end Go.Eng
end
section
/- Arithmetic of words of any width. -/
namespace Go.Eng
open Go.RowKit
section
variable {P : Program} {c : Ctx} {s : St} {Q : Exit → St → Prop} {ops : Array Oper} {rest : List Oper} {o : Oper}
def Li (P : Program) (op : BinOp) (u1 u2 v : Value) : Prop := ∀ (ty : Nat) (ox oy : Operand) (w : World), ((do eqGuard op ty ox oy u1 u2; binOp op ty u1 u2 : Sem Value)).run P w = .ok v w
theorem FV {t ty ty' : Nat} {op : BinOp} {x y : Operand} {u1 u2 v : Value} (hg : o.guard = none) (hd : o.dst = some t) (ht : t < c.n) (ho : o.op = .binOp op ty x y ty') (hx : opd s.fr x = .t (.v u1)) (hy : opd s.fr y = .t (.v u2)) (hv : Li P op u1 u2 v) (hone : v.oneCell' = true)
  (kk : WO P c ops rest ⟨(t, .t (.v v)) :: s.fr, s.M⟩ Q) : WO P c ops (o :: rest) s Q := by
 refine CD hg hd ht _ (fun a' w F β fb mb ow hi => ?_) kk;refine ⟨v, ?_, .t (.v hone .nil) .done⟩
 have e1 := C4 hi hx
 have e2 := C4 hi hy
 simp only [execOp, ho, e1, e2]
 have := hv ty x y w
 simp only [N4] at this ⊢
 revert this
 cases h : (eqGuard op ty x y u1 u2).run P w <;> simp_all [Result.andThen]
theorem Mq {k : IntKind} {a b : Int} : Li P .add (.int k a) (.int k b) (.int k (k.wrap (a + b))) := fun ty ox oy w => by
 simp [eqGuard, binOp, Op.intArith]
theorem binMul {k : IntKind} {a b : Int} : Li P .mul (.int k a) (.int k b) (.int k (k.wrap (a * b))) := fun ty ox oy w => by
 simp [eqGuard, binOp, Op.intArith]
theorem binShr {k k2 : IntKind} {a b : Int} (hb : ¬ b < 0) : Li P .shr (.int k a) (.int k2 b) (.int k (a.fdiv (2 ^ min b.toNat k.bits))) := fun ty ox oy w => by
 simp [eqGuard, binOp, Op.shift, hb]
theorem binAnd {k : IntKind} {a b : Int} : Li P .and (.int k a) (.int k b) (.int k (k.wrap ((BitVec.ofInt k.bits a &&& BitVec.ofInt k.bits b).toNat : Nat))) := fun ty ox oy w => by
 simp [eqGuard, binOp, Op.intBits]
theorem H5 {src dst t : Nat} {x : Operand} {td : TypeDesc} {k k0 : IntKind} {n m : Int} (hg : o.guard = none) (hd : o.dst = some t) (ht : t < c.n) (ho : o.op = .convert src dst x)
  (h1 : P.underlying src = some td) (h2 : P.underlying dst = some (.int k)) (hx : opd s.fr x = .t (.v (.int k0 n))) (hw : k.wrap n = m)
  (kk : WO P c ops rest ⟨(t, .t (.v (.int k m))) :: s.fr, s.M⟩ Q) : WO P c ops (o :: rest) s Q := by
 subst hw; exact WO_conv hg hd ht ho h1 h2 hx kk
theorem Lc {Q : St → Prop} {src dst t : Nat} {x : Operand} {td : TypeDesc} {k k0 : IntKind} {n m : Int} (hg : o.guard = none) (hd : o.dst = some t) (ht : t < c.n) (ho : o.op = .convert src dst x)
  (h1 : P.underlying src = some td) (h2 : P.underlying dst = some (.int k)) (hx : opd s.fr x = .t (.v (.int k0 n))) (hw : k.wrap n = m)
  (kk : QL P c ops rest ⟨(t, .t (.v (.int k m))) :: s.fr, s.M⟩ Q) : QL P c ops (o :: rest) s Q :=
 ⟨t, _, hd, fun s' ha Q h => H5 hg hd ht ho h1 h2 (by rw [ha.opd (by rw [ho]; simp [Op.operands])]; exact hx) hw h, kk⟩
end
end Go.Eng
end
section
/- Regions of open order that write, with a tail in order. -/
namespace Go.Eng
open Go.RowKit
section
variable {P : Program} {c : Ctx} {s : St} {Q : Exit → St → Prop}
theorem WR_Ht {l1 l2 : List Oper} {ops : Array Oper} (bads : List (List Nat)) (he : ops = (l1 ++ l2).toArray) (hB : BR ops l1.length = true) (hT : l2 = [] ∨ DZ ops l1.length = true)
  (h : QH P c ops bads l1 s [] (fun s' xs => Lk ops l1 s xs bads = true ∧ WO P c ops l2 s' Q)) : WR P c ops s Q := by
 obtain ⟨xs, hlen, ⟨hchk, hend⟩, hstep⟩ := h.steps
 simp only [List.nil_append] at hchk
 have hops : ∀ j : Nat, j < l1.length → l1[j]? = ops[j]? := fun j hj => by subst he; rw [List.getElem?_toArray, List.getElem?_append_left hj]
 have hsz : l1.length ≤ ops.size := by subst he; simp
 refine WR_S he hB hT (fun X => mrg xs X s l1.length) (fun X hX => ?_) (fun X i o ho hXi hcl hdep => ?_) (fun X hX => ?_)
 ·rw [BZ (i := 0) (OQ _) fun j _ => hX j]
  exact Le.refl
 ·have hil : i < l1.length := (List.getElem?_eq_some_iff.1 ho).1
  obtain ⟨x, hx, hst⟩ := hstep i o ho
  have hoi : ops[i]? = some o := by rw [← hops i hil]; exact ho
  have hlt : ∀ k ok, ops[k]? = some ok → ∀ e, e ∈ ok.after → Region.binds .any e = true → e.on < k := fun k ok hk => CB hB hk
  have hcl' : ∀ j oj, ops[j]? = some oj → j < l1.length → X j = true → ∀ e, e ∈ oj.after → Region.binds .any e = true → X e.on = true := fun j oj hj hjl hXj => hcl j oj (by rw [hops j hjl]; exact hj) hXj
  -- what is done, and what is not
  have after : ∀ j, rch (C5 ops l1.length) i j = true → X j = true := fun j hr => (DR hlt (by omega) hcl' i hil j hr fun oi h' => by rw [hoi] at h'; cases h'; exact hdep).1
  have before : ∀ j, j < l1.length → rch (C5 ops l1.length) j i = true → X j = false := fun j hj hr => by
   cases hXj : X j with
   | false => rfl
   | true =>
    have := (DR hlt (by omega) hcl' j hj i hr fun oj h' e he hb => hcl' j oj h' hj hXj e he hb).1
    rw [hXi] at this; cases this
  have hxat : ∀ {j : Nat}, j < l1.length → ∃ oj y, l1[j]? = some oj ∧ xs[j]? = some y := fun {j} hj => by
   have hlj : l1[j]? = some l1[j] := List.getElem?_eq_getElem hj
   obtain ⟨y, hy, _⟩ := hstep j _ hlj
   exact ⟨_, y, hlj, hy⟩
  have apart : ∀ {j : Nat} {y : Dl}, j < l1.length → j ≠ i → xs[j]? = some y → X j ≠ decide (j < i) →
    (∀ u, y.ws.contains u = true → (o.looksAt ops).contains u = false ∧ x.ws.contains u = false) ∧ (∀ p, p ∈ y.M → (bads.getD i []).contains p.1 = true) ∧ (∀ p, p ∈ y.M → inF x.M p.1 = false) := fun {j y} hj hji hy hne => by
   obtain ⟨oj, y', hlj, hy'⟩ := hxat hj
   rw [hy] at hy'; cases hy'
   rcases Nat.lt_or_gt_of_ne hji with h' | h'
   ·have hp := BN hchk h' hlj ho hy hx
    have hnr : rch (C5 ops l1.length) i j = false := by
     cases hr : rch (C5 ops l1.length) i j with
     | false => rfl
     | true => exact absurd (by rw [after j hr]; simp [h']) hne
    unfold ED at hp;rw [hnr, OX, Nk] at hp
    have hd := hp.1
    unfold NQ at hd;simp only [Nk, Np, N9] at hd
    obtain ⟨d1, d2, d3, d4⟩ := hd
    refine ⟨fun u hu => ⟨d2 u (by simpa using hu), ?_⟩, fun p hp => d4 p hp, fun p hp => ?_⟩
    ·cases hxu : x.ws.contains u with
     | false => rfl
     | true =>
      have := (d1 u (by simpa using hxu)).2
      rw [hu] at this; cases this
    ·cases hin : inF x.M p.1 with
     | false => rfl
     | true =>
      unfold inF at hin;rw [OJ] at hin
      obtain ⟨q, hq1, hq2⟩ := hin
      have := (d3 q hq1).2
      have hin2 : inF y.M q.1 = true := by
       unfold inF;rw [OJ];exact ⟨p, hp, by rw [beq_iff_eq] at hq2 ⊢; exact hq2.symm⟩
      rw [hin2] at this; cases this
   ·have hp := BN hchk h' ho hlj hx hy
    have hnr : rch (C5 ops l1.length) j i = false := by
     cases hr : rch (C5 ops l1.length) j i with
     | false => rfl
     | true => exact absurd (by rw [before j hj hr]; simp; omega) hne
    unfold ED at hp;rw [hnr, OX, Nk] at hp
    have hd := hp.1
    unfold NQ at hd;simp only [Nk, Np, N9] at hd
    obtain ⟨d1, d2, d3, d4⟩ := hd
    exact ⟨fun u hu => d1 u (by simpa using hu), fun p hp => (d3 p hp).1, fun p hp => (d3 p hp).2⟩
  have hag : AgreeG ops o (onL (xs.take i) s).fr (CG (bads.getD i []) (onL (xs.take i) s).M) (mrg xs X s l1.length) := by
   refine ⟨fun id k hk => ?_, fun u hu => ?_⟩
   ·obtain ⟨hb, hk⟩ := CQ hk
    rw [← CF (X := fun j => decide (j < i)) (by omega) (fun j hj => by simpa using hj), ← BZ (X := fun j => decide (j < i)) (i := i) (n := l1.length) (by omega) (fun j hj => by simpa using hj)] at hk;rw [← hk]
    refine Gg fun j y hj hy hin => ?_
    by_cases hje : j = i
    ·subst hje; rw [hXi]; simp
    ·refine Classical.byContradiction fun hne => ?_
     have hap := (apart hj hje hy hne).2.1
     unfold inF at hin;rw [OJ] at hin
     obtain ⟨p, hp1, hp2⟩ := hin
     have := hap p hp1
     rw [show p.1 = id from by simpa using hp2, hb] at this;cases this
   ·rw [← CF (X := fun j => decide (j < i)) (by omega) (fun j hj => by simpa using hj), ← BZ (X := fun j => decide (j < i)) (i := i) (n := l1.length) (by omega) (fun j hj => by simpa using hj)]
    refine EE fun j y hj hy hin => ?_
    by_cases hje : j = i
    ·subst hje; rw [hXi]; simp
    ·refine Classical.byContradiction fun hne => ?_
     have hap := ((apart hj hje hy hne).1 u (by rw [← EH]; exact hin)).1
     rw [List.contains_eq_mem, decide_eq_false_iff_not] at hap;exact hap hu
  have hcl2 : x.b = true → Cl x.t (mrg xs X s l1.length) := fun hb => by
   refine Cl.mrg ?_ fun j y hj hXj hy => ?_
   ·have := FS hchk hx
    unfold LO at this;rw [hb] at this;simp only [Oj, OX, Nk] at this;exact ⟨B1 this.1, (Ba this.2).1, (Ba this.2).2⟩
   ·have hji : j ≠ i := fun e => by subst e; rw [hXi] at hXj; cases hXj
    obtain ⟨oj, y', hlj, hy'⟩ := hxat hj
    rw [hy] at hy'; cases hy'
    rcases Nat.lt_or_gt_of_ne hji with h' | h'
    ·have hp := BN hchk h' hlj ho hy hx
     unfold ED at hp;rw [hb] at hp;simp only [Oj, OX, Nk] at hp;exact hp.2.2
    ·have hp := BN hchk h' ho hlj hx hy
     have hnr : rch (C5 ops l1.length) j i = false := by
      cases hr : rch (C5 ops l1.length) j i with
      | false => rfl
      | true => rw [before j hj hr] at hXj; cases hXj
     unfold ED at hp;rw [hb, hnr] at hp;simp only [Oj, OX, Nk] at hp;exact hp.2.1
  have later : ∀ {j : Nat} {y : Dl}, j < l1.length → i < j → X j = true → xs[j]? = some y → (∀ u, y.ws.contains u = true → x.ws.contains u = false) ∧ ∀ p, p ∈ y.M → inF x.M p.1 = false := fun {j y} hj hij hXj hy => by
   have hap := apart hj (by omega) hy (by rw [hXj]; simp; omega)
   exact ⟨fun u hu => (hap.1 u hu).2, hap.2.2⟩
  intro Q' hQ;refine hst _ hag hcl2 Q' (WO_le (Le.of (fun u => .inl ?_) (fun u => .inl ?_)) hQ)
  ·simp only [Dl.on, look_app]
   split
   ·rename_i hu
    refine Ck hx hXi hu hil fun j y hj hij hXj hy => ?_
    cases hin : inF y.fr u with
    | false => rfl
    | true =>
     have := (later hj hij hXj hy).1 u (by rw [← EH]; exact hin)
     rw [← EH, hu] at this; cases this
   ·rename_i hu
    refine EE fun j y hj hy hin => ?_
    have : (j == i) = false := by
     rw [beq_eq_false_iff_ne];intro e; subst e; rw [hx] at hy; cases hy; exact hu hin
    rw [this, OL]
  ·simp only [Dl.on, lookM_app]
   split
   ·rename_i hu
    refine DE hx hXi hu hil fun j y hj hij hXj hy => ?_
    cases hin : inF y.M u with
    | false => rfl
    | true =>
     unfold inF at hin;rw [OJ] at hin
     obtain ⟨p, hp1, hp2⟩ := hin
     have := (later hj hij hXj hy).2 p hp1
     rw [show p.1 = u from by simpa using hp2, hu] at this;cases this
   ·rename_i hu
    refine Gg fun j y hj hy hin => ?_
    have : (j == i) = false := by
     rw [beq_eq_false_iff_ne];intro e; subst e; rw [hx] at hy; cases hy; exact hu hin
    rw [this, OL]
 ·rw [CF (by omega) hX, Ni (by omega)]
  exact hend
theorem DV {id : Nat} {ops : Array Oper} (m : Nat) (bads : List (List Nat)) (hm : P.follows .mixedOrders = true) (hl : (ops.toList.take m).length = m) (hB : BR ops m = true) (hT : DZ ops m = true)
  (h : QH P c ops bads (ops.toList.take m) s [] (fun s' xs => Lk ops (ops.toList.take m) s xs bads = true ∧ WO P c ops (ops.toList.drop m) s' Q)) : W P c (.region id ops true) s Q :=
 Ea hm (WR_Ht (l1 := ops.toList.take m) (l2 := ops.toList.drop m) bads (by simp) (by rw [hl]; exact hB) (.inr (by rw [hl]; exact hT)) h)
end
end Go.Eng
end
section
/- A struct that is read, of which some cells are not told. -/
namespace Go.Eng
open Go.RowKit
section
variable {P : Program} {c : Ctx} {s : St} {Q : Exit → St → Prop} {ops : Array Oper} {rest : List Oper} {o : Oper}
end
end Go.Eng
end
section
/- Functions that are lent memory and answer what is then only read. -/
namespace Go.Eng
open Go.RowKit
theorem RelB.monoF {w w' : World} {F F' : Nat → Prop} {β : Ak} {id : Nat} {k : Blk} {bs : List Nat} (hF : ∀ b, F b → F' b) (h : RelB w F β id k bs) (hw : ∀ b, F b → w'.heap[b]? = w.heap[b]?) (hb : ∀ b, b ∈ bs → w'.heap[b]? = w.heap[b]?) : RelB w' F' β id k bs := by
 cases k with
 | L n xs =>
  rcases h with h | ⟨b, cap, arr, e, bs', h1, h2, h3, h4, h5, h6, h7, h8⟩
  ·exact .inl h
  ·subst h8
   exact .inr ⟨b, cap, arr, e, bs', h1, (hb b (by simp)).trans h2, h3, h4, h5, h6, h7.mono fun b h => hb b (by simp [h]), rfl⟩
 | box cells =>
  obtain ⟨b, arr, e, bs', h1, h2, h3, h4, h5⟩ := h
  subst h5;exact ⟨b, arr, e, bs', h1, (hb b (by simp)).trans h2, h3.mono hF hw (fun b h => hb b (by simp [h])) fun _ => rfl, h4, rfl⟩
 | raw b sz vs ts =>
  obtain ⟨arr, e, bs', h1, h2, h3, h4, h5⟩ := h
  subst h5;exact ⟨arr, e, bs', (hb b (by simp)).trans h1, h2, h3, h4.mono fun b h => hb b (by simp [h]), rfl⟩
 | rawV vs ts => exact OwnL.mono h hb
 | ro vs ts => exact ⟨h.1.mono hF hw, h.2⟩
 | pin j b n c => exact h
 | obox pv cells =>
  rcases h with h | ⟨b, arr, e, bs', h1, h2, h3, h4, h5⟩
  ·exact .inl h
  ·subst h5
   exact .inr ⟨b, arr, e, bs', h1, (hb b (by simp)).trans h2, h3.mono hF hw (fun b h => hb b (by simp [h])) fun _ => rfl, h4, rfl⟩
 | bld T e b l =>
  obtain ⟨p, v, row, h1, h2, h3, h4⟩ := h
  subst h4;refine ⟨p, v, row, (hb b (by simp)).trans h1, h2, ?_, rfl⟩
  rcases h3 with h3 | ⟨g, cap, cur, q1, q2, q3, q4, q5, q6, h5⟩
  ·exact .inl h3
  ·subst h5
   exact .inr ⟨g, cap, cur, q1, (hb g (by simp)).trans q2, q3, q4, q5, q6, rfl⟩
 | row b cap n xs =>
  obtain ⟨arr, e, bs', h2, h3, h4, h5, h6, h7, h8⟩ := h
  subst h8;exact ⟨arr, e, bs', (hb b (by simp)).trans h2, h3, h4, h5, h6, h7.mono fun b h => hb b (by simp [h]), rfl⟩
def ProcF (P : Program) (f : FuncId) (ds : List D) (rv : List Value) (rt : List T) (ks : List Blk) (r : D) (ks' : List Blk) : Prop :=
 ET P f ∧ ∀ (w : World) (F : Nat → Prop) (args : Array Value) (bs : List Nat), (∀ b, F b → b < w.heap.size) → RelD w F BS args.toList ds [] → RelL w F rv rt → FX w ks bs → bs.Nodup → (∀ b, b ∈ bs → b < w.heap.size ∧ ¬ F b) →
  Calls P f args w fun e w' => ∃ v F' br bs', e = .returned v ∧ (∀ b, F b → F' b) ∧ (∀ b, F' b → F b ∨ b ∈ bs ∨ w.heap.size ≤ b) ∧ (∀ b, F' b → b < w'.heap.size) ∧ RelD w' F' BS [v] [r] br ∧ FX w' ks' bs' ∧ (br ++ bs').Nodup ∧ (∀ b, b ∈ br ++ bs' → ¬ F' b ∧ (b ∈ bs ∨ (w.heap.size ≤ b ∧ b < w'.heap.size))) ∧
   w'.os = w.os ∧ w'.tape = w.tape ∧ w'.output = w.output ∧ w.heap.size ≤ w'.heap.size ∧ ∀ b, b < w.heap.size → b ∉ bs → w'.heap[b]? = w.heap[b]?
section
variable {P : Program} {c : Ctx} {s : St} {Q : Exit → St → Prop} {ops : Array Oper} {rest : List Oper} {o : Oper}
def Mx (Γ : Tys) (fn : Func) (ids : List Nat) (r : D) (ks' : List Blk) : Exit → St → Prop
 | .normal, s | .ret, s => ∃ ds' ys, Dw Γ s fn.results.toList ds' ys ∧ tupD ds' = r ∧ ys.Nodup ∧ D.closed.closedL ds' = true ∧ LookMs s.M ids ks' ∧ ∀ id, id ∈ ids → Sum.inr id ∉ ys
 | _, _ => False
theorem IB {Γ : Tys} {fn : Func} {ids : List Nat} {r : D} {ks ks' : List Blk} {e : Exit} {ds' : List D} {ys : List (Nat ⊕ Nat)} (he : e = .normal ∨ e = .ret) (h : Dw Γ s fn.results.toList ds' ys) (hn : ys.Nodup) (hi : D.closed.closedL ds' = true) (hy : ∀ id, id ∈ ids → Sum.inr id ∉ ys)
  (hl : LookMs s.M ids ks) (hr : tupD ds' = r) (hk : ks = ks') : Mx Γ fn ids r ks' e s := by
 subst hk
 rcases he with rfl | rfl <;> exact ⟨ds', ys, h, hr, hn, hi, hl, hy⟩
theorem ProcF.intro {Γ : Tys} (hΓ : Γ.ok P) {f : FuncId} {fn : Func} {code : Code} (hf : P.funcs[f]? = some fn) (hb : fn.body = some code) (hname : (fn.name == "runtime.NumGoroutine") = false) {N : Nat} {ds : List D} {rv : List Value} {rt : List T} {ks : List Blk} {r : D} {ks' : List Blk} (ids : List Nat) (rid : Nat) (fr : List (Nat × D)) (M : List (Nat × Blk))
  (hN : ds.length + (fn.ntmps - ds.length) = N) (hfr : (List.range ds.length).zip ds = fr) (hM : ids.zip ks ++ [(rid, .ro rv rt)] = M) (hids : ids.length = ks.length) (hnd : ids.Nodup) (hrid : rid ∉ ids) (hsh : ks.all Blk.shut = true)
  (h : ∀ w0 G F0, W P ⟨w0, G, F0, N⟩ code ⟨fr, M⟩ (Mx Γ fn ids r ks')) : ProcF P f ds rv rt ks r ks' := by
 classical
 subst hfr hM;refine ⟨⟨fn, hf, by rw [hb]; rfl, hname⟩, ?_⟩;intro w F args bs hF hargs hrd hms hbn hblt
 have hlen := hargs.length
 simp only [N1] at hlen
 obtain ⟨mb0, hmb, rfl⟩ := CP hids hnd hms
 have hshut : ∀ p, p ∈ ids.zip ks → p.2.shut = true := fun p hp => by
  rw [Np] at hsh;exact hsh p.2 (List.of_mem_zip (a := p.1) (b := p.2) hp).2
 have hin : ∀ {i b}, i ∈ ids → b ∈ mb0 i → b ∈ ids.flatMap mb0 := fun hi hb => ON.2 ⟨_, hi, hb⟩
 refine calls_of_wp hf hb ?_
 have h0 : Is ⟨w, fun b => b ∈ ids.flatMap mb0, F, N⟩ ⟨(List.range ds.length).zip ds, ids.zip ks ++ [(rid, .ro rv rt)]⟩ { tmps := args ++ Array.replicate (fn.ntmps - args.size) undef, defers := [] } w := by
  refine ⟨F, fun _ => none, fun _ => [], fun i => if i ∈ ids then mb0 i else [], fun b => if h : ∃ i, i ∈ ids ∧ b ∈ mb0 i then some (.inr h.choose) else none, ?_⟩
  have hlook : ∀ (l : List D) (k t : Nat), look ((List.range' k l.length).zip l) (k + t) = (l[t]?).getD .top := by
   intro l
   induction l with
   | nil => intro k t; simp [look]
   | cons d l ih =>
    intro k t;rw [Nx, List.range'_succ, List.zip_cons_cons];simp only [look]
    cases t with
    | zero => simp
    | succ t =>
     rw [if_neg (by omega), show k + (t + 1) = k + 1 + t from by omega, ih]
     simp
  have hl0 : ∀ t, look ((List.range ds.length).zip ds) t = (ds[t]?).getD .top := fun t => by
   have := hlook ds 0 t
   simpa [List.range_eq_range'] using this
  exact {
   fr := fun t => by
    rw [hl0]
    cases hd : ds[t]? with
    | none => exact .top .done
    | some d =>
     have hlt := (List.getElem?_eq_some_iff.1 hd).1
     obtain ⟨v, h1, h2⟩ := hargs.get0 t hd
     have hlt2 : t < args.size := by rw [hlen]; exact hlt
     have hv : (args ++ Array.replicate (fn.ntmps - args.size) undef).getD t undef = v := by
      rw [No, Array.getElem?_append_left hlt2]
      have : args[t]? = some v := by simpa using h1
      rw [this]; rfl
     rw [hv];exact h2
   mem := fun i => by
    by_cases hi : i ∈ ids
    ·obtain ⟨k, h1, h2⟩ := DF (M := [(rid, .ro rv rt)]) hids hi
     rw [h1];simp only [if_pos hi];exact (hmb _ h2).shut (hshut _ h2)
    ·rw [Cm hi]
     simp only [lookM, if_neg hi]
     by_cases hr : rid = i
     ·rw [if_pos hr]; exact ⟨hrd, rfl⟩
     ·rw [if_neg hr]; trivial
   ofr := by simp
   omem := fun i b hb => by
    split at hb
    ·rename_i hi
     have hex : ∃ i, i ∈ ids ∧ b ∈ mb0 i := ⟨i, hi, hb⟩
     rw [dif_pos hex]
     have := hex.choose_spec
     rw [DM hbn this.1 hi this.2 hb]
    ·cases hb
   nfr := by simp
   nmem := fun i => by
    split
    ·rename_i hi; exact flat_nodup_at hbn hi
    ·simp
   own := fun b hb => by
    split at hb
    ·rename_i hex
     obtain ⟨h1, h2⟩ := hex.choose_spec
     have := hblt b (hin h1 h2)
     exact ⟨this.2, this.1, .inr (hin h1 h2)⟩
    ·exact absurd rfl hb
   fin := hF
   f0 := fun _ h => h
   fnew := fun _ h => .inl h
   f0in := fun b h => ⟨hF b h, fun h2 => (hblt b h2).2 h⟩
   gin := fun b h => (hblt b h).1
   os := rfl
   tape := rfl
   output := rfl
   size := Nm _
   keep := fun _ _ _ => rfl
   defers := rfl
   tmps := by simp [hlen, hN] }
 refine Code.wp_mono ?_ (h w _ F _ _ h0)
 rintro e a' w' ⟨s', ⟨F', β, fb, mb, ow, hi⟩, hq⟩
 have key : (∃ ds' ys, Dw Γ s' fn.results.toList ds' ys ∧ tupD ds' = r ∧ ys.Nodup ∧ D.closed.closedL ds' = true ∧ LookMs s'.M ids ks' ∧ ∀ id, id ∈ ids → Sum.inr id ∉ ys) → a'.defers = [] ∧ ∃ v, (results fn a'.tmps).run P w' = .ok v w' ∧
   ∃ v' F'' br bs', Ending.returned v = .returned v' ∧ (∀ b, F b → F'' b) ∧ (∀ b, F'' b → F b ∨ b ∈ ids.flatMap mb0 ∨ w.heap.size ≤ b) ∧ (∀ b, F'' b → b < w'.heap.size) ∧ RelD w' F'' BS [v'] [r] br ∧ FX w' ks' bs' ∧ (br ++ bs').Nodup ∧ (∀ b, b ∈ br ++ bs' → ¬ F'' b ∧ (b ∈ ids.flatMap mb0 ∨ (w.heap.size ≤ b ∧ b < w'.heap.size))) ∧
   w'.os = w.os ∧ w'.tape = w.tape ∧ w'.output = w.output ∧ w.heap.size ≤ w'.heap.size ∧ ∀ b, b < w.heap.size → b ∉ ids.flatMap mb0 → w'.heap[b]? = w.heap[b]? := by
  rintro ⟨ds', ys, h1, hr, h2, h3, h4, h5⟩
  obtain ⟨vs, br, q1, q2, q3, q4⟩ := DQ hΓ hi h1 h2
  have q5 := q2.closed (β' := BS) h3
  have hres := Cx (P := P) fn a'.tmps q1
  have hfn : (ids.flatMap mb).Nodup := Cq hnd (fun i _ => hi.nmem i) fun i j b _ _ h6 h7 => by
   have e1 := hi.omem i b h6
   rw [hi.omem j b h7] at e1;cases e1; rfl
  refine ⟨hi.defers, _, hres, _, F', br, ids.flatMap mb, rfl, hi.f0, fun b hb => ?_, hi.fin, ?_, EA h4.len fun p hp => ?_, Nq.2 ⟨q3, hfn, fun p hp q hq e => ?_⟩, fun b hb => ?_, hi.os, hi.tape, hi.output, hi.size, fun b hb hn => hi.keep b hb hn⟩
  ·rcases hi.fnew b hb with h | h | h
   ·exact .inl h
   ·exact .inr (.inr h)
   ·exact .inr (.inl h)
  ·rw [← hr]
   have hl := q5.length
   match vs, ds', hl, q5 with
   | [], [], _, q5 => cases q5; exact RelD.tup (arr := #[]) (l := []) .done .done
   | [v], [d], _, q5 => exact q5
   | v :: v2 :: vs, d :: d2 :: ds', _, q5 => simpa [tupD] using RelD.tup (arr := (v :: v2 :: vs).toArray) q5 .done
  ·obtain ⟨g1, g2⟩ := h4.at p hp
   have := hi.mem p.1
   rw [g1] at this;exact this.shut g2
  ·subst e
   obtain ⟨y, g1, g2⟩ := q4 p hp
   obtain ⟨i, hii, hpi⟩ := ON.1 hq
   rw [hi.omem i p hpi] at g1;cases g1;exact h5 i hii g2
  ·have : ow b ≠ none := by
    rcases Nn.1 hb with hb | hb
    ·obtain ⟨y, g1, _⟩ := q4 b hb; rw [g1]; simp
    ·obtain ⟨i, hii, hpi⟩ := ON.1 hb; rw [hi.omem i b hpi]; simp
   obtain ⟨g1, g2, g3⟩ := hi.own b this
   exact ⟨g1, g3.symm.imp (fun h => h) fun h => ⟨h, g2⟩⟩
 cases e with
 | normal => exact key hq
 | ret => exact key hq
 | _ => exact hq.elim
inductive ResQ (s : St) : List D → List D → Prop
 | done : ResQ s [] []
 | t {x ds es} : ResQ s ds es → ResQ s (.t x :: ds) (.t x :: es)
 | nil {ds es} (n : Nat) : ResQ s ds es → ResQ s (.nil :: ds) (.t (.list n []) :: es)
 | pin {id i off b n cc ds es} (pid : Nat) : lookM s.M pid = some (.pin id b n cc) → ResQ s ds es → ResQ s (.ref id i off :: ds) (.t (.v (.pointer (some ⟨b, i * n + off, none⟩))) :: es)
theorem ResQ.pin0 {id b n cc ds es} (pid : Nat) (h : lookM s.M pid = some (.pin id b n cc)) (k : ResQ s ds es) : ResQ s (.ref id 0 0 :: ds) (.t (.v (.pointer (some ⟨b, 0, none⟩))) :: es) := by
 have := ResQ.pin (i := 0) (off := 0) pid h k
 rwa [OY] at this
theorem ResQ.sound {a : Act} {w : World} {F β fb mb ow} (hi : Conc c s a w F β fb mb ow) {ds es : List D} (h : ResQ s ds es) : ∀ {vs bs}, RelD w F β vs ds bs → RelD w F BS vs es [] := by
 induction h with
 | done => intro vs bs hr; cases hr; exact .done
 | t _ ih =>
  intro vs bs hr
  cases hr with
  | t h1 h2 => exact .t h1 (ih h2)
  | tagg h1 h2 => exact .tagg h1 (ih h2)
 | nil n _ ih =>
  intro vs bs hr
  cases hr with
  | nil h2 => exact .t (.none .nil) (ih h2)
 | @pin id i off b n cc ds es pid hM _ ih =>
  intro vs bs hr
  have hm := hi.mem pid
  rw [hM] at hm
  cases hr with
  | ref q1 q2 =>
   have := hm.1
   rw [this] at q1;cases q1;exact .t (.v rfl .nil) (ih q2)
theorem Conc.lentF {a : Act} {w w' : World} {F β fb mb ow} (hi : Conc c s a w F β fb mb ow) {t : Nat} (ht : t < c.n) {v : Value} {r : D} {br bs' : List Nat} {ids : List Nat} {ks' : List Blk} (hnd : ids.Nodup) (hl : ids.length = ks'.length) (hsh : ks'.all Blk.shut = true) (hrn : r.closed = true) {F' : Nat → Prop} (p1 : ∀ b, F b → F' b) (p2 : ∀ b, F' b → F b ∨ b ∈ ids.flatMap mb ∨ w.heap.size ≤ b) (p3 : ∀ b, F' b → b < w'.heap.size) (p4 : ∀ b, b ∈ br ++ bs' → ¬ F' b)
  (q1 : RelD w' F' BS [v] [r] br) (q2 : FX w' ks' bs') (q3 : (br ++ bs').Nodup) (q4 : ∀ b, b ∈ br ++ bs' → b ∈ ids.flatMap mb ∨ (w.heap.size ≤ b ∧ b < w'.heap.size))
  (q5 : w'.os = w.os) (q6 : w'.tape = w.tape) (q7 : w'.output = w.output) (q8 : w.heap.size ≤ w'.heap.size) (q9 : ∀ b, b < w.heap.size → b ∉ ids.flatMap mb → w'.heap[b]? = w.heap[b]?) : Is c ⟨(t, r) :: s.fr, ids.zip ks' ++ s.M⟩ (a.put (some t) v) w' := by
 classical
 obtain ⟨mbn, hmb, rfl⟩ := CP hl hnd q2
 obtain ⟨n1, n2, n3⟩ := Nq.1 q3
 have hshut : ∀ p, p ∈ ids.zip ks' → p.2.shut = true := fun p hp => by
  rw [Np] at hsh;exact hsh p.2 (List.of_mem_zip (a := p.1) (b := p.2) hp).2
 have hlent : ∀ b, b ∈ ids.flatMap mb → ∃ i, i ∈ ids ∧ ow b = some (.inr i) := fun b hb => by
  obtain ⟨i, h1, h2⟩ := ON.1 hb
  exact ⟨i, h1, hi.omem i b h2⟩
 -- a block of what is not lent
 have stay : ∀ b y, ow b = some y → (∀ i, i ∈ ids → y ≠ .inr i) → b ∉ ids.flatMap mb ∧ b ∉ br ∧ (¬ ∃ i, i ∈ ids ∧ b ∈ mbn i) ∧ w'.heap[b]? = w.heap[b]? := fun b y hy hne => by
  have h1 : b ∉ ids.flatMap mb := fun h => by
   obtain ⟨i, h2, h3⟩ := hlent b h
   rw [hy] at h3; cases h3;exact hne i h2 rfl
  have hlt := (hi.own b (by rw [hy]; simp)).2.1
  have h2 : b ∉ br ++ ids.flatMap mbn := fun h => by
   rcases q4 b h with h | h
   ·exact h1 h
   ·omega
  refine ⟨h1, fun h => h2 (by simp [h]), fun ⟨i, h3, h4⟩ => h2 (List.mem_append_right _ (ON.2 ⟨i, h3, h4⟩)), q9 b hlt h1⟩
 have hFw : ∀ b, F b → w'.heap[b]? = w.heap[b]? := fun b hb => q9 b (hi.fin b hb) fun h => by
  obtain ⟨i, _, h3⟩ := hlent b h
  exact (hi.own b (by rw [h3]; simp)).1 hb
 have hnF : ∀ b, ow b ≠ none → b ∉ ids.flatMap mb → ¬ F' b := fun b h1 h2 h3 => by
  obtain ⟨g1, g2, _⟩ := hi.own b h1
  rcases p2 b h3 with h | h | h
  ·exact g1 h
  ·exact h2 h
  ·omega
 refine ⟨F', β, fun u => if t = u then br else fb u, fun i => if i ∈ ids then mbn i else mb i, fun b => if b ∈ br then some (.inl t) else if h : ∃ i, i ∈ ids ∧ b ∈ mbn i then some (.inr h.choose) else if b ∈ ids.flatMap mb then none else ow b, ?_⟩
 have howof : ∀ b y, ow b = some y → (∀ i, i ∈ ids → y ≠ .inr i) → (if b ∈ br then some (.inl t) else if h : ∃ i, i ∈ ids ∧ b ∈ mbn i then some (.inr h.choose) else if b ∈ ids.flatMap mb then none else ow b) = some y := fun b y hy hne => by
  obtain ⟨h1, h2, h3, _⟩ := stay b y hy hne
  rw [if_neg h2, dif_neg h3, if_neg h1, hy]
 exact { hi with
  fr := fun u => by
   rw [B0 _ _ _ _ (by rw [hi.tmps]; exact ht)];simp only [look];split
   ·exact q1.closed (by simp [D.closed.closedL, hrn])
   ·exact (hi.fr u).mono p1 hFw (fun b h => (stay b _ (hi.ofr u b h) (by simp)).2.2.2) fun _ => rfl
  mem := fun i => by
   by_cases hii : i ∈ ids
   ·obtain ⟨k, h1, h2⟩ := DF (M := s.M) hl hii
    rw [h1];simp only [if_pos hii];exact (hmb _ h2).shut (hshut _ h2)
   ·rw [Cm hii]
    simp only [if_neg hii]
    have := hi.mem i
    cases h : lookM s.M i with
    | none => rw [h] at this; exact this
    | some k =>
     rw [h] at this
     exact RelB.monoF p1 this hFw fun b h => (stay b _ (hi.omem i b h) (fun j hj e => by cases e; exact hii hj)).2.2.2
  ofr := fun u b hb => by
   split at hb
   ·rename_i e; subst e; rw [if_pos hb]
   ·exact howof b _ (hi.ofr u b hb) (by simp)
  omem := fun i b hb => by
   split at hb
   ·rename_i hii
    have hnb : b ∉ br := fun h => n3 b h b (ON.2 ⟨i, hii, hb⟩) rfl
    have hex : ∃ i, i ∈ ids ∧ b ∈ mbn i := ⟨i, hii, hb⟩
    rw [if_neg hnb, dif_pos hex]
    have := hex.choose_spec
    rw [DM n2 this.1 hii this.2 hb]
   ·rename_i hii
    exact howof b _ (hi.omem i b hb) (fun j hj e => by cases e; exact hii hj)
  nfr := fun u => by
   split
   ·exact n1
   ·exact hi.nfr u
  nmem := fun i => by
   split
   ·rename_i hii; exact flat_nodup_at n2 hii
   ·exact hi.nmem i
  own := fun b hb => by
   have hq : b ∈ br ++ ids.flatMap mbn → ¬ F' b ∧ b < w'.heap.size ∧ (c.w0.heap.size ≤ b ∨ c.G b) := fun h0 => by
    rcases q4 b h0 with h | ⟨h1, h2⟩
    ·obtain ⟨i, _, h3⟩ := hlent b h
     obtain ⟨g1, g2, g3⟩ := hi.own b (by rw [h3]; simp)
     exact ⟨p4 b h0, OO g2 q8, g3⟩
    ·exact ⟨p4 b h0, h2, .inl (N7 hi.size h1)⟩
   split at hb
   ·rename_i h; exact hq (by simp [h])
   ·split at hb
    ·rename_i h; obtain ⟨i, h1, h2⟩ := h; exact hq (List.mem_append_right _ (ON.2 ⟨i, h1, h2⟩))
    ·split at hb
     ·exact absurd rfl hb
     ·rename_i hnl
      obtain ⟨g1, g2, g3⟩ := hi.own b hb
      exact ⟨hnF b hb hnl, OO g2 q8, g3⟩
  fin := p3
  f0 := fun b h => p1 b (hi.f0 b h)
  fnew := fun b h => by
   rcases p2 b h with h | h | h
   ·exact hi.fnew b h
   ·obtain ⟨i, _, h3⟩ := hlent b h
    exact .inr (hi.own b (by rw [h3]; simp)).2.2
   ·exact .inr (.inl (N7 hi.size h))
  os := q5.trans hi.os
  tape := q6.trans hi.tape
  output := q7.trans hi.output
  size := N7 hi.size q8
  keep := fun b h hg => by
   rw [q9 b (OO h hi.size) fun h2 => ?_]
   ·exact hi.keep b h hg
   ·obtain ⟨i, _, h3⟩ := hlent b h2
    rcases (hi.own b (by rw [h3]; simp)).2.2 with h4 | h4
    ·omega
    ·exact hg h4
  defers := (BP a _ v).trans hi.defers
  tmps := (B8 a _ v).trans hi.tmps }
theorem EP {t rid : Nat} {fo : Operand} {args : Array Operand} {tys : Array TypeId} {f : FuncId} {es : List D} {rv : List Value} {rt : List T} {ks : List Blk} {r : D} {ks' : List Blk} (ids : List Nat) (hg : o.guard = none) (hd : o.dst = some t) (ht : t < c.n)
  (ho : o.op = .call { callee := .value fo, args := args, argTypes := tys }) (hf : opd s.fr fo = .clo f []) (hes : ResQ s (args.toList.map (opd s.fr)) es) (hro : lookM s.M rid = some (.ro rv rt)) (hM : LookMs s.M ids ks) (hnd : ids.Nodup)
  (hm : ProcF P f es rv rt ks r ks') (hr : r.closed = true) (hl' : ids.length = ks'.length) (hks' : ks'.all Blk.shut = true)
  (k : WO P c ops rest ⟨(t, r) :: s.fr, ids.zip ks' ++ s.M⟩ Q) : WO P c ops (o :: rest) s Q := by
 rintro a w ⟨F, β, fb, mb, ow, hi⟩
 obtain ⟨bf, hrf, h1⟩ := hi.opd fo
 rw [hf] at hrf
 obtain ⟨arr, bs', hv, hr1, rfl⟩ := Br hrf
 have ha : arr = #[] := by
  have := hr1.length
  simpa using this
 subst ha
 obtain ⟨bs, hr2, h2⟩ := FA hi args.toList
 have hsound := hes.sound hi hr2
 have hrun : (execOp a.eval o).run P w = .ok (.enter f (args.map a.eval)) w := by
  simp [execOp, ho, resolve, hv, Deferred.ofValue, invoke, Bq hm.1]
 refine wpList_plain hg fun K hK => ?_
 unfold Oper.wp;rw [hrun, Oper.upon_enter]
 have hrel : ∀ p, p ∈ ids.zip ks → RelB w CE BS 0 p.2 (mb p.1) := fun p hp => by
  obtain ⟨g1, g2⟩ := hM.at p hp
  have := hi.mem p.1
  rw [g1] at this;exact this.shut g2
 have hfn : (ids.flatMap mb).Nodup := Cq hnd (fun i _ => hi.nmem i) fun i j b _ _ h6 h7 => by
  have e1 := hi.omem i b h6
  rw [hi.omem j b h7] at e1;cases e1; rfl
 have hrr := hi.mem rid
 rw [hro] at hrr;refine (hm.2 w F (args.map a.eval) (ids.flatMap mb) hi.fin (by simpa using hsound) hrr.1 (EA hM.len hrel) hfn fun b hb => ?_).mono ?_
 ·obtain ⟨i, h3, h4⟩ := ON.1 hb
  have g := hi.own b (by rw [hi.omem i b h4]; simp)
  exact ⟨g.2.1, g.1⟩
 rintro e w' ⟨v, F', br, bs', rfl, p1, p2, p3, q1, q2, q3, q4, q5, q6, q7, q8, q9⟩
 dsimp only;rw [hd];exact hK _ _ (k _ _ (hi.lentF ht hnd hl' hks' hr p1 p2 p3 (fun b hb => (q4 b hb).1) q1 q2 q3 (fun b hb => (q4 b hb).2) q5 q6 q7 q8 q9))
end
end Go.Eng
end
section
/- A list that has a name is from now on only read; what is read, read by what is known of a cell. -/
namespace Go.Eng
open Go.RowKit
section
variable {P : Program} {c : Ctx} {s : St} {Q : Exit → St → Prop} {ops : Array Oper} {rest : List Oper} {o : Oper}
end
end Go.Eng
end
section
/- Structs of two whole numbers, compared with themselves. -/
namespace Go.Eng
open Go.RowKit
section
variable {P : Program} {c : Ctx} {s : St} {Q : Exit → St → Prop} {ops : Array Oper} {rest : List Oper} {o : Oper}
end
end Go.Eng
end
section
/- Runs of operations in order, cut in two: where ways meet. -/
namespace Go.Eng
open Go.RowKit
section
variable {P : Program} {c : Ctx} {s : St} {Q : Exit → St → Prop} {ops : Array Oper} {rest : List Oper} {o : Oper}
end
end Go.Eng
end
section
/- Functions whose answer is one of many: what is told of it is a property; the rules for their calls. -/
namespace Go.Eng
open Go.RowKit
def PureX {α : Type} (P : Program) (f : FuncId) (ds : List D) (r : α → D) (p : α → Prop) : Prop :=
 ∀ (w : World) (F : Nat → Prop) (args : Array Value), (∀ b, F b → b < w.heap.size) → RelD w F (fun _ => none) args.toList ds [] →
  Calls P f args w fun e w' => ∃ x v F' bs, p x ∧ e = .returned v ∧ Below w.heap.size w w' ∧ (∀ b, F b → F' b) ∧ (∀ b, F' b → F b ∨ (w.heap.size ≤ b ∧ b < w'.heap.size)) ∧
   RelD w' F' (fun _ => none) [v] [r x] bs ∧ bs.Nodup ∧ ∀ b, b ∈ bs → w.heap.size ≤ b ∧ b < w'.heap.size ∧ ¬ F' b
def FunX {α : Type} (P : Program) (f : FuncId) (ds : List D) (r : α → D) (p : α → Prop) : Prop := ET P f ∧ PureX P f ds r p
section
variable {P : Program} {c : Ctx} {ops : Array Oper} {rest : List Oper} {s : St} {Q : Exit → St → Prop} {o : Oper}
def EndsX {α : Type} (Γ : Tys) (fn : Func) (ds : α → List D) (p : α → Prop) (e : Exit) (s : St) : Prop := ∃ x, p x ∧ Ends Γ fn (ds x) e s
theorem EndsX.of {α : Type} {Γ : Tys} {fn : Func} {ds : α → List D} {p : α → Prop} {e : Exit} (x : α) (hx : p x) (h : Ends Γ fn (ds x) e s) : EndsX Γ fn ds p e s := ⟨x, hx, h⟩
theorem FunX.intro {α : Type} {p : α → Prop} {Γ : Tys} (hΓ : Γ.ok P) {f : FuncId} {fn : Func} {code : Code} (hf : P.funcs[f]? = some fn) (hb : fn.body = some code) (hname : (fn.name == "runtime.NumGoroutine") = false) {N : Nat} {ds : List D} {rs : α → List D} (hN : ds.length + (fn.ntmps - ds.length) = N)
  (h : ∀ w0 G F0, W P ⟨w0, G, F0, N⟩ code ⟨(List.range ds.length).zip ds, []⟩ (EndsX Γ fn rs p)) : FunX P f ds (fun x => tupD (rs x)) p := by
 refine ⟨⟨fn, hf, by rw [hb]; rfl, hname⟩, ?_⟩;intro w F args hF hargs
 have hlen := hargs.length
 simp only [N1] at hlen;refine calls_of_wp hf hb ?_
 have h0 : Is ⟨w, fun _ => False, F, N⟩ ⟨(List.range ds.length).zip ds, []⟩ { tmps := args ++ Array.replicate (fn.ntmps - args.size) undef, defers := [] } w := by
  refine ⟨F, fun _ => none, fun _ => [], fun _ => [], fun _ => none, ?_⟩
  have hlook : ∀ (l : List D) (k t : Nat), look ((List.range' k l.length).zip l) (k + t) = (l[t]?).getD .top := by
   intro l
   induction l with
   | nil => intro k t; simp [look]
   | cons d l ih =>
    intro k t;rw [Nx, List.range'_succ, List.zip_cons_cons];simp only [look]
    cases t with
    | zero => simp
    | succ t =>
     rw [if_neg (by omega), show k + (t + 1) = k + 1 + t from by omega, ih]
     simp
  have hl0 : ∀ t, look ((List.range ds.length).zip ds) t = (ds[t]?).getD .top := fun t => by
   have := hlook ds 0 t
   simpa [List.range_eq_range'] using this
  exact {
   fr := fun t => by
    rw [hl0]
    cases hd : ds[t]? with
    | none => exact .top .done
    | some d =>
     have hlt := (List.getElem?_eq_some_iff.1 hd).1
     obtain ⟨v, h1, h2⟩ := hargs.get0 t hd
     have hlt2 : t < args.size := by rw [hlen]; exact hlt
     have hv : (args ++ Array.replicate (fn.ntmps - args.size) undef).getD t undef = v := by
      rw [No, Array.getElem?_append_left hlt2]
      have : args[t]? = some v := by simpa using h1
      rw [this]; rfl
     rw [hv];exact h2
   mem := fun id => rfl
   ofr := by simp
   omem := by simp
   nfr := by simp
   nmem := by simp
   own := by simp
   fin := hF
   f0 := fun _ h => h
   fnew := fun _ h => .inl h
   f0in := fun b h => ⟨hF b h, by simp⟩
   gin := by simp
   os := rfl
   tape := rfl
   output := rfl
   size := Nm _
   keep := fun _ _ _ => rfl
   defers := rfl
   tmps := by simp [hlen, hN] }
 refine Code.wp_mono ?_ (h w (fun _ => False) F _ _ h0)
 rintro e a' w' ⟨s', ⟨F', β, fb, mb, ow, hi⟩, hq⟩
 have key : ∀ x, p x → ∀ ys, Dw Γ s' fn.results.toList (rs x) ys → ys.Nodup → D.closed.closedL (rs x) = true → a'.defers = [] ∧ ∃ v, (results fn a'.tmps).run P w' = .ok v w' ∧
   ∃ x v' F'' bs, p x ∧ Ending.returned v = .returned v' ∧ Below w.heap.size w w' ∧ (∀ b, F b → F'' b) ∧ (∀ b, F'' b → F b ∨ (w.heap.size ≤ b ∧ b < w'.heap.size)) ∧
   RelD w' F'' (fun _ => none) [v'] [tupD (rs x)] bs ∧ bs.Nodup ∧ ∀ b, b ∈ bs → w.heap.size ≤ b ∧ b < w'.heap.size ∧ ¬ F'' b := by
  intro x hx ys h1 h2 h3
  obtain ⟨vs, bs, q1, q2, q3, q4⟩ := DQ hΓ hi h1 h2
  have q5 := q2.closed (β' := fun _ => none) h3
  have hres := Cx (P := P) fn a'.tmps q1
  refine ⟨hi.defers, _, hres, x, _, F', bs, hx, rfl, ⟨hi.os, hi.tape, hi.output, hi.size, fun b hb => hi.keep b hb (by simp)⟩, hi.f0, fun b hb => ?_, ?_, q3, fun b hb => ?_⟩
  ·rcases hi.fnew b hb with h | h | h
   ·exact .inl h
   ·exact .inr ⟨h, hi.fin b hb⟩
   ·exact h.elim
  ·have hl := q5.length
   generalize rs x = rs' at hl q5
   match vs, rs', hl, q5 with
   | [], [], _, q5 => cases q5; exact RelD.tup (arr := #[]) (l := []) .done .done
   | [v], [d], _, q5 => exact q5
   | v :: v2 :: vs, d :: d2 :: ds', _, q5 => simpa [tupD] using RelD.tup (arr := (v :: v2 :: vs).toArray) q5 .done
  ·obtain ⟨y, h5, _⟩ := q4 b hb
   obtain ⟨h6, h7, h8⟩ := hi.own b (by rw [h5]; simp)
   exact ⟨h8.resolve_right (by simp), h7, h6⟩
 cases e with
 | normal => obtain ⟨x, hx, ys, h1, h2, h3⟩ := hq; exact key x hx ys h1 h2 h3
 | ret => obtain ⟨x, hx, ys, h1, h2, h3⟩ := hq; exact key x hx ys h1 h2 h3
 | _ => obtain ⟨x, hx, hq⟩ := hq; exact hq.elim
theorem FunX.begin {α : Type} {p : α → Prop} {Γ : Tys} (hΓ : Γ.ok P) {f : FuncId} {fn : Func} {code : Code} (hf : P.funcs[f]? = some fn) (hb : fn.body = some code) (hname : (fn.name == "runtime.NumGoroutine") = false) {N : Nat} {ds : List D} {rs : α → List D} (fr : List (Nat × D)) (hN : ds.length + (fn.ntmps - ds.length) = N)
  (hfr : (List.range ds.length).zip ds = fr)
  (h : ∀ w0 G F0, W P ⟨w0, G, F0, N⟩ code ⟨fr, []⟩ (EndsX Γ fn rs p)) : FunX P f ds (fun x => tupD (rs x)) p := by
 subst hfr;exact FunX.intro hΓ hf hb hname hN h
theorem Jj {α : Type} {p : α → Prop} {t : Nat} {fo : Operand} {args : Array Operand} {tys : Array TypeId} {f : FuncId} {caps es : List D} {r : α → D} (hg : o.guard = none) (hd : o.dst = some t) (ht : t < c.n)
  (ho : o.op = .call { callee := .value fo, args := args, argTypes := tys }) (hf : opd s.fr fo = .clo f caps) (hes : ResL s (args.toList.map (opd s.fr) ++ caps) es) (hc : FunX P f es r p) (hn : ∀ x, (r x).noImm = true)
  (k : ∀ x, p x → WO P c ops rest ⟨(t, r x) :: s.fr, s.M⟩ Q) : WO P c ops (o :: rest) s Q := by
 rintro a w ⟨F, β, fb, mb, ow, hi⟩
 obtain ⟨bf, hrf, h1⟩ := hi.opd fo
 rw [hf] at hrf
 obtain ⟨arr, bs', hv, hr1, rfl⟩ := Br hrf
 obtain ⟨bs, hr2, h2⟩ := EB hi args.toList
 have hall := hr2.append hr1
 have hsound := hes.sound hi hall fun b hb => by
  rcases Nn.1 hb with hb | hb
  ·exact h2 b hb
  ·rcases h1 with rfl | ⟨u, _, rfl⟩
   ·cases hb
   ·exact (hi.own b (by rw [hi.ofr u b hb]; simp)).2.1
 have hrun : (execOp a.eval o).run P w = .ok (.enter f (args.map a.eval ++ arr)) w := by
  simp [execOp, ho, resolve, hv, Deferred.ofValue, invoke, Bq hc.1]
 refine wpList_plain hg fun K hK => ?_
 unfold Oper.wp;rw [hrun, Oper.upon_enter];refine (hc.2 w (fun b => b < w.heap.size) (args.map a.eval ++ arr) (fun b h => h) (by simpa using hsound)).mono ?_
 rintro e w' ⟨x, v, F', bs2, hx, rfl, hb, _, _, hr, hnd, hbs⟩
 dsimp only;rw [hd];refine hK _ _ (k x hx _ _ ⟨F, β, _, mb, _, hi.called ht hb (fun _ h => h) (fun _ h => .inl h) (hr.noImm (by simp [D.noImm.noImmL, hn x])) hnd fun b h => ?_⟩)
 obtain ⟨h3, h4, h5⟩ := hbs b h
 exact ⟨h3, h4, fun h6 => by have := hi.fin b h6; omega⟩
end
end Go.Eng
end
section
/- An answer that is owned may be taken as one that is only read. -/
namespace Go.Eng
open Go.RowKit
theorem NF {w : World} {F : Nat → Prop} {β : Ak} {v : Value} {d d' : D} {bs : List Nat} (h : frz d = some d') (hr : RelD w F β [v] [d] bs) : RelD w (fun b => F b ∨ b ∈ bs) β [v] [d'] [] := by
 unfold frz at h;split at h
 ·cases h
  cases hr with
  | own q1 q2 => cases q2; exact .t (q1.rel fun b hb => .inr (by simpa using hb)) .done
 ·split at h
  ·rename_i ts hts
   cases h
   cases hr with
   | agg h0 q1 q2 => cases q2; exact .tagg ((frzL_rel q1 hts h0).mono (w := w) (w' := w) (fun b hb => by simpa using hb) fun _ _ => rfl) .done
  ·cases h
 ·cases h
def frzC : D → Option D
 | .t x => some (.t x)
 | .agg l => (KR l).map fun ts => .agg (ts.map .t)
 | d => frz d
def LB : List D → Option (List D)
 | [] => some []
 | d :: ds => match frzC d with
  | some x => match LB ds with
   | some xs => some (x :: xs)
   | none => none
  | none => none
def frzR : D → Option D
 | .tup l => (LB l).map .tup
 | d => frzC d
theorem JW {w : World} {F : Nat → Prop} {β : Ak} {v : Value} {d d' : D} {bs : List Nat} (h : frzC d = some d') (hr : RelD w F β [v] [d] bs) : RelD w (fun b => F b ∨ b ∈ bs) β [v] [d'] [] := by
 unfold frzC at h;split at h
 ·cases h
  have hb := hr.free1 rfl
  subst hb
  exact hr.mono (w := w) (w' := w) (fun _ h => .inl h) (fun _ _ => rfl) (fun _ _ => rfl) fun _ => rfl
 ·rename_i l
  cases hl : KR l with
  | none => rw [hl] at h; cases h
  | some ts =>
   rw [hl] at h;cases h
   cases hr with
   | agg h0 q1 q2 =>
    cases q2;exact .agg h0 (relD_ts ((frzL_rel q1 hl h0).mono (w := w) (w' := w) (fun b hb => by simpa using hb) fun _ _ => rfl)) .done
 ·exact NF h hr
theorem Ho {w : World} {F : Nat → Prop} {β : Ak} : ∀ {ds ds' : List D} {vs : List Value} {bs : List Nat}, LB ds = some ds' → RelD w F β vs ds bs → RelD w (fun b => F b ∨ b ∈ bs) β vs ds' []
 | [], ds', vs, bs, h, hr => by
  cases h;cases hr;exact .done
 | d :: ds, ds', vs, bs, h, hr => by
  obtain ⟨v, vs', rfl⟩ : ∃ v vs', vs = v :: vs' := by
   have := hr.length
   cases vs with
   | nil => simp at this
   | cons v vs => exact ⟨v, vs, rfl⟩
  obtain ⟨b1, b2, h1, h2, rfl⟩ := hr.cons
  unfold LB at h;split at h
  ·rename_i x hx
   split at h
   ·rename_i xs hxs
    cases h
    have e1 := (JW hx h1).mono (w := w) (w' := w) (F' := fun b => F b ∨ b ∈ b1 ++ b2) (β' := β) (fun b hb => by rcases hb with hb | hb; exact .inl hb; exact .inr (by simp [hb])) (fun _ _ => rfl) (fun _ _ => rfl) fun _ => rfl
    have e2 := (Ho hxs h2).mono (w := w) (w' := w) (F' := fun b => F b ∨ b ∈ b1 ++ b2) (β' := β) (fun b hb => by rcases hb with hb | hb; exact .inl hb; exact .inr (by simp [hb])) (fun _ _ => rfl) (fun _ _ => rfl) fun _ => rfl
    exact RelD.cons' e1 e2
   ·cases h
  ·cases h
theorem MD {w : World} {F : Nat → Prop} {β : Ak} {v : Value} {d d' : D} {bs : List Nat} (h : frzR d = some d') (hr : RelD w F β [v] [d] bs) : RelD w (fun b => F b ∨ b ∈ bs) β [v] [d'] [] := by
 unfold frzR at h;split at h
 ·rename_i l
  cases hl : LB l with
  | none => rw [hl] at h; cases h
  | some l' =>
   rw [hl] at h;cases h
   cases hr with
   | tup q1 q2 =>
    cases q2;exact .tup ((Ho hl q1).mono (w := w) (w' := w) (fun b hb => by simpa using hb) (fun _ _ => rfl) (fun _ _ => rfl) fun _ => rfl) .done
 ·exact JW h hr
theorem Fun.frz {P : Program} {f : FuncId} {ds : List D} {r r' : D} (h : Fun P f ds r) (hr : frzR r = some r') : Fun P f ds r' := by
 refine ⟨h.1, fun w F args hF hargs => (h.2 w F args hF hargs).mono ?_⟩
 rintro e w' ⟨v, F', bs, rfl, h1, h2, h3, h4, h5, h6⟩
 refine ⟨v, fun b => F' b ∨ b ∈ bs, [], rfl, h1, fun b hb => .inl (h2 b hb), fun b hb => ?_, MD hr h4, by simp, by simp⟩
 rcases hb with hb | hb
 ·exact h3 b hb
 ·have := h6 b hb; exact .inr ⟨this.1, this.2.1⟩
end Go.Eng
end
section
/- Texts: what is known of them, and the operations on them. -/
namespace Go.Eng
open Go.RowKit
section
variable {P : Program} {c : Ctx} {s : St} {Q : Exit → St → Prop} {ops : Array Oper} {rest : List Oper} {o : Oper} {M0 : List (Nat × Blk)} {acc : List Dl}
end
end Go.Eng
end
section
/- Texts, in a region of open order. -/
namespace Go.Eng
open Go.RowKit
section
variable {P : Program} {c : Ctx} {s : St} {ops : Array Oper} {rest : List Oper} {o : Oper} {M0 : List (Nat × Blk)} {acc : List Dl}
end
end Go.Eng
end
section
/- Functions that read variables of the program's that are laid: what lies in them is told by a property of the world. -/
namespace Go.Eng
open Go.RowKit
structure Keeps (Λ : World → (Nat → Prop) → Prop) (c : Ctx) : Prop where
 g : ∀ b, ¬ c.G b
 k : ∀ w F, Below c.w0.heap.size c.w0 w → (∀ b, c.F0 b → F b) → Λ w F
section
variable {P : Program} {Λ : World → (Nat → Prop) → Prop} {c : Ctx} {s : St} {ops : Array Oper} {rest : List Oper} {o : Oper}
end
section
variable {P : Program} {Λ : World → (Nat → Prop) → Prop}
end
section
variable {P : Program} {Λ : World → (Nat → Prop) → Prop} {c : Ctx} {s : St} {Q : Exit → St → Prop} {ops : Array Oper} {rest : List Oper} {o : Oper}
/-! ### Whole functions -/
end
section
variable {P : Program} {Λ : World → (Nat → Prop) → Prop} {c : Ctx} {s : St} {Q : St → Prop} {ops : Array Oper} {rest : List Oper} {o : Oper}
end
section
variable {P : Program} {Λ : World → (Nat → Prop) → Prop} {c : Ctx} {s : St} {Q : St → List Dl → Prop} {M0 : List (Nat × Blk)} {acc : List Dl} {ops : Array Oper} {rest : List Oper} {o : Oper}
end
end Go.Eng
end
section
/- Laid variables that hold a row of texts: their parts read, and a part of the row handed on. -/
namespace Go.Eng
open Go.RowKit
section
variable {P : Program} {Λ : World → (Nat → Prop) → Prop} {c : Ctx} {s : St} {Q : Exit → St → Prop} {ops : Array Oper} {rest : List Oper} {o : Oper} {M0 : List (Nat × Blk)} {acc : List Dl}
end
section
variable {P : Program} {Λ : World → (Nat → Prop) → Prop} {c : Ctx} {s : St} {ops : Array Oper} {rest : List Oper} {o : Oper} {M0 : List (Nat × Blk)} {acc : List Dl}
end
end Go.Eng
end
section
/- Guards in regions of open order that make memory or write; library functions, known by what they answer; an error asked whether it is nil. -/
namespace Go.Eng
open Go.RowKit
section
variable {P : Program} {c : Ctx} {s : St} {ops : Array Oper} {rest : List Oper} {o : Oper} {M0 : List (Nat × Blk)} {acc : List Dl} {Q : St → List Dl → Prop}
end
section
variable {P : Program} {Λ : World → (Nat → Prop) → Prop}
end
section
variable {P : Program} {c : Ctx} {s : St} {ops : Array Oper} {rest : List Oper} {o : Oper} {Q : Exit → St → Prop}
end
end Go.Eng
end
section
/- Rows over laid variables: from a law's walk to its row. -/
namespace Go.Eng
open Go.ChangeShapes Go.WideShapes Go.ChangeAt Go.RowKit
end Go.Eng
end
section
/- A text appended to a row of bytes of the call's own: whose the new row is. -/
namespace Go.Eng
open Go.RowKit Go.Lib
section
variable {P : Program} {w : World}
end
end Go.Eng
end
section
/- A builder of texts of the call's own: its writers, exactly. -/
namespace Go.Proofs
open Go.Shelf Go.RowKit Go.Lib
variable {P : Program} {ρ : Ren}
structure BldKept (b : Nat) (v v' : Value) (w w' : World) : Prop where
 os : w'.os = w.os
 tape : w'.tape = w.tape
 output : w'.output = w.output
 size : w.heap.size ≤ w'.heap.size
 block : ∀ k, k < w.heap.size → k ≠ b → v.ownBlock ≠ some k → w'.heap[k]? = w.heap[k]?
 row : ∀ g, v'.ownBlock = some g → v.ownBlock = some g ∨ (w.heap.size ≤ g ∧ g < w'.heap.size)
set_option maxHeartbeats 2000000
set_option maxRecDepth 100000
end Go.Proofs
end
section
/- A builder of texts of the call's own, lent to its writers. -/
namespace Go.Eng
open Go.RowKit Go.Lib Go.Shelf Go.Proofs
section
variable {P : Program} {ρ : Ren}
end
section
variable {P : Program} {c : Ctx} {s : St} {Q : Exit → St → Prop} {ops : Array Oper} {rest : List Oper} {o : Oper}
end
end Go.Eng
end
section
/- Bytes as a text, in a region of open order. -/
namespace Go.Eng
open Go.RowKit
section
variable {P : Program} {c : Ctx} {s : St} {ops : Array Oper} {rest : List Oper} {o : Oper} {M0 : List (Nat × Blk)} {acc : List Dl}
end
end Go.Eng
end
section
/- Cells appended to a row of the call's own: whose the new row is. -/
namespace Go.Eng
open Go.RowKit Go.Lib
section
variable {P : Program} {w : World}
end
end Go.Eng
end
section
/- Rows: lists of the call's own that lie at a told place; lent, named, told. -/
namespace Go.Eng
open Go.RowKit
section
variable {P : Program} {c : Ctx} {s : St} {Q : Exit → St → Prop} {ops : Array Oper} {rest : List Oper} {o : Oper}
end
end Go.Eng
end
section
/- Calls that are lent memory and leave it as it was: in regions of open order, too; and where the answer is a place in a named list. -/
namespace Go.Eng
open Go.RowKit
section
variable {P : Program} {c : Ctx} {s : St} {ops : Array Oper} {rest : List Oper} {o : Oper}
inductive Lh (A : List Nat) (M : List (Nat × Blk)) (i : Nat) : Blk → Prop
 | same {k : Blk} : lookM M i = some k → k.shut = true → Lh A M i k
 | box {cells : List D} {b n : Nat} (pid : Nat) : lookM M i = some (.box cells) → lookM M pid = some (.pin i b n 1) → cells.length = n → D.noImm.noImmL cells = true → A.contains pid = false → Lh A M i (.obox (.pointer (some ⟨b, 0, none⟩)) cells)
 | row {b n cap : Nat} {xs : List T} (pid : Nat) : lookM M i = some (.L n xs) → lookM M pid = some (.pin i b n cap) → A.contains pid = false → Lh A M i (.row b cap n xs)
variable {M0 : List (Nat × Blk)} {acc : List Dl}
end
end Go.Eng
end
section
/- A told header is loaded in a region of open order, and what it leads to is taken along. -/
namespace Go.Eng
open Go.RowKit
section
variable {P : Program} {c : Ctx} {s : St} {ops : Array Oper} {rest : List Oper} {o : Oper}
end
end Go.Eng
end
section
/- Regions of open order that write, in which an operation may look at what another one writes, if it reads the same either way. -/
namespace Go.Eng
open Go.RowKit
section
variable {P : Program} {c : Ctx} {s : St}
def QV (P : Program) (c : Ctx) (ops : Array Oper) (V : St → Prop) : List (List Nat) → List Oper → St → List Dl → (St → List Dl → Prop) → Prop
 | _, [], s, acc, Q => Q s acc
 | bs, o :: rest, s, acc, Q => ∃ x : Dl, (∀ s', AgreeG ops o s.fr (CG (bs.headD []) s.M) s' → V s' → (x.b = true → Cl x.t s') → StepTo P c ops o s' (x.on s')) ∧ QV P c ops V bs.tail rest (x.on s) (acc ++ [x]) Q
theorem QV.steps {ops : Array Oper} {V : St → Prop} : ∀ {l : List Oper} {bs : List (List Nat)} {s : St} {acc : List Dl} {Q : St → List Dl → Prop}, QV P c ops V bs l s acc Q → ∃ xs : List Dl, xs.length = l.length ∧ Q (onL xs s) (acc ++ xs) ∧
  ∀ i o, l[i]? = some o → ∃ x, xs[i]? = some x ∧ ∀ s', AgreeG ops o (onL (xs.take i) s).fr (CG (bs.getD i []) (onL (xs.take i) s).M) s' → V s' → (x.b = true → Cl x.t s') → StepTo P c ops o s' (x.on s')
 | [], _, s, acc, Q, h => ⟨[], rfl, by rw [OD]; exact h, by simp⟩
 | o :: rest, bs, s, acc, Q, h => by
  obtain ⟨x, h2, h3⟩ := h
  obtain ⟨xs, q1, q2, q3⟩ := QV.steps h3
  refine ⟨x :: xs, by simp [q1], by simpa [onL] using q2, fun i o' hi => ?_⟩
  cases i with
  | zero =>
   simp at hi; subst hi
   refine ⟨x, rfl, ?_⟩
   have e : bs.getD 0 [] = bs.headD [] := by cases bs <;> rfl
   rw [e];exact h2
  | succ i =>
   obtain ⟨y, p1, p3⟩ := q3 i o' (by simpa using hi)
   refine ⟨y, by simpa using p1, ?_⟩
   have e : bs.getD (i + 1) [] = bs.tail.getD i [] := by cases bs <;> simp
   rw [e]
   simpa [onL] using p3
variable {Q : Exit → St → Prop}
theorem WR_Vt {l1 l2 : List Oper} {ops : Array Oper} (V : St → Prop) (bads : List (List Nat)) (he : ops = (l1 ++ l2).toArray) (hB : BR ops l1.length = true) (hT : l2 = [] ∨ DZ ops l1.length = true)
  (h : QV P c ops V bads l1 s [] (fun s' xs => Lk ops l1 s xs bads = true ∧ (∀ X, V (mrg xs X s l1.length)) ∧ WO P c ops l2 s' Q)) : WR P c ops s Q := by
 obtain ⟨xs, hlen, ⟨hchk, hV, hend⟩, hstep⟩ := h.steps
 simp only [List.nil_append] at hchk hV
 have hops : ∀ j : Nat, j < l1.length → l1[j]? = ops[j]? := fun j hj => by subst he; rw [List.getElem?_toArray, List.getElem?_append_left hj]
 have hsz : l1.length ≤ ops.size := by subst he; simp
 refine WR_S he hB hT (fun X => mrg xs X s l1.length) (fun X hX => ?_) (fun X i o ho hXi hcl hdep => ?_) (fun X hX => ?_)
 ·rw [BZ (i := 0) (OQ _) fun j _ => hX j]
  exact Le.refl
 ·have hil : i < l1.length := (List.getElem?_eq_some_iff.1 ho).1
  obtain ⟨x, hx, hst⟩ := hstep i o ho
  have hoi : ops[i]? = some o := by rw [← hops i hil]; exact ho
  have hlt : ∀ k ok, ops[k]? = some ok → ∀ e, e ∈ ok.after → Region.binds .any e = true → e.on < k := fun k ok hk => CB hB hk
  have hcl' : ∀ j oj, ops[j]? = some oj → j < l1.length → X j = true → ∀ e, e ∈ oj.after → Region.binds .any e = true → X e.on = true := fun j oj hj hjl hXj => hcl j oj (by rw [hops j hjl]; exact hj) hXj
  -- what is done, and what is not
  have after : ∀ j, rch (C5 ops l1.length) i j = true → X j = true := fun j hr => (DR hlt (by omega) hcl' i hil j hr fun oi h' => by rw [hoi] at h'; cases h'; exact hdep).1
  have before : ∀ j, j < l1.length → rch (C5 ops l1.length) j i = true → X j = false := fun j hj hr => by
   cases hXj : X j with
   | false => rfl
   | true =>
    have := (DR hlt (by omega) hcl' j hj i hr fun oj h' e he hb => hcl' j oj h' hj hXj e he hb).1
    rw [hXi] at this; cases this
  have hxat : ∀ {j : Nat}, j < l1.length → ∃ oj y, l1[j]? = some oj ∧ xs[j]? = some y := fun {j} hj => by
   have hlj : l1[j]? = some l1[j] := List.getElem?_eq_getElem hj
   obtain ⟨y, hy, _⟩ := hstep j _ hlj
   exact ⟨_, y, hlj, hy⟩
  have apart : ∀ {j : Nat} {y : Dl}, j < l1.length → j ≠ i → xs[j]? = some y → X j ≠ decide (j < i) →
    (∀ u, y.ws.contains u = true → (o.looksAt ops).contains u = false ∧ x.ws.contains u = false) ∧ (∀ p, p ∈ y.M → (bads.getD i []).contains p.1 = true) ∧ (∀ p, p ∈ y.M → inF x.M p.1 = false) := fun {j y} hj hji hy hne => by
   obtain ⟨oj, y', hlj, hy'⟩ := hxat hj
   rw [hy] at hy'; cases hy'
   rcases Nat.lt_or_gt_of_ne hji with h' | h'
   ·have hp := BN hchk h' hlj ho hy hx
    have hnr : rch (C5 ops l1.length) i j = false := by
     cases hr : rch (C5 ops l1.length) i j with
     | false => rfl
     | true => exact absurd (by rw [after j hr]; simp [h']) hne
    unfold ED at hp;rw [hnr, OX, Nk] at hp
    have hd := hp.1
    unfold NQ at hd;simp only [Nk, Np, N9] at hd
    obtain ⟨d1, d2, d3, d4⟩ := hd
    refine ⟨fun u hu => ⟨d2 u (by simpa using hu), ?_⟩, fun p hp => d4 p hp, fun p hp => ?_⟩
    ·cases hxu : x.ws.contains u with
     | false => rfl
     | true =>
      have := (d1 u (by simpa using hxu)).2
      rw [hu] at this; cases this
    ·cases hin : inF x.M p.1 with
     | false => rfl
     | true =>
      unfold inF at hin;rw [OJ] at hin
      obtain ⟨q, hq1, hq2⟩ := hin
      have := (d3 q hq1).2
      have hin2 : inF y.M q.1 = true := by
       unfold inF;rw [OJ];exact ⟨p, hp, by rw [beq_iff_eq] at hq2 ⊢; exact hq2.symm⟩
      rw [hin2] at this; cases this
   ·have hp := BN hchk h' ho hlj hx hy
    have hnr : rch (C5 ops l1.length) j i = false := by
     cases hr : rch (C5 ops l1.length) j i with
     | false => rfl
     | true => exact absurd (by rw [before j hj hr]; simp; omega) hne
    unfold ED at hp;rw [hnr, OX, Nk] at hp
    have hd := hp.1
    unfold NQ at hd;simp only [Nk, Np, N9] at hd
    obtain ⟨d1, d2, d3, d4⟩ := hd
    exact ⟨fun u hu => d1 u (by simpa using hu), fun p hp => (d3 p hp).1, fun p hp => (d3 p hp).2⟩
  have hag : AgreeG ops o (onL (xs.take i) s).fr (CG (bads.getD i []) (onL (xs.take i) s).M) (mrg xs X s l1.length) := by
   refine ⟨fun id k hk => ?_, fun u hu => ?_⟩
   ·obtain ⟨hb, hk⟩ := CQ hk
    rw [← CF (X := fun j => decide (j < i)) (by omega) (fun j hj => by simpa using hj), ← BZ (X := fun j => decide (j < i)) (i := i) (n := l1.length) (by omega) (fun j hj => by simpa using hj)] at hk;rw [← hk]
    refine Gg fun j y hj hy hin => ?_
    by_cases hje : j = i
    ·subst hje; rw [hXi]; simp
    ·refine Classical.byContradiction fun hne => ?_
     have hap := (apart hj hje hy hne).2.1
     unfold inF at hin;rw [OJ] at hin
     obtain ⟨p, hp1, hp2⟩ := hin
     have := hap p hp1
     rw [show p.1 = id from by simpa using hp2, hb] at this;cases this
   ·rw [← CF (X := fun j => decide (j < i)) (by omega) (fun j hj => by simpa using hj), ← BZ (X := fun j => decide (j < i)) (i := i) (n := l1.length) (by omega) (fun j hj => by simpa using hj)]
    refine EE fun j y hj hy hin => ?_
    by_cases hje : j = i
    ·subst hje; rw [hXi]; simp
    ·refine Classical.byContradiction fun hne => ?_
     have hap := ((apart hj hje hy hne).1 u (by rw [← EH]; exact hin)).1
     rw [List.contains_eq_mem, decide_eq_false_iff_not] at hap;exact hap hu
  have hcl2 : x.b = true → Cl x.t (mrg xs X s l1.length) := fun hb => by
   refine Cl.mrg ?_ fun j y hj hXj hy => ?_
   ·have := FS hchk hx
    unfold LO at this;rw [hb] at this;simp only [Oj, OX, Nk] at this;exact ⟨B1 this.1, (Ba this.2).1, (Ba this.2).2⟩
   ·have hji : j ≠ i := fun e => by subst e; rw [hXi] at hXj; cases hXj
    obtain ⟨oj, y', hlj, hy'⟩ := hxat hj
    rw [hy] at hy'; cases hy'
    rcases Nat.lt_or_gt_of_ne hji with h' | h'
    ·have hp := BN hchk h' hlj ho hy hx
     unfold ED at hp;rw [hb] at hp;simp only [Oj, OX, Nk] at hp;exact hp.2.2
    ·have hp := BN hchk h' ho hlj hx hy
     have hnr : rch (C5 ops l1.length) j i = false := by
      cases hr : rch (C5 ops l1.length) j i with
      | false => rfl
      | true => rw [before j hj hr] at hXj; cases hXj
     unfold ED at hp;rw [hb, hnr] at hp;simp only [Oj, OX, Nk] at hp;exact hp.2.1
  have later : ∀ {j : Nat} {y : Dl}, j < l1.length → i < j → X j = true → xs[j]? = some y → (∀ u, y.ws.contains u = true → x.ws.contains u = false) ∧ ∀ p, p ∈ y.M → inF x.M p.1 = false := fun {j y} hj hij hXj hy => by
   have hap := apart hj (by omega) hy (by rw [hXj]; simp; omega)
   exact ⟨fun u hu => (hap.1 u hu).2, hap.2.2⟩
  intro Q' hQ;refine hst _ hag (hV X) hcl2 Q' (WO_le (Le.of (fun u => .inl ?_) (fun u => .inl ?_)) hQ)
  ·simp only [Dl.on, look_app]
   split
   ·rename_i hu
    refine Ck hx hXi hu hil fun j y hj hij hXj hy => ?_
    cases hin : inF y.fr u with
    | false => rfl
    | true =>
     have := (later hj hij hXj hy).1 u (by rw [← EH]; exact hin)
     rw [← EH, hu] at this; cases this
   ·rename_i hu
    refine EE fun j y hj hy hin => ?_
    have : (j == i) = false := by
     rw [beq_eq_false_iff_ne];intro e; subst e; rw [hx] at hy; cases hy; exact hu hin
    rw [this, OL]
  ·simp only [Dl.on, lookM_app]
   split
   ·rename_i hu
    refine DE hx hXi hu hil fun j y hj hij hXj hy => ?_
    cases hin : inF y.M u with
    | false => rfl
    | true =>
     unfold inF at hin;rw [OJ] at hin
     obtain ⟨p, hp1, hp2⟩ := hin
     have := (later hj hij hXj hy).2 p hp1
     rw [show p.1 = u from by simpa using hp2, hu] at this;cases this
   ·rename_i hu
    refine Gg fun j y hj hy hin => ?_
    have : (j == i) = false := by
     rw [beq_eq_false_iff_ne];intro e; subst e; rw [hx] at hy; cases hy; exact hu hin
    rw [this, OL]
 ·rw [CF (by omega) hX, Ni (by omega)]
  exact hend
theorem KI {id : Nat} {ops : Array Oper} (m : Nat) (V : St → Prop) (bads : List (List Nat)) (hm : P.follows .mixedOrders = true) (hl : (ops.toList.take m).length = m) (hB : BR ops m = true) (hT : DZ ops m = true)
  (h : QV P c ops V bads (ops.toList.take m) s [] (fun s' xs => Lk ops (ops.toList.take m) s xs bads = true ∧ (∀ X, V (mrg xs X s (ops.toList.take m).length)) ∧ WO P c ops (ops.toList.drop m) s' Q)) : W P c (.region id ops true) s Q :=
 Ea hm (WR_Vt (l1 := ops.toList.take m) (l2 := ops.toList.drop m) V bads (by simp) (by rw [hl]; exact hB) (.inr (by rw [hl]; exact hT)) h)
variable {ops : Array Oper} {rest : List Oper} {o : Oper} {V : St → Prop}
theorem QV_nil {Q : St → List Dl → Prop} {acc : List Dl} {bs : List (List Nat)} (h : Q s acc) : QV P c ops V bs [] s acc Q := h
theorem KO {Q : St → List Dl → Prop} {acc : List Dl} {b : List Nat} {bs : List (List Nat)} (h : QH P c ops [b] [o] s acc (fun s' acc' => QV P c ops V bs rest s' acc' Q)) : QV P c ops V (b :: bs) (o :: rest) s acc Q := by
 obtain ⟨x, h1, h2⟩ := h
 exact ⟨x, fun s' a _ d => h1 s' a d, h2⟩
theorem It {Q : St → List Dl → Prop} {acc : List Dl} {bs : List (List Nat)} {l : List Oper} {s' : St} (h : Ca s = some s') (k : QV P c ops V bs l s' acc Q) : QV P c ops V bs l s acc Q := by rw [Cp h]; exact k
end
end Go.Eng
end
section
/- Structs of told cells, made known; an empty told slice, cut; an empty told list in an element. -/
namespace Go.Eng
open Go.RowKit
section
variable {P : Program} {c : Ctx} {s : St} {ops : Array Oper} {rest : List Oper} {o : Oper}
end
end Go.Eng
end
section
/- Loads from a variable that is lent, in regions whose readers look at what is written. -/
namespace Go.Eng
open Go.RowKit
section
variable {P : Program} {c : Ctx} {s : St} {ops : Array Oper} {rest : List Oper} {o : Oper} {Q : Exit → St → Prop} {V : St → Prop}
end
end Go.Eng
end
section
/- The parts of an answer get names within a region of open order: several ids that nothing names. -/
namespace Go.Eng
open Go.RowKit
section
variable {P : Program} {c : Ctx} {s : St}
def partV (j : Nat) : Value → Option Value
 | .tuple arr => match arr.toList[0]? with
  | some (Value.agg a0) => a0.toList[j]?
  | _ => none
 | _ => none
theorem E9 {w : World} {F : Nat → Prop} {β : Ak} {xv : Value} {ds : List D} {d e : D} {bs : List Nat} (j : Nat) (h : RelD w F β [xv] [.tup [.agg ds, d]] bs) (h1 : ds[j]? = some e) :
  ∃ v b1 b2 b3, bs = b1 ++ b2 ++ b3 ∧ RelD w F β [v] [e] b2 ∧ partV j xv = some v ∧ ∀ d' b, RelD w F β [v] [d'] b → RelD w F β [xv] [.tup [.agg (ds.set j d'), d]] (b1 ++ b ++ b3) := by
 cases h with
 | @tup arr _ _ _ bA bB g1 g2 =>
  cases g2
  obtain ⟨v0, a1, a2, a3, e1, r1, rv, r2⟩ := B9 0 g1 rfl
  cases r1 with
  | @agg arr0 _ _ _ c1 c2 k1 k2 k3 =>
   cases k3
   obtain ⟨v, b1, b2, b3, e2, q1, qv, q2⟩ := B9 j k2 h1
   refine ⟨v, a1 ++ b1, b2, b3 ++ a3, by rw [e1, e2]; simp, q1, by simp only [partV, rv]; exact qv, fun d' b hd => ?_⟩
   have h5 := RelD.agg (vs := []) (ds := []) (bs' := []) k1 (q2 d' b hd) .done
   have h6 := r2 _ _ h5
   have h7 := RelD.tup (vs := []) (ds := []) (bs' := []) h6 .done
   rw [show a1 ++ b1 ++ b ++ (b3 ++ a3) = a1 ++ (b1 ++ b ++ b3 ++ []) ++ a3 ++ [] from by simp];exact h7
theorem Le.adoptTup {t id j n : Nat} {xs : List T} {ds : List D} {d : D} (hcl : Cl id s) (hB : look s.fr t = .tup [.agg ds, d]) (h1 : ds[j]? = some (.own (.list n xs))) :
  Le c s ⟨(t, .tup [.agg (ds.set j (.sl id 0 xs.length)), d]) :: s.fr, (id, .L n xs) :: s.M⟩ := by
 rintro a w ⟨F, β, fb, mb, ow, hi⟩
 have hr := hi.fr t
 rw [hB] at hr
 have hct := hcl.1 t
 rw [hB] at hct
 obtain ⟨v, b1, b2, b3, hbs, q1, qv, q2⟩ := E9 j hr h1
 have hob : ∀ b, b ∈ b2 → ow b = some (.inl t) := fun b hb => hi.ofr t b (by rw [hbs]; simp [hb])
 have hnd := hi.nfr t
 rw [hbs] at hnd
 obtain ⟨n3, n4, n5⟩ := Nq.1 hnd
 obtain ⟨n6, n7, n8⟩ := Nq.1 n3
 have hmn : mb id = [] := by
  have := hi.mem id
  rw [hcl.2.2] at this;exact this
 have fin : ∀ (pl : Option (Nat × Nat × Nat)), RelB w F (fun i => if i = id then pl else β i) id (.L n xs) b2 → RelD w F (fun i => if i = id then pl else β i) [v] [.sl id 0 xs.length] [] →
   Is c ⟨(t, .tup [.agg (ds.set j (.sl id 0 xs.length)), d]) :: s.fr, (id, .L n xs) :: s.M⟩ a w := by
  intro pl hB' hD
  have hβ : ∀ i, i ≠ id → (fun i => if i = id then pl else β i) i = β i := fun i h => by simp [h]
  refine ⟨F, fun i => if i = id then pl else β i, fun u => if u = t then b1 ++ b3 else fb u, fun i => if i = id then b2 else mb i, fun b => if b ∈ b2 then some (.inr id) else ow b, ?_⟩;refine { hi with fr := fun u => ?_, mem := fun i => ?_, ofr := fun u b hb => ?_, omem := fun i b hb => ?_, nfr := fun u => ?_, nmem := fun i => ?_, own := fun b hb => ?_ }
  ·simp only [look]
   by_cases hu : t = u
   ·subst hu
    rw [if_pos rfl, if_pos rfl]
    have h9 := q2 .top [] (.top .done)
    have h10 := h9.other hβ (by
     simp only [D.has, D.has.hasL, OL, OC] at hct ⊢
     exact ⟨Gk j hct.1 rfl, hct.2⟩)
    obtain ⟨v', c1, c2, c3, e1, r1, rv, r2⟩ := E9 (e := .top) j h10 (by rw [List.getElem?_set_self (List.getElem?_eq_some_iff.1 h1).1])
    have hc2 : c2 = [] := r1.free1 rfl
    subst hc2
    have hvv : v' = v := by rw [qv] at rv; exact (Option.some.inj rv).symm
    subst hvv
    have := r2 (.sl id 0 xs.length) [] hD
    rw [Nr] at this
    have e2 : b1 ++ b3 = c1 ++ [] ++ c3 := by rw [← e1]; simp
    rw [e2]; exact this
   ·rw [if_neg hu, if_neg (fun e => hu e.symm)]
    exact (hi.fr u).other hβ (by simp only [D.has.hasL, OL]; exact hcl.1 u)
  ·simp only [lookM]
   by_cases hid : id = i
   ·subst hid; rw [if_pos rfl, if_pos rfl]; exact hB'
   ·rw [if_neg hid, if_neg (fun e => hid e.symm)]
    have hm := hi.mem i
    cases hk : lookM s.M i with
    | none => rw [hk] at hm; exact hm
    | some k =>
     rw [hk] at hm
     have hck := hcl.2.1 i k hk
     cases k with
     | L n' xs' =>
      rcases hm with ⟨g1, g2, g3⟩ | ⟨b, cap, arr', e', bs', g1, g⟩
      ·exact .inl ⟨by dsimp only; rw [if_neg (fun e => hid e.symm)]; exact g1, g2, g3⟩
      ·exact .inr ⟨b, cap, arr', e', bs', by dsimp only; rw [if_neg (fun e => hid e.symm)]; exact g1, g⟩
     | box cs =>
      obtain ⟨b, arr', e', bs', g1, g2, g3, g4, g5⟩ := hm
      simp only [Ai, N9] at hck;exact ⟨b, arr', e', bs', by dsimp only; rw [if_neg (fun e => hid e.symm)]; exact g1, g2, g3.other hβ hck, g4, g5⟩
     | raw _ _ _ _ => exact hm
     | rawV _ _ => exact hm
     | ro _ _ => exact hm
     | pin j b n c =>
      simp only [Ai, N9, beq_eq_false_iff_ne] at hck;exact ⟨(hβ _ hck).trans hm.1, hm.2⟩
     | obox _ _ => exact hm
     | bld _ _ _ _ => exact hm
     | row _ _ _ _ => exact hm
  ·split at hb
   ·rename_i hu
    subst hu
    have hnb : b ∉ b2 := fun h => by
     rcases Nn.1 hb with hb | hb
     ·exact n8 b hb b h rfl
     ·exact n5 b (by simp [h]) b hb rfl
    rw [if_neg hnb];exact hi.ofr u b (by rw [hbs]; rcases Nn.1 hb with hb | hb <;> simp [hb])
   ·rename_i hu
    have h5 := hi.ofr u b hb
    rw [if_neg (fun h => ?_)]
    ·exact h5
    ·rw [hob b h] at h5; cases h5; exact hu rfl
  ·split at hb
   ·rename_i hid; subst hid; rw [if_pos hb]
   ·have h5 := hi.omem i b hb
    rw [if_neg (fun h => ?_)]
    ·exact h5
    ·rw [hob b h] at h5; cases h5
  ·split
   ·exact Nq.2 ⟨n6, n4, fun x hx y hy => n5 x (by simp [hx]) y hy⟩
   ·exact hi.nfr u
  ·split
   ·exact n7
   ·exact hi.nmem i
  ·split at hb
   ·rename_i h
    exact hi.own b (by rw [hob b h]; simp)
   ·exact hi.own b hb
 cases q1 with
 | own h2 h3 =>
  cases h3;simp only [OD] at fin
  cases h2 with
  | @none ad _ _ _ _ h4 =>
   cases h4;exact fin none (.inl ⟨by simp, rfl, by simp⟩) (.slnil (by simp) .done)
  | list g1 g2 g3 g4 g5 g6 g7 g8 =>
   cases g8
   rename_i b cap cs arr' e' bs1
   refine fin (some (b, n, cap)) (.inr ⟨b, cap, arr', e', bs1, by simp, g1, g2, g4, g5, g6, by rw [g3]; exact g7, by simp⟩) ?_;exact .sl (b := b) (n := n) (c := cap) (by simp) g5 (by simp) (by simp) .done
theorem FJ {t : Nat} {D0 : D} {fr : List (Nat × D)} : look ((t, D0) :: fr) t = D0 := by simp [look]
theorem Dt {u t : Nat} {D0 : D} {fr : List (Nat × D)} {M : List (Nat × Blk)} (h : Cl u ⟨fr, M⟩) (h1 : D0.has u = false) : Cl u ⟨(t, D0) :: fr, M⟩ := by
 refine ⟨fun v => ?_, h.2.1, h.2.2⟩;simp only [look];split
 ·exact h1
 ·exact h.1 v
theorem Lj {u id : Nat} {k : Blk} {fr : List (Nat × D)} {M : List (Nat × Blk)} (h : Cl u ⟨fr, M⟩) (h1 : (id == u) = false) (h2 : Ai u k = true) : Cl u ⟨fr, (id, k) :: M⟩ := by
 have hne : ¬ id = u := by simpa using h1
 refine ⟨h.1, fun i k' hk => ?_, ?_⟩
 ·simp only [lookM] at hk
  split at hk
  ·cases hk; exact h2
  ·exact h.2.1 i k' hk
 ·simp only [lookM]
  rw [if_neg hne]; exact h.2.2
def VC (t : Nat) (cs : List Nat) (s : St) : Prop := Cl t s → ∀ u, u ∈ cs → Cl u s
def impD (t u : Nat) (x : Dl) : Bool := (x.fr.all fun p => !p.2.has u || p.2.has t) && ((x.M.all fun p => !Ai t p.2 || Ai u p.2) && (!inF x.M u || inF x.M t))
def chkC (t : Nat) (cs : List Nat) (s : St) (xs : List Dl) : Bool := cs.all fun u => Gu u s.fr && clM u s.M && xs.all (impD t u)
structure CI (t u : Nat) (s : St) : Prop where
 fr : ∀ v, (look s.fr v).has t = false → (look s.fr v).has u = false
 bl : ∀ id k, lookM s.M id = some k → Ai t k = true → Ai u k = true
 no : lookM s.M t = none → lookM s.M u = none
theorem look_mem' : ∀ {l : List (Nat × D)} {m : List (Nat × D)} {v : Nat}, look (l ++ m) v = look m v ∨ ∃ p, p ∈ l ∧ look (l ++ m) v = p.2
 | [], m, v => .inl rfl
 | (a, d) :: l, m, v => by
  rw [Ob];simp only [look];split
  ·exact .inr ⟨(a, d), by simp, rfl⟩
  ·rcases look_mem' (l := l) (m := m) (v := v) with h | ⟨p, h1, h2⟩
   ·exact .inl h
   ·exact .inr ⟨p, by simp [h1], h2⟩
theorem lookM_mem' : ∀ {l : List (Nat × Blk)} {m : List (Nat × Blk)} {id : Nat}, (inF l id = false ∧ lookM (l ++ m) id = lookM m id) ∨ (inF l id = true ∧ ∃ p, p ∈ l ∧ lookM (l ++ m) id = some p.2)
 | [], m, id => .inl ⟨rfl, rfl⟩
 | (a, k) :: l, m, id => by
  rw [Ob];simp only [lookM]
  by_cases e : a = id
  ·subst e
   rw [if_pos rfl];exact .inr ⟨by simp [inF], (a, k), by simp, rfl⟩
  ·rw [if_neg e]
   rcases lookM_mem' (l := l) (m := m) (id := id) with ⟨h1, h2⟩ | ⟨h0, p, h1, h2⟩
   ·exact .inl ⟨by simpa [inF, e] using h1, h2⟩
   ·exact .inr ⟨by simpa [inF, e] using h0, p, by simp [h1], h2⟩
theorem CI.on {t u : Nat} {s : St} {x : Dl} (h : CI t u s) (hx : impD t u x = true) : CI t u (x.on s) := by
 unfold impD at hx;simp only [Nk, Np, Bool.or_eq_true, N9] at hx
 obtain ⟨h1, h2, h3⟩ := hx
 refine ⟨fun v hv => ?_, fun id k hk hc => ?_, fun hn => ?_⟩
 ·show (look (x.fr ++ s.fr) v).has u = false
  have hv' : (look (x.fr ++ s.fr) v).has t = false := hv
  rcases look_mem' (l := x.fr) (m := s.fr) (v := v) with e | ⟨p, hp, e⟩
  ·rw [e] at hv' ⊢; exact h.fr v hv'
  ·rw [e] at hv' ⊢
   rcases h1 p hp with q | q
   ·exact q
   ·rw [hv'] at q; cases q
 ·have hk' : lookM (x.M ++ s.M) id = some k := hk
  rcases lookM_mem' (l := x.M) (m := s.M) (id := id) with ⟨_, e⟩ | ⟨_, p, hp, e⟩
  ·rw [e] at hk'; exact h.bl id k hk' hc
  ·rw [e] at hk'; cases hk'
   rcases h2 p hp with q | q
   ·rw [hc] at q; cases q
   ·exact q
 ·show lookM (x.M ++ s.M) u = none
  have hn' : lookM (x.M ++ s.M) t = none := hn
  rcases lookM_mem' (l := x.M) (m := s.M) (id := t) with ⟨g, e⟩ | ⟨_, p, hp, e⟩
  ·rcases lookM_mem' (l := x.M) (m := s.M) (id := u) with ⟨g2, e2⟩ | ⟨g2, p, hp, e2⟩
   ·rw [e2]; rw [e] at hn'; exact h.no hn'
   ·rcases h3 with q | q
    ·rw [g2] at q; cases q
    ·rw [g] at q; cases q
  ·rw [e] at hn'; cases hn'
theorem VC_mrg {t : Nat} {cs : List Nat} {xs : List Dl} (h : chkC t cs s xs = true) (n : Nat) (X : Nat → Bool) : VC t cs (mrg xs X s n) := by
 intro hc u hu;unfold chkC at h;rw [Np] at h
 have h1 := h u hu
 rw [Nk] at h1
 have hb := Cl.of h1.1
 have h2 := h1.2
 rw [Np] at h2
 have hi : CI t u (mrg xs X s n) := by
  clear hc
  induction n with
  | zero => exact ⟨fun v _ => hb.1 v, fun id k hk _ => hb.2.1 id k hk, fun _ => hb.2.2⟩
  | succ n ih =>
   rw [mrg];split
   ·rename_i x hx
    split
    ·exact ih.on (h2 x (OV hx))
    ·exact ih
   ·exact ih
 exact ⟨fun v => hi.fr v (hc.1 v), fun id k hk => hi.bl id k hk (hc.2.1 id k hk), hi.no hc.2.2⟩
variable {ops : Array Oper} {rest : List Oper} {o : Oper} {V : St → Prop}
def Kv (d : D) (cs : List Nat) : Bool := cs.all fun u => !d.has u
theorem DD {d : D} {cs : List Nat} (h : Kv d cs = true) {u : Nat} (hu : u ∈ cs) : d.has u = false := by
 unfold Kv at h;rw [Np] at h
 simpa using h u hu
theorem La {Q : St → List Dl → Prop} {acc : List Dl} {bd : List Nat} {bs : List (List Nat)} {t : Nat} {fo : Operand} {args : Array Operand} {tys : Array TypeId} {f : FuncId} {caps es : List D} {d : D} {n0 n1 n2 n3 n4 : Nat} {x0 x1 x2 x3 x4 : List T} (u1 u2 u3 u4 : Nat)
  (hg : o.guard = none) (hd : o.dst = some t) (ht : t < c.n)
  (ho : o.op = .call { callee := .value fo, args := args, argTypes := tys }) (hf : opd s.fr fo = .clo f caps) (hes : args.toList.map (opd s.fr) ++ caps = es) (hcl : D.closed.closedL es = true) (hfr : D.free.freeL es = true)
  (hc : Fun P f es (.tup [.agg [.own (.list n0 x0), .own (.list n1 x1), .own (.list n2 x2), .own (.list n3 x3), .own (.list n4 x4)], d])) (hn : (D.tup [.agg [.own (.list n0 x0), .own (.list n1 x1), .own (.list n2 x2), .own (.list n3 x3), .own (.list n4 x4)], d]).closed = true)
  (hV : ∀ s', V s' → VC t [u1, u2, u3, u4] s') (hdu : Kv d [t, u1, u2, u3, u4] = true)
  (h01 : (t == u1) = false) (h02 : (t == u2) = false) (h03 : (t == u3) = false) (h04 : (t == u4) = false) (h12 : (u1 == u2) = false) (h13 : (u1 == u3) = false) (h14 : (u1 == u4) = false) (h23 : (u2 == u3) = false) (h24 : (u2 == u4) = false) (h34 : (u3 == u4) = false)
  (k : QV P c ops V bs rest ⟨(t, .tup [.agg [.sl t 0 x0.length, .sl u1 0 x1.length, .sl u2 0 x2.length, .sl u3 0 x3.length, .sl u4 0 x4.length], d]) :: s.fr, [(u4, .L n4 x4), (u3, .L n3 x3), (u2, .L n2 x2), (u1, .L n1 x1), (t, .L n0 x0)] ++ s.M⟩
   (acc ++ [⟨t, .tup [.agg [.sl t 0 x0.length, .sl u1 0 x1.length, .sl u2 0 x2.length, .sl u3 0 x3.length, .sl u4 0 x4.length], d], [], [(u4, .L n4 x4), (u3, .L n3 x3), (u2, .L n2 x2), (u1, .L n1 x1), (t, .L n0 x0)], true⟩]) Q) : QV P c ops V (bd :: bs) (o :: rest) s acc Q :=
 ⟨⟨t, .tup [.agg [.sl t 0 x0.length, .sl u1 0 x1.length, .sl u2 0 x2.length, .sl u3 0 x3.length, .sl u4 0 x4.length], d], [], [(u4, .L n4 x4), (u3, .L n3 x3), (u2, .L n2 x2), (u1, .L n1 x1), (t, .L n0 x0)], true⟩, fun s' ha hv hcl0 Q' h => by
  have hct : Cl t s' := hcl0 rfl
  have hcs : ∀ u, u ∈ [u1, u2, u3, u4] → Cl u s' := hV s' hv hct
  have e1 : opd s'.fr fo = opd s.fr fo := ha.opd (by rw [ho]; simp [Op.operands, Call.operands])
  have e2 : args.toList.map (opd s'.fr) = args.toList.map (opd s.fr) := ha.opds fun x hx => by
   rw [ho];simp only [Op.operands, Call.operands, Array.mem_append];exact .inr (by simpa using hx)
  refine BG hg hd ht ho (by rw [e1]; exact hf) (by rw [e2]; exact hes) hcl hfr hc hn ?_
  have g0 := DD hdu (u := t) (by simp)
  have g1 := DD hdu (u := u1) (by simp)
  have g2 := DD hdu (u := u2) (by simp)
  have g3 := DD hdu (u := u3) (by simp)
  have g4 := DD hdu (u := u4) (by simp)
  have c1 := hcs u1 (by simp)
  have c2 := hcs u2 (by simp)
  have c3 := hcs u3 (by simp)
  have c4 := hcs u4 (by simp)
  refine WO_le (Le.adoptTup (t := t) (id := t) (j := 0) (Dt hct (by simp [D.has, D.has.hasL, g0])) FJ rfl) ?_;refine WO_le (Le.adoptTup (t := t) (id := u1) (j := 1) (Lj (Dt (Dt c1 (by simp [D.has, D.has.hasL, g1])) (by simp [D.has, D.has.hasL, g1, h01])) h01 (by simp [Ai])) FJ rfl) ?_;refine WO_le (Le.adoptTup (t := t) (id := u2) (j := 2) (Lj (Lj (Dt (Dt (Dt c2 (by simp [D.has, D.has.hasL, g2])) (by simp [D.has, D.has.hasL, g2, h02])) (by simp [D.has, D.has.hasL, g2, h02, h12])) h02 (by simp [Ai])) h12 (by simp [Ai])) FJ rfl) ?_;refine WO_le (Le.adoptTup (t := t) (id := u3) (j := 3) (Lj (Lj (Lj (Dt (Dt (Dt (Dt c3 (by simp [D.has, D.has.hasL, g3])) (by simp [D.has, D.has.hasL, g3, h03])) (by simp [D.has, D.has.hasL, g3, h03, h13])) (by simp [D.has, D.has.hasL, g3, h03, h13, h23])) h03 (by simp [Ai])) h13 (by simp [Ai])) h23 (by simp [Ai])) FJ rfl) ?_;refine WO_le (Le.adoptTup (t := t) (id := u4) (j := 4) (Lj (Lj (Lj (Lj (Dt (Dt (Dt (Dt (Dt c4 (by simp [D.has, D.has.hasL, g4])) (by simp [D.has, D.has.hasL, g4, h04])) (by simp [D.has, D.has.hasL, g4, h04, h14])) (by simp [D.has, D.has.hasL, g4, h04, h14, h24])) (by simp [D.has, D.has.hasL, g4, h04, h14, h24, h34])) h04 (by simp [Ai])) h14 (by simp [Ai])) h24 (by simp [Ai])) h34 (by simp [Ai])) FJ rfl) ?_;refine WO_le (Le.of (s' := Dl.on ⟨t, .tup [.agg [.sl t 0 x0.length, .sl u1 0 x1.length, .sl u2 0 x2.length, .sl u3 0 x3.length, .sl u4 0 x4.length], d], [], [(u4, .L n4 x4), (u3, .L n3 x3), (u2, .L n2 x2), (u1, .L n1 x1), (t, .L n0 x0)], true⟩ s') (fun u => .inl ?_) (fun u => .inl rfl)) h;simp only [Dl.on, Dl.fr, List.map_nil, Ob, List.nil_append, look]
  by_cases e : t = u
  ·rw [if_pos e, if_pos e]; rfl
  ·simp only [if_neg e], k⟩
end
end Go.Eng
end
section
/- A call of a function that is given places and whose answer is only read, in a statement of open order. -/
namespace Go.Eng
open Go.RowKit
section
variable {P : Program} {c : Ctx} {s : St} {ops : Array Oper} {rest : List Oper} {o : Oper}
theorem ResQ.up {M0 : List (Nat × Blk)} {fr : List (Nat × D)} {s' : St} (hM : ∀ id k, lookM M0 id = some k → lookM s'.M id = some k) {ds es : List D} (h : ResQ ⟨fr, M0⟩ ds es) : ResQ s' ds es := by
 induction h with
 | done => exact .done
 | t _ ih => exact .t ih
 | nil n _ ih => exact .nil n ih
 | pin pid h1 _ ih => exact .pin pid (hM _ _ h1) ih
theorem Ld {Q : St → List Dl → Prop} {acc : List Dl} {b : List Nat} {bs : List (List Nat)} {t rid : Nat} {fo : Operand} {args : Array Operand} {tys : Array TypeId} {f : FuncId} {es : List D} {rv : List Value} {rt : List T} {ks : List Blk} {r : D} {ks' : List Blk} (ids : List Nat) (hg : o.guard = none) (hd : o.dst = some t) (ht : t < c.n)
  (ho : o.op = .call { callee := .value fo, args := args, argTypes := tys }) (hf : opd s.fr fo = .clo f []) (hes : ResQ ⟨s.fr, CG b s.M⟩ (args.toList.map (opd s.fr)) es) (hro : lookM (CG b s.M) rid = some (.ro rv rt)) (hM : LookMs (CG b s.M) ids ks) (hnd : ids.Nodup)
  (hm : ProcF P f es rv rt ks r ks') (hr : r.closed = true) (hl' : ids.length = ks'.length) (hks' : ks'.all Blk.shut = true)
  (k : QH P c ops bs rest ⟨(t, r) :: s.fr, ids.zip ks' ++ s.M⟩ (acc ++ [⟨t, r, [], ids.zip ks', false⟩]) Q) : QH P c ops (b :: bs) (o :: rest) s acc Q :=
 ⟨⟨t, r, [], ids.zip ks', false⟩, fun s' ha _ Q h => by
  have e1 : opd s'.fr fo = opd s.fr fo := ha.opd (by rw [ho]; simp [Op.operands, Call.operands])
  have e2 : args.toList.map (opd s'.fr) = args.toList.map (opd s.fr) := ha.opds fun x hx => by
   rw [ho];simp only [Op.operands, Call.operands, Array.mem_append];exact .inr (by simpa using hx)
  exact EP ids hg hd ht ho (by rw [e1]; exact hf) (by rw [e2]; exact hes.up ha.1) (ha.1 _ _ hro) (hM.up ha.1) hnd hm hr hl' hks' h, k⟩
end
end Go.Eng
end
