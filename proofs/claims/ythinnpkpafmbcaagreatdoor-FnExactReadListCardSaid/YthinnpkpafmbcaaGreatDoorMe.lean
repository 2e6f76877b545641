import Derived.Test.YthinnpkpafmbcaaGreatDoorMd
import Derived.Laws.StructEq
import Derived.ChangeKeysEq
import Derived.Laws.IdiomStrings
import Derived.Laws.Strings2
import Derived.Stop.IfaceNil
import Derived.Test.YthinnpkpafmbcaaGreatDoorMb
import Derived.OpenVars
import Derived.Handed
import Derived.HandedShaped
import Derived.Lib.LaidTab
import Derived.Lib.FrozenHead
import Derived.Shelf.Strings.BuilderK
import Derived.Lib.FrozenHead2
set_option linter.unusedVariables false
set_option linter.unusedSimpArgs false
section
/- What is known of values, put in order; memory that is not there. -/
namespace Go.Eng
open Go.RowKit
section
variable {P : Program} {c : Ctx} {s : St} {Q : Exit → St → Prop} {ops : Array Oper} {rest : List Oper} {o : Oper}
end
end Go.Eng
end
section
/- Structs whose fields are structs, put together out of their parts. -/
namespace Go.Eng
open Go.RowKit
section
variable {P : Program} {c : Ctx} {s : St} {Q : Exit → St → Prop} {ops : Array Oper} {rest : List Oper} {o : Oper}
end
section
variable {P : Program} {c : Ctx} {s : St} {M0 : List (Nat × Blk)} {acc : List Dl} {Q : St → List Dl → Prop} {ops : Array Oper} {rest : List Oper} {o : Oper}
end
end Go.Eng
end
section
/- Slices made of so many, copied into, named: of whole numbers. -/
namespace Go.Eng
open Go.RowKit
section
variable {P : Program} {c : Ctx} {s : St} {Q : Exit → St → Prop} {ops : Array Oper} {rest : List Oper} {o : Oper}
end
section
variable {P : Program} {c : Ctx} {s : St} {M0 : List (Nat × Blk)} {acc : List Dl} {Q : St → List Dl → Prop} {ops : Array Oper} {rest : List Oper} {o : Oper}
end
end Go.Eng
end
section
/- Statements of open order that make ready what they lend, once it is read. -/
namespace Go.Eng
open Go.RowKit
section
variable {P : Program} {c : Ctx} {s : St} {ops : Array Oper} {rest : List Oper} {o : Oper}
end
section
variable {P : Program} {c : Ctx} {s : St} {Q : Exit → St → Prop} {ops : Array Oper} {rest : List Oper} {o : Oper}
end
end Go.Eng
end
section
/- One cell of a list is laid open: the list that it owns gets a name. -/
namespace Go.Eng
open Go.RowKit
section
variable {P : Program} {c : Ctx} {s : St} {Q : Exit → St → Prop} {ops : Array Oper} {rest : List Oper} {o : Oper}
end
end Go.Eng
end
section
/- A copy within one list of plain values of the function's own. -/
namespace Go.Eng
open Go.RowKit
section
variable {P : Program} {c : Ctx} {s : St} {Q : Exit → St → Prop} {ops : Array Oper} {rest : List Oper} {o : Oper}
end
end Go.Eng
end
section
/- A region that only reads, run as if all memory were only read: what it answers of values is kept in a new variable, all else is as before. -/
namespace Go.Eng
open Go.RowKit
section
variable {P : Program} {c : Ctx} {s : St} {Q : Exit → St → Prop} {ops : Array Oper}
end
end Go.Eng
end
section
/- An element's inner list, taken out of a list: the list keeps its header, told; what it leads to stands apart. -/
namespace Go.Eng
open Go.RowKit
section
variable {P : Program} {c : Ctx} {s : St} {Q : Exit → St → Prop} {ops : Array Oper} {rest : List Oper} {o : Oper}
theorem Le.ownBack0 {t id : Nat} {v : Value} {x : T} (h1 : look s.fr t = .t (.v v)) (h2 : lookM s.M id = some (.rawV [v] [x])) : Le c s ⟨(t, .own x) :: s.fr, (id, .rawV [] []) :: s.M⟩ := by
 classical
 rintro a w ⟨F, β, fb, mb, ow, hi⟩
 have hr := hi.fr t
 rw [h1] at hr
 have e1 := Am hr
 have hm := hi.mem id
 rw [h2] at hm
 have hO : OwnL w [v] [x] (mb id) := hm
 have ho : ∀ b, b ∈ mb id → ow b = some (.inr id) := fun b h => hi.omem id b h
 have hfb : fb t = [] := hr.free1 rfl
 refine ⟨F, β, fun y => if y = t then mb id else fb y, fun i => if i = id then [] else mb i, fun b => if b ∈ mb id then some (.inl t) else ow b, ?_⟩
 exact { hi with
  fr := fun y => by
   simp only [look]
   by_cases h : t = y
   ·subst h
    rw [if_pos rfl, if_pos rfl, e1]
    simpa using RelD.own (F := F) (β := β) hO .done
   ·rw [if_neg h, if_neg (fun e => h e.symm)]
    exact hi.fr y
  mem := fun i => by
   simp only [lookM]
   by_cases h : i = id
   ·subst h; rw [if_pos rfl, if_pos rfl]; exact OwnL.nil
   ·rw [if_neg (fun e => h e.symm), if_neg h]; exact hi.mem i
  ofr := fun y b hb => by
   split at hb
   ·rename_i h; subst h; rw [if_pos hb]
   ·have h5 := hi.ofr y b hb
    rw [if_neg (fun h => by rw [ho b h] at h5; cases h5)];exact h5
  omem := fun i b hb => by
   split at hb
   ·cases hb
   ·rename_i hne
    have h5 := hi.omem i b hb
    rw [if_neg (fun h => by rw [ho b h] at h5; cases h5; exact hne rfl)];exact h5
  nfr := fun y => by
   split
   ·exact hi.nmem id
   ·exact hi.nfr y
  nmem := fun i => by
   split
   ·exact List.nodup_nil
   ·exact hi.nmem i
  own := fun b hb => by
   split at hb
   ·rename_i h; exact hi.own b (by rw [ho b h]; simp)
   ·exact hi.own b hb }
end
end Go.Eng
end
section
/- Calls of readers on own memory; what is told, read by what is known of it. -/
namespace Go.Eng
open Go.RowKit
section
variable {P : Program} {c : Ctx} {s : St} {Q : Exit → St → Prop} {ops : Array Oper} {rest : List Oper} {o : Oper} {M0 : List (Nat × Blk)} {acc : List Dl}
theorem QG_rem {Q : St → List Dl → Prop} {t ty ty' : Nat} {x y : Operand} {a b : Int} (hg : o.guard = none) (hd : o.dst = some t) (ht : t < c.n) (ho : o.op = .binOp .rem ty x y ty') (hx : opd s.fr x = .t (.v (.int .i64 a))) (hy : opd s.fr y = .t (.v (.int .i64 b)))
  (hb : b ≠ 0) (kk : QG P c ops M0 rest ⟨(t, .t (.v (.int .i64 (a.tmod b)))) :: s.fr, s.M⟩ (acc ++ [pl t (.t (.v (.int .i64 (a.tmod b))))]) Q) : QG P c ops M0 (o :: rest) s acc Q :=
 ⟨pl t _, hd, fun s' ha _ Q h => WO_rem hg hd ht ho (by rw [ha.opd (by rw [ho]; simp [Op.operands])]; exact hx) (by rw [ha.opd (by rw [ho]; simp [Op.operands])]; exact hy) hb h, kk⟩
end
end Go.Eng
end
section
/- Arithmetic of words of any width. -/
namespace Go.Eng
open Go.RowKit
section
variable {P : Program} {c : Ctx} {s : St} {Q : Exit → St → Prop} {ops : Array Oper} {rest : List Oper} {o : Oper}
def Bj (P : Program) (op : BinOp) (u1 u2 v : Value) : Prop := ∀ (ty : Nat) (ox oy : Operand) (w : World), ((do eqGuard op ty ox oy u1 u2; binOp op ty u1 u2 : Sem Value)).run P w = .ok v w
theorem AG {t ty ty' : Nat} {op : BinOp} {x y : Operand} {u1 u2 v : Value} (hg : o.guard = none) (hd : o.dst = some t) (ht : t < c.n) (ho : o.op = .binOp op ty x y ty') (hx : opd s.fr x = .t (.v u1)) (hy : opd s.fr y = .t (.v u2)) (hv : Bj P op u1 u2 v) (hone : v.oneCell' = true)
  (kk : WO P c ops rest ⟨(t, .t (.v v)) :: s.fr, s.M⟩ Q) : WO P c ops (o :: rest) s Q := by
 refine BC hg hd ht _ (fun a' w F β fb mb ow hi => ?_) kk;refine ⟨v, ?_, .t (.v hone .nil) .done⟩
 have e1 := A3 hi hx
 have e2 := A3 hi hy
 simp only [execOp, ho, e1, e2]
 have := hv ty x y w
 simp only [N8] at this ⊢
 revert this
 cases h : (eqGuard op ty x y u1 u2).run P w <;> simp_all [Result.andThen]
theorem Aa {Q : St → Prop} {t ty ty' : Nat} {op : BinOp} {x y : Operand} {u1 u2 v : Value} (hg : o.guard = none) (hd : o.dst = some t) (ht : t < c.n) (ho : o.op = .binOp op ty x y ty') (hx : opd s.fr x = .t (.v u1)) (hy : opd s.fr y = .t (.v u2)) (hv : Bj P op u1 u2 v) (hone : v.oneCell' = true)
  (kk : QL P c ops rest ⟨(t, .t (.v v)) :: s.fr, s.M⟩ Q) : QL P c ops (o :: rest) s Q :=
 ⟨t, _, hd, fun s' ha Q h => AG hg hd ht ho (by rw [ha.opd (by rw [ho]; simp [Op.operands])]; exact hx) (by rw [ha.opd (by rw [ho]; simp [Op.operands])]; exact hy) hv hone h, kk⟩
theorem Mu {k : IntKind} {a b : Int} : Bj P .add (.int k a) (.int k b) (.int k (k.wrap (a + b))) := fun ty ox oy w => by
 simp [eqGuard, binOp, Op.intArith]
theorem binShr {k k2 : IntKind} {a b : Int} (hb : ¬ b < 0) : Bj P .shr (.int k a) (.int k2 b) (.int k (a.fdiv (2 ^ min b.toNat k.bits))) := fun ty ox oy w => by
 simp [eqGuard, binOp, Op.shift, hb]
theorem Ms {k : IntKind} {a b : Int} : Bj P .and (.int k a) (.int k b) (.int k (k.wrap ((BitVec.ofInt k.bits a &&& BitVec.ofInt k.bits b).toNat : Nat))) := fun ty ox oy w => by
 simp [eqGuard, binOp, Op.intBits]
theorem AZ {src dst t : Nat} {x : Operand} {td : TypeDesc} {k k0 : IntKind} {n m : Int} (hg : o.guard = none) (hd : o.dst = some t) (ht : t < c.n) (ho : o.op = .convert src dst x)
  (h1 : P.underlying src = some td) (h2 : P.underlying dst = some (.int k)) (hx : opd s.fr x = .t (.v (.int k0 n))) (hw : k.wrap n = m)
  (kk : WO P c ops rest ⟨(t, .t (.v (.int k m))) :: s.fr, s.M⟩ Q) : WO P c ops (o :: rest) s Q := by
 subst hw; exact WO_conv hg hd ht ho h1 h2 hx kk
theorem BI {Q : St → Prop} {src dst t : Nat} {x : Operand} {td : TypeDesc} {k k0 : IntKind} {n m : Int} (hg : o.guard = none) (hd : o.dst = some t) (ht : t < c.n) (ho : o.op = .convert src dst x)
  (h1 : P.underlying src = some td) (h2 : P.underlying dst = some (.int k)) (hx : opd s.fr x = .t (.v (.int k0 n))) (hw : k.wrap n = m)
  (kk : QL P c ops rest ⟨(t, .t (.v (.int k m))) :: s.fr, s.M⟩ Q) : QL P c ops (o :: rest) s Q :=
 ⟨t, _, hd, fun s' ha Q h => AZ hg hd ht ho h1 h2 (by rw [ha.opd (by rw [ho]; simp [Op.operands])]; exact hx) hw h, kk⟩
end
end Go.Eng
end
section
/- Regions of open order that write, with a tail in order. -/
namespace Go.Eng
open Go.RowKit
section
variable {P : Program} {c : Ctx} {s : St} {Q : Exit → St → Prop}
theorem WR_Ht {l1 l2 : List Oper} {ops : Array Oper} (bads : List (List Nat)) (he : ops = (l1 ++ l2).toArray) (hB : Bw ops l1.length = true) (hT : l2 = [] ∨ EG ops l1.length = true)
  (h : QH P c ops bads l1 s [] (fun s' xs => Mq ops l1 s xs bads = true ∧ WO P c ops l2 s' Q)) : WR P c ops s Q := by
 obtain ⟨xs, hlen, ⟨hchk, hend⟩, hstep⟩ := h.steps
 simp only [OY] at hchk
 have hops : ∀ j : Nat, j < l1.length → l1[j]? = ops[j]? := fun j hj => by subst he; rw [List.getElem?_toArray, List.getElem?_append_left hj]
 have hsz : l1.length ≤ ops.size := by subst he; simp
 refine WR_S he hB hT (fun X => mrg xs X s l1.length) (fun X hX => ?_) (fun X i o ho hXi hcl hdep => ?_) (fun X hX => ?_)
 ·rw [Bb (i := 0) (OU _) fun j _ => hX j]
  exact Le.refl
 ·have hil : i < l1.length := (List.getElem?_eq_some_iff.1 ho).1
  obtain ⟨x, hx, hst⟩ := hstep i o ho
  have hoi : ops[i]? = some o := by rw [← hops i hil]; exact ho
  have hlt : ∀ k ok, ops[k]? = some ok → ∀ e, e ∈ ok.after → Region.binds .any e = true → e.on < k := fun k ok hk => Cf hB hk
  have hcl' : ∀ j oj, ops[j]? = some oj → j < l1.length → X j = true → ∀ e, e ∈ oj.after → Region.binds .any e = true → X e.on = true := fun j oj hj hjl hXj => hcl j oj (by rw [hops j hjl]; exact hj) hXj
  -- what is done, and what is not
  have after : ∀ j, rch (DL ops l1.length) i j = true → X j = true := fun j hr => (EU hlt (by omega) hcl' i hil j hr fun oi h' => by rw [hoi] at h'; cases h'; exact hdep).1
  have before : ∀ j, j < l1.length → rch (DL ops l1.length) j i = true → X j = false := fun j hj hr => by
   cases hXj : X j with
   | false => rfl
   | true =>
    have := (EU hlt (by omega) hcl' j hj i hr fun oj h' e he hb => hcl' j oj h' hj hXj e he hb).1
    rw [hXi] at this; cases this
  have hxat : ∀ {j : Nat}, j < l1.length → ∃ oj y, l1[j]? = some oj ∧ xs[j]? = some y := fun {j} hj => by
   have hlj : l1[j]? = some l1[j] := List.getElem?_eq_getElem hj
   obtain ⟨y, hy, _⟩ := hstep j _ hlj
   exact ⟨_, y, hlj, hy⟩
  have apart : ∀ {j : Nat} {y : Dl}, j < l1.length → j ≠ i → xs[j]? = some y → X j ≠ decide (j < i) →
    (∀ u, y.ws.contains u = true → (o.looksAt ops).contains u = false ∧ x.ws.contains u = false) ∧ (∀ p, p ∈ y.M → (bads.getD i []).contains p.1 = true) ∧ (∀ p, p ∈ y.M → inF x.M p.1 = false) := fun {j y} hj hji hy hne => by
   obtain ⟨oj, y', hlj, hy'⟩ := hxat hj
   rw [hy] at hy'; cases hy'
   rcases Nat.lt_or_gt_of_ne hji with h' | h'
   ·have hp := Bg hchk h' hlj ho hy hx
    have hnr : rch (DL ops l1.length) i j = false := by
     cases hr : rch (DL ops l1.length) i j with
     | false => rfl
     | true => exact absurd (by rw [after j hr]; simp [h']) hne
    unfold FZ at hp;rw [hnr, Oi, Nv] at hp
    have hd := hp.1
    unfold disB at hd;simp only [Nv, N1, ON] at hd
    obtain ⟨d1, d2, d3, d4⟩ := hd
    refine ⟨fun u hu => ⟨d2 u (by simpa using hu), ?_⟩, fun p hp => d4 p hp, fun p hp => ?_⟩
    ·cases hxu : x.ws.contains u with
     | false => rfl
     | true =>
      have := (d1 u (by simpa using hxu)).2
      rw [hu] at this; cases this
    ·cases hin : inF x.M p.1 with
     | false => rfl
     | true =>
      unfold inF at hin;rw [Oj] at hin
      obtain ⟨q, hq1, hq2⟩ := hin
      have := (d3 q hq1).2
      have hin2 : inF y.M q.1 = true := by
       unfold inF;rw [Oj];exact ⟨p, hp, by rw [beq_iff_eq] at hq2 ⊢; exact hq2.symm⟩
      rw [hin2] at this; cases this
   ·have hp := Bg hchk h' ho hlj hx hy
    have hnr : rch (DL ops l1.length) j i = false := by
     cases hr : rch (DL ops l1.length) j i with
     | false => rfl
     | true => exact absurd (by rw [before j hj hr]; simp; omega) hne
    unfold FZ at hp;rw [hnr, Oi, Nv] at hp
    have hd := hp.1
    unfold disB at hd;simp only [Nv, N1, ON] at hd
    obtain ⟨d1, d2, d3, d4⟩ := hd
    exact ⟨fun u hu => d1 u (by simpa using hu), fun p hp => (d3 p hp).1, fun p hp => (d3 p hp).2⟩
  have hag : AgreeG ops o (onL (xs.take i) s).fr (EN (bads.getD i []) (onL (xs.take i) s).M) (mrg xs X s l1.length) := by
   refine ⟨fun id k hk => ?_, fun u hu => ?_⟩
   ·obtain ⟨hb, hk⟩ := CT hk
    rw [← CS (X := fun j => decide (j < i)) (by omega) (fun j hj => by simpa using hj), ← Bb (X := fun j => decide (j < i)) (i := i) (n := l1.length) (by omega) (fun j hj => by simpa using hj)] at hk;rw [← hk]
    refine H5 fun j y hj hy hin => ?_
    by_cases hje : j = i
    ·subst hje; rw [hXi]; simp
    ·refine Classical.byContradiction fun hne => ?_
     have hap := (apart hj hje hy hne).2.1
     unfold inF at hin;rw [Oj] at hin
     obtain ⟨p, hp1, hp2⟩ := hin
     have := hap p hp1
     rw [show p.1 = id from by simpa using hp2, hb] at this;cases this
   ·rw [← CS (X := fun j => decide (j < i)) (by omega) (fun j hj => by simpa using hj), ← Bb (X := fun j => decide (j < i)) (i := i) (n := l1.length) (by omega) (fun j hj => by simpa using hj)]
    refine Es fun j y hj hy hin => ?_
    by_cases hje : j = i
    ·subst hje; rw [hXi]; simp
    ·refine Classical.byContradiction fun hne => ?_
     have hap := ((apart hj hje hy hne).1 u (by rw [← Fq]; exact hin)).1
     rw [List.contains_eq_mem, decide_eq_false_iff_not] at hap;exact hap hu
  have hcl2 : x.b = true → Cl x.t (mrg xs X s l1.length) := fun hb => by
   refine Cl.mrg ?_ fun j y hj hXj hy => ?_
   ·have := Hj hchk hx
    unfold MQ at this;rw [hb] at this;simp only [Bool.not_true, Oi, Nv] at this;exact ⟨B1 this.1, (BX this.2).1, (BX this.2).2⟩
   ·have hji : j ≠ i := fun e => by subst e; rw [hXi] at hXj; cases hXj
    obtain ⟨oj, y', hlj, hy'⟩ := hxat hj
    rw [hy] at hy'; cases hy'
    rcases Nat.lt_or_gt_of_ne hji with h' | h'
    ·have hp := Bg hchk h' hlj ho hy hx
     unfold FZ at hp;rw [hb] at hp;simp only [Bool.not_true, Oi, Nv] at hp;exact hp.2.2
    ·have hp := Bg hchk h' ho hlj hx hy
     have hnr : rch (DL ops l1.length) j i = false := by
      cases hr : rch (DL ops l1.length) j i with
      | false => rfl
      | true => rw [before j hj hr] at hXj; cases hXj
     unfold FZ at hp;rw [hb, hnr] at hp;simp only [Bool.not_true, Oi, Nv] at hp;exact hp.2.1
  have later : ∀ {j : Nat} {y : Dl}, j < l1.length → i < j → X j = true → xs[j]? = some y → (∀ u, y.ws.contains u = true → x.ws.contains u = false) ∧ ∀ p, p ∈ y.M → inF x.M p.1 = false := fun {j y} hj hij hXj hy => by
   have hap := apart hj (by omega) hy (by rw [hXj]; simp; omega)
   exact ⟨fun u hu => (hap.1 u hu).2, hap.2.2⟩
  intro Q' hQ;refine hst _ hag hcl2 Q' (AI (Le.of (fun u => .inl ?_) (fun u => .inl ?_)) hQ)
  ·simp only [Dl.on, look_app]
   split
   ·rename_i hu
    refine Ct hx hXi hu hil fun j y hj hij hXj hy => ?_
    cases hin : inF y.fr u with
    | false => rfl
    | true =>
     have := (later hj hij hXj hy).1 u (by rw [← Fq]; exact hin)
     rw [← Fq, hu] at this; cases this
   ·rename_i hu
    refine Es fun j y hj hy hin => ?_
    have : (j == i) = false := by
     rw [beq_eq_false_iff_ne];intro e; subst e; rw [hx] at hy; cases hy; exact hu hin
    rw [this, Ob]
  ·simp only [Dl.on, lookM_app]
   split
   ·rename_i hu
    refine DZ hx hXi hu hil fun j y hj hij hXj hy => ?_
    cases hin : inF y.M u with
    | false => rfl
    | true =>
     unfold inF at hin;rw [Oj] at hin
     obtain ⟨p, hp1, hp2⟩ := hin
     have := (later hj hij hXj hy).2 p hp1
     rw [show p.1 = u from by simpa using hp2, hu] at this;cases this
   ·rename_i hu
    refine H5 fun j y hj hy hin => ?_
    have : (j == i) = false := by
     rw [beq_eq_false_iff_ne];intro e; subst e; rw [hx] at hy; cases hy; exact hu hin
    rw [this, Ob]
 ·rw [CS (by omega) hX, Nw (by omega)]
  exact hend
theorem Bu {id : Nat} {ops : Array Oper} (m : Nat) (bads : List (List Nat)) (hm : P.follows .mixedOrders = true) (hl : (ops.toList.take m).length = m) (hB : Bw ops m = true) (hT : EG ops m = true)
  (h : QH P c ops bads (ops.toList.take m) s [] (fun s' xs => Mq ops (ops.toList.take m) s xs bads = true ∧ WO P c ops (ops.toList.drop m) s' Q)) : W P c (.region id ops true) s Q :=
 Ic hm (WR_Ht (l1 := ops.toList.take m) (l2 := ops.toList.drop m) bads (by simp) (by rw [hl]; exact hB) (.inr (by rw [hl]; exact hT)) h)
end
end Go.Eng
end
section
/- A struct that is read, of which some cells are not told. -/
namespace Go.Eng
open Go.RowKit
section
variable {P : Program} {c : Ctx} {s : St} {Q : Exit → St → Prop} {ops : Array Oper} {rest : List Oper} {o : Oper}
theorem BB {code : Code} {u j : Nat} {x : T} {cells : List D} (idp : Nat) (hB : lookM s.M u = some (.box cells)) (h1 : cells[j]? = some (.own x)) (h2 : lookM s.M idp = none)
  (k : ∀ v : Value, W P c code ⟨s.fr, (u, .box (cells.set j (.t (.v v)))) :: (idp, .rawV [v] [x]) :: s.M⟩ Q) : W P c code s Q := by
 have hne : ¬ u = idp := fun e => by rw [e, h2] at hB; cases hB
 intro a w hi0
 have hi00 := hi0
 obtain ⟨F, β, fb, mb, ow, hi⟩ := hi00
 have hb := hi.mem u
 rw [hB] at hb
 obtain ⟨b0, arr, e0, bs0, p1, p2, p3, p4, p5⟩ := hb
 obtain ⟨v, b1, b2, b3, hbs, q1, qv, q2⟩ := Cs j p3 h1
 have hnd := hi.nmem u
 rw [p5, hbs] at hnd
 obtain ⟨n1, n2⟩ := N7.1 hnd
 obtain ⟨n3, n4, n5⟩ := N5.1 n2
 obtain ⟨n6, n7, n8⟩ := N5.1 n3
 have hone : v.oneCell' = true := by
  rw [N1] at p4;exact p4 v (List.mem_of_getElem? qv)
 have hO : OwnL w [v] [x] b2 := by
  cases q1 with
  | own h3 h4 => cases h4; simpa using h3
 refine k v a w (hi.re2 hne (mp := b0 :: (b1 ++ [] ++ b3)) (mq := b2) (fun i h1 h2' => .inl (by simp only [lookM]; rw [if_neg (fun e => h1 e.symm), if_neg (fun e => h2' e.symm)])) ?_ ?_ (fun b h => .inl ?_) (fun b h => .inl (by rw [p5, hbs]; simp [h])) ?_ n7 (fun b h h' => ?_))
 ·simp only [lookM, if_true]
  exact ⟨b0, arr, e0, b1 ++ [] ++ b3, by simpa using p1, p2, q2 _ [] (.t (.v hone .nil) .done), p4, rfl⟩
 ·simp only [lookM, if_neg hne, if_true]; exact hO
 ·rw [p5, hbs]
  rcases N6.1 h with rfl | h
  ·simp
  ·simp only [OI] at h
   rcases N3.1 h with h | h <;> simp [h]
 ·simp only [OI]
  refine N7.2 ⟨fun h => n1 ?_, N5.2 ⟨n6, n4, fun x hx y hy => n5 x (by simp [hx]) y hy⟩⟩
  rcases N3.1 h with h | h <;> simp [h]
 ·simp only [OI] at h
  rcases N6.1 h with rfl | h
  ·exact n1 (by simp [h'])
  ·rcases N3.1 h with h | h
   ·exact n8 b h b h' rfl
   ·exact n5 b (by simp [h']) b h rfl
end
end Go.Eng
end
section
/- Functions that are lent memory and answer what is then only read. -/
namespace Go.Eng
open Go.RowKit
section
variable {P : Program} {c : Ctx} {s : St} {Q : Exit → St → Prop} {ops : Array Oper} {rest : List Oper} {o : Oper}
inductive No (s : St) : List D → List D → Prop
 | done : No s [] []
 | t {x ds es} : No s ds es → No s (.t x :: ds) (.t x :: es)
 | nil {ds es} (n : Nat) : No s ds es → No s (.nil :: ds) (.t (.list n []) :: es)
 | pin {id i off b n cc ds es} (pid : Nat) : lookM s.M pid = some (.pin id b n cc) → No s ds es → No s (.ref id i off :: ds) (.t (.v (.pointer (some ⟨b, i * n + off, none⟩))) :: es)
end
end Go.Eng
end
section
/- A list that has a name is from now on only read; what is read, read by what is known of a cell. -/
namespace Go.Eng
open Go.RowKit
section
variable {P : Program} {c : Ctx} {s : St} {Q : Exit → St → Prop} {ops : Array Oper} {rest : List Oper} {o : Oper}
end
end Go.Eng
end
section
/- Structs of two whole numbers, compared with themselves. -/
namespace Go.Eng
open Go.RowKit
section
variable {P : Program} {c : Ctx} {s : St} {Q : Exit → St → Prop} {ops : Array Oper} {rest : List Oper} {o : Oper}
theorem Nr {Q : St → List Dl → Prop} {M0 : List (Nat × Blk)} {acc : List Dl} {t ty ty' : Nat} {x y : Operand} {a b m : Int} (hg : o.guard = none) (hd : o.dst = some t) (ht : t < c.n) (ho : o.op = .binOp .quo ty x y ty') (hx : opd s.fr x = .t (.v (.int .i64 a))) (hy : opd s.fr y = .t (.v (.int .i64 b)))
  (hb : b ≠ 0) (hw : IntKind.i64.wrap (a.tdiv b) = m) (kk : QG P c ops M0 rest ⟨(t, .t (.v (.int .i64 m))) :: s.fr, s.M⟩ (acc ++ [pl t (.t (.v (.int .i64 m)))]) Q) : QG P c ops M0 (o :: rest) s acc Q := by
 subst hw;exact ⟨pl t _, hd, fun s' ha _ Q h => WO_quo hg hd ht ho (by rw [ha.opd (by rw [ho]; simp [Op.operands])]; exact hx) (by rw [ha.opd (by rw [ho]; simp [Op.operands])]; exact hy) hb h, kk⟩
end
end Go.Eng
end
section
/- Runs of operations in order, cut in two: where ways meet. -/
namespace Go.Eng
open Go.RowKit
section
variable {P : Program} {c : Ctx} {s : St} {Q : Exit → St → Prop} {ops : Array Oper} {rest : List Oper} {o : Oper}
end
end Go.Eng
end
section
/- Functions whose answer is one of many: what is told of it is a property; the rules for their calls. -/
namespace Go.Eng
open Go.RowKit
section
variable {P : Program} {c : Ctx} {ops : Array Oper} {rest : List Oper} {s : St} {Q : Exit → St → Prop} {o : Oper}
end
end Go.Eng
end
section
/- An answer that is owned may be taken as one that is only read. -/
namespace Go.Eng
open Go.RowKit
theorem NU {w : World} {F : Nat → Prop} {β : Ag} {v : Value} {d d' : D} {bs : List Nat} (h : frz d = some d') (hr : RelD w F β [v] [d] bs) : RelD w (fun b => F b ∨ b ∈ bs) β [v] [d'] [] := by
 unfold frz at h;split at h
 ·cases h
  cases hr with
  | own q1 q2 => cases q2; exact .t (q1.rel fun b hb => .inr (by simpa using hb)) .done
 ·split at h
  ·rename_i ts hts
   cases h
   cases hr with
   | agg h0 q1 q2 => cases q2; exact .tagg ((frzL_rel q1 hts h0).mono (w := w) (w' := w) (fun b hb => by simpa using hb) fun _ _ => rfl) .done
  ·cases h
 ·cases h
def frzC : D → Option D
 | .t x => some (.t x)
 | .agg l => (K4 l).map fun ts => .agg (ts.map .t)
 | d => frz d
def K5 : List D → Option (List D)
 | [] => some []
 | d :: ds => match frzC d with
  | some x => match K5 ds with
   | some xs => some (x :: xs)
   | none => none
  | none => none
def frzR : D → Option D
 | .tup l => (K5 l).map .tup
 | d => frzC d
theorem JG {w : World} {F : Nat → Prop} {β : Ag} {v : Value} {d d' : D} {bs : List Nat} (h : frzC d = some d') (hr : RelD w F β [v] [d] bs) : RelD w (fun b => F b ∨ b ∈ bs) β [v] [d'] [] := by
 unfold frzC at h;split at h
 ·cases h
  have hb := hr.free1 rfl
  subst hb
  exact hr.mono (w := w) (w' := w) (fun _ h => .inl h) (fun _ _ => rfl) (fun _ _ => rfl) fun _ => rfl
 ·rename_i l
  cases hl : K4 l with
  | none => rw [hl] at h; cases h
  | some ts =>
   rw [hl] at h;cases h
   cases hr with
   | agg h0 q1 q2 =>
    cases q2;exact .agg h0 (relD_ts ((frzL_rel q1 hl h0).mono (w := w) (w' := w) (fun b hb => by simpa using hb) fun _ _ => rfl)) .done
 ·exact NU h hr
theorem HY {w : World} {F : Nat → Prop} {β : Ag} : ∀ {ds ds' : List D} {vs : List Value} {bs : List Nat}, K5 ds = some ds' → RelD w F β vs ds bs → RelD w (fun b => F b ∨ b ∈ bs) β vs ds' []
 | [], ds', vs, bs, h, hr => by
  cases h;cases hr;exact .done
 | d :: ds, ds', vs, bs, h, hr => by
  obtain ⟨v, vs', rfl⟩ : ∃ v vs', vs = v :: vs' := by
   have := hr.length
   cases vs with
   | nil => simp at this
   | cons v vs => exact ⟨v, vs, rfl⟩
  obtain ⟨b1, b2, h1, h2, rfl⟩ := hr.cons
  unfold K5 at h;split at h
  ·rename_i x hx
   split at h
   ·rename_i xs hxs
    cases h
    have e1 := (JG hx h1).mono (w := w) (w' := w) (F' := fun b => F b ∨ b ∈ b1 ++ b2) (β' := β) (fun b hb => by rcases hb with hb | hb; exact .inl hb; exact .inr (by simp [hb])) (fun _ _ => rfl) (fun _ _ => rfl) fun _ => rfl
    have e2 := (HY hxs h2).mono (w := w) (w' := w) (F' := fun b => F b ∨ b ∈ b1 ++ b2) (β' := β) (fun b hb => by rcases hb with hb | hb; exact .inl hb; exact .inr (by simp [hb])) (fun _ _ => rfl) (fun _ _ => rfl) fun _ => rfl
    exact RelD.cons' e1 e2
   ·cases h
  ·cases h
theorem MM {w : World} {F : Nat → Prop} {β : Ag} {v : Value} {d d' : D} {bs : List Nat} (h : frzR d = some d') (hr : RelD w F β [v] [d] bs) : RelD w (fun b => F b ∨ b ∈ bs) β [v] [d'] [] := by
 unfold frzR at h;split at h
 ·rename_i l
  cases hl : K5 l with
  | none => rw [hl] at h; cases h
  | some l' =>
   rw [hl] at h;cases h
   cases hr with
   | tup q1 q2 =>
    cases q2;exact .tup ((HY hl q1).mono (w := w) (w' := w) (fun b hb => by simpa using hb) (fun _ _ => rfl) (fun _ _ => rfl) fun _ => rfl) .done
 ·exact JG h hr
theorem Fun.frz {P : Program} {f : FuncId} {ds : List D} {r r' : D} (h : Fun P f ds r) (hr : frzR r = some r') : Fun P f ds r' := by
 refine ⟨h.1, fun w F args hF hargs => (h.2 w F args hF hargs).mono ?_⟩
 rintro e w' ⟨v, F', bs, rfl, h1, h2, h3, h4, h5, h6⟩
 refine ⟨v, fun b => F' b ∨ b ∈ bs, [], rfl, h1, fun b hb => .inl (h2 b hb), fun b hb => ?_, MM hr h4, by simp, by simp⟩
 rcases hb with hb | hb
 ·exact h3 b hb
 ·have := h6 b hb; exact .inr ⟨this.1, this.2.1⟩
end Go.Eng
end
section
/- Texts: what is known of them, and the operations on them. -/
namespace Go.Eng
open Go.RowKit
abbrev T.str (l : List UInt8) : T := .v (.string ⟨⟨l⟩⟩)
abbrev T.byte (b : UInt8) : T := .v (.int .u8 (b.toNat : Int))
def T.text (l : List UInt8) : T := .list 1 (l.map T.byte)
section
variable {P : Program} {c : Ctx} {s : St} {Q : Exit → St → Prop} {ops : Array Oper} {rest : List Oper} {o : Oper} {M0 : List (Nat × Blk)} {acc : List Dl}
theorem AF {a b : List UInt8} (h : a.length + b.length ≤ 9223372036854775807) : Bj P .add (.string ⟨⟨a⟩⟩) (.string ⟨⟨b⟩⟩) (.string ⟨⟨a ++ b⟩⟩) := fun ty ox oy w => by
 have h1 : ¬ ((((⟨⟨a⟩⟩ : ByteArray).size + (⟨⟨b⟩⟩ : ByteArray).size : Nat) : Int) > IntKind.i64.max) := by
  have e1 : (⟨⟨a⟩⟩ : ByteArray).size = a.length := rfl
  have e2 : (⟨⟨b⟩⟩ : ByteArray).size = b.length := rfl
  have e3 : IntKind.i64.max = 9223372036854775807 := by decide
  rw [e1, e2, e3];omega
 have h2 : ((⟨⟨a⟩⟩ : ByteArray) ++ (⟨⟨b⟩⟩ : ByteArray)) = ⟨⟨a ++ b⟩⟩ := by
  apply ByteArray.ext
  simp
 simp only [eqGuard, binOp, Op.stringOp, if_neg h1, h2]
 simp
theorem Me {a b : List UInt8} : ((⟨⟨a⟩⟩ : ByteArray).toList == (⟨⟨b⟩⟩ : ByteArray).toList) = decide (a = b) := by
 rw [ByteArray.toList_eq, ByteArray.toList_eq, Bool.eq_iff_iff, beq_iff_eq, decide_eq_true_eq]
theorem Dh {a b : List UInt8} : Bj P .eql (.string ⟨⟨a⟩⟩) (.string ⟨⟨b⟩⟩) (.bool (decide (a = b))) := fun ty ox oy w => by
 simp only [eqGuard, binOp, Op.stringOp, Me]
 simp
theorem CW {a b : List UInt8} : Bj P .neq (.string ⟨⟨a⟩⟩) (.string ⟨⟨b⟩⟩) (.bool (!decide (a = b))) := fun ty ox oy w => by
 simp only [eqGuard, binOp, Op.stringOp, Me]
 simp
theorem Nt {Q : St → List Dl → Prop} {t ty ty' : Nat} {op : BinOp} {x y : Operand} {u1 u2 v : Value} (hg : o.guard = none) (hd : o.dst = some t) (ht : t < c.n) (ho : o.op = .binOp op ty x y ty') (hx : opd s.fr x = .t (.v u1)) (hy : opd s.fr y = .t (.v u2)) (hv : Bj P op u1 u2 v) (hone : v.oneCell' = true)
  (kk : QG P c ops M0 rest ⟨(t, .t (.v v)) :: s.fr, s.M⟩ (acc ++ [pl t (.t (.v v))]) Q) : QG P c ops M0 (o :: rest) s acc Q :=
 ⟨pl t _, hd, fun s' ha _ Q h => AG hg hd ht ho (by rw [ha.opd (by rw [ho]; simp [Op.operands])]; exact hx) (by rw [ha.opd (by rw [ho]; simp [Op.operands])]; exact hy) hv hone h, kk⟩
theorem A5 {t ty : Nat} {x : Operand} {l : List UInt8} (hg : o.guard = none) (hd : o.dst = some t) (ht : t < c.n) (ho : o.op = .call { callee := .builtin .len, args := #[x], argTypes := #[ty] })
  (h1 : P.underlying ty = some .string) (hx : opd s.fr x = .t (T.str l))
  (k : WO P c ops rest ⟨(t, .t (.int l.length)) :: s.fr, s.M⟩ Q) : WO P c ops (o :: rest) s Q := by
 refine BC hg hd ht _ (fun a w F β fb mb ow hi => ⟨.int .i64 l.length, ?_, .t (.v rfl .nil) .done⟩) k
 have e := A3 hi hx
 simp [execOp, ho, resolve, e, invoke, builtin, Builtin.len_, run_underlying h1, goInt]
 try rfl
theorem BH {t ty : Nat} {x y : Operand} {l : List UInt8} {i : Int} (hg : o.guard = none) (hd : o.dst = some t) (ht : t < c.n) (ho : o.op = .index ty x y)
  (h1 : P.underlying ty = some .string) (hx : opd s.fr x = .t (T.str l)) (hy : opd s.fr y = .t (.int i)) (h0 : 0 ≤ i) (hl : i < l.length)
  (k : WO P c ops rest ⟨(t, .t (T.byte (l[i.toNat]'(by omega)))) :: s.fr, s.M⟩ Q) : WO P c ops (o :: rest) s Q := by
 refine BC hg hd ht _ (fun a w F β fb mb ow hi => ⟨.int .u8 ((l[i.toNat]'(by omega)).toNat : Int), ?_, .t (.v rfl .nil) .done⟩) k
 have e := A3 hi hx
 have e2 := A3 hi hy
 have h2 : i.toNat < l.length := by omega
 have h3 : (⟨⟨l⟩⟩ : ByteArray)[i.toNat]? = some (l[i.toNat]'h2) := by
  rw [getElem?_pos (⟨⟨l⟩⟩ : ByteArray) i.toNat (show i.toNat < l.length from h2)];rfl
 simp [execOp, ho, e, e2, Instr.index, asIntOf, run_underlying h1, h0, h3]
theorem BZ {t ty : Nat} {x : Operand} {lo hi' : Option Operand} {l : List UInt8} {i j : Int} (hg : o.guard = none) (hd : o.dst = some t) (ht : t < c.n) (ho : o.op = .slice ty x lo hi' none)
  (h1 : P.underlying ty = some .string) (hx : opd s.fr x = .t (T.str l)) (hlo : Ht s.fr lo 0 = some i) (hhi : Ht s.fr hi' l.length = some j) (h5 : 0 ≤ i) (h6 : i ≤ j) (h7 : j ≤ l.length)
  (k : WO P c ops rest ⟨(t, .t (T.str ((l.drop i.toNat).take (j.toNat - i.toNat)))) :: s.fr, s.M⟩ Q) : WO P c ops (o :: rest) s Q := by
 refine BC hg hd ht _ (fun a w F β fb mb ow hi => ⟨.string ⟨⟨(l.drop i.toNat).take (j.toNat - i.toNat)⟩⟩, ?_, .t (.v rfl .nil) .done⟩) k
 have e := A3 hi hx
 have hx2 : ∀ a b, (⟨⟨l⟩⟩ : ByteArray).extract a b = ⟨⟨(l.drop a).take (b - a)⟩⟩ := fun a b => ByteArray.extract_mk l a b
 have hsz : (⟨⟨l⟩⟩ : ByteArray).size = l.length := rfl
 simp only [execOp, ho, e, N8]
 cases hi' with
 | none =>
  cases hhi
  cases lo with
  | none =>
   cases hlo
   simp [Instr.sliceAt, run_underlying h1, Instr.slice, Instr.sliceBounds, hx2, hsz]
  | some x =>
   have hb := fun code => Bv (P := P) (CR hi hlo) h5 (show i ≤ ((l.length : Nat) : Int) by omega) code w
   simp [Instr.sliceAt, run_underlying h1, Instr.slice, Instr.sliceBounds, hx2, hsz, hb]
 | some y =>
  have hb' := fun code => Bv (P := P) (CR hi hhi) (by omega) (show j ≤ ((l.length : Nat) : Int) by omega) code w
  cases lo with
  | none =>
   cases hlo
   simp [Instr.sliceAt, run_underlying h1, Instr.slice, Instr.sliceBounds, hx2, hsz, hb']
  | some x =>
   have hb := fun code => Bv (P := P) (CR hi hlo) h5 (show i ≤ (j.toNat : Int) by omega) code w
   simp [Instr.sliceAt, run_underlying h1, Instr.slice, Instr.sliceBounds, hx2, hsz, hb, hb']
theorem GC {w : World} {F : Nat → Prop} {src dst e : TypeId} {v : Value} {l : List UInt8} (hs : P.underlying src = some (.slice e)) (he : P.underlying e = some (.int .u8)) (hd : P.underlying dst = some .string) (h : RelL w F [v] [T.text l]) :
  (convert src dst v).run P w = .ok (.string ⟨⟨l⟩⟩) w := by
 generalize hy : T.text l = y at h
 cases h with
 | v p1 p2 => cases hy
 | sub _ _ => cases hy
 | @none a cp n _ _ p =>
  have e0 := (T.list.inj hy).2
  have : l = [] := List.map_eq_nil_iff.1 e0
  subst this
  cases a with
  | none => simp [convert, run_underlying hs, run_underlying hd, run_underlying he, Conv.bytesToString]; rfl
  | some ad => exact run_convert_bytes_back w src dst e ad cp [] hs he hd (fun j hj => absurd hj (Nat.not_lt_zero j))
 | @list b o' cap n cs xs arr e' fz _ _ p1 p2 p3 p4 p5 p6 p7 =>
  obtain ⟨rfl, rfl⟩ := T.list.inj hy
  have hfl : (l.map T.byte).flatMap T.cells = l.map T.byte := by
   clear p1 p2 p3 p4 p5 p6 p7 hy
   induction l with
   | nil => rfl
   | cons x l ih => rw [OV, OM, ih]; rfl
  rw [hfl] at p6
  have hcs : cs = l.map fun b => Value.int .u8 (b.toNat : Int) := by
   clear p1 p2 p3 p4 p5 hy hfl
   induction l generalizing cs with
   | nil => cases p6; rfl
   | cons x l ih =>
    cases cs with
    | nil => cases p6
    | cons c0 cs =>
     obtain ⟨q1, q2⟩ := p6.cons
     rw [DW q1, ih q2];rfl
  subst hcs;rw [N0] at p5 ⊢;refine run_convert_bytes_back w src dst e ⟨b, o', none⟩ cap l hs he hd (fun j hj => ?_);rw [As, B2 p2, p3 j (by simpa using hj)]
  simp [List.getElem?_eq_getElem hj]
theorem A0 {src dst e t : Nat} {x : Operand} {l : List UInt8} (hg : o.guard = none) (hd : o.dst = some t) (ht : t < c.n) (ho : o.op = .convert src dst x)
  (h1 : P.underlying src = some (.slice e)) (h2 : P.underlying e = some (.int .u8)) (h3 : P.underlying dst = some .string) (hx : ResL s [opd s.fr x] [.t (T.text l)])
  (k : WO P c ops rest ⟨(t, .t (T.str l)) :: s.fr, s.M⟩ Q) : WO P c ops (o :: rest) s Q := by
 refine BC hg hd ht _ (fun a w F β fb mb ow hi => ⟨.string ⟨⟨l⟩⟩, ?_, .t (.v rfl .nil) .done⟩) k
 obtain ⟨bs, hr, h4⟩ := hi.opd x
 have hall := hx.sound hi hr fun b hb => by
  rcases h4 with rfl | ⟨u, _, rfl⟩
  ·cases hb
  ·exact (hi.own b (by rw [hi.ofr u b hb]; simp)).2.1
 simp only [execOp, ho, N8];generalize a.eval x = xv at hall ⊢
 cases hall with
 | t q1 q2 => simp [GC h1 h2 h3 q1]
end
end Go.Eng
end
section
/- Texts, in a region of open order. -/
namespace Go.Eng
open Go.RowKit
section
variable {P : Program} {c : Ctx} {s : St} {ops : Array Oper} {rest : List Oper} {o : Oper} {M0 : List (Nat × Blk)} {acc : List Dl}
end
theorem FN {P : Program} {k : IntKind} {a b : Int} : Bj P .eql (.int k a) (.int k b) (.bool (decide (a = b))) := fun ty ox oy w => by
 simp [eqGuard, binOp, Op.intCmp]
 by_cases h : a = b <;> simp [h]
theorem Nf {P : Program} {k : IntKind} {a b : Int} : Bj P .neq (.int k a) (.int k b) (.bool (!decide (a = b))) := fun ty ox oy w => by
 simp [eqGuard, binOp, Op.intCmp]
 try (by_cases h : a = b <;> simp [h])
theorem IX {P : Program} {k : IntKind} {a b : Int} : Bj P .lss (.int k a) (.int k b) (.bool (decide (a < b))) := fun ty ox oy w => by
 simp [eqGuard, binOp, Op.intCmp]
theorem IY {P : Program} {k : IntKind} {a b : Int} : Bj P .gtr (.int k a) (.int k b) (.bool (decide (b < a))) := fun ty ox oy w => by
 simp [eqGuard, binOp, Op.intCmp]
end Go.Eng
end
section
/- Functions that read variables of the program's that are laid: what lies in them is told by a property of the world. -/
namespace Go.Eng
open Go.RowKit
def Jb (Λ : World → (Nat → Prop) → Prop) : Prop := ∀ w w' F F', Λ w F → Below w.heap.size w w' → (∀ b, F b → F' b) → Λ w' F'
def PureL (P : Program) (Λ : World → (Nat → Prop) → Prop) (f : FuncId) (ds : List D) (r : D) : Prop :=
 ∀ (w : World) (F : Nat → Prop) (args : Array Value), Λ w F → (∀ b, F b → b < w.heap.size) → RelD w F (fun _ => none) args.toList ds [] →
  Calls P f args w fun e w' => ∃ v F' bs, e = .returned v ∧ Below w.heap.size w w' ∧ (∀ b, F b → F' b) ∧ (∀ b, F' b → F b ∨ (w.heap.size ≤ b ∧ b < w'.heap.size)) ∧
   RelD w' F' (fun _ => none) [v] [r] bs ∧ bs.Nodup ∧ ∀ b, b ∈ bs → w.heap.size ≤ b ∧ b < w'.heap.size ∧ ¬ F' b
def FunL (P : Program) (Λ : World → (Nat → Prop) → Prop) (f : FuncId) (ds : List D) (r : D) : Prop := BJ P f ∧ PureL P Λ f ds r
def PureLX {α : Type} (P : Program) (Λ : World → (Nat → Prop) → Prop) (f : FuncId) (ds : List D) (r : α → D) (p : α → Prop) : Prop :=
 ∀ (w : World) (F : Nat → Prop) (args : Array Value), Λ w F → (∀ b, F b → b < w.heap.size) → RelD w F (fun _ => none) args.toList ds [] →
  Calls P f args w fun e w' => ∃ x v F' bs, p x ∧ e = .returned v ∧ Below w.heap.size w w' ∧ (∀ b, F b → F' b) ∧ (∀ b, F' b → F b ∨ (w.heap.size ≤ b ∧ b < w'.heap.size)) ∧
   RelD w' F' (fun _ => none) [v] [r x] bs ∧ bs.Nodup ∧ ∀ b, b ∈ bs → w.heap.size ≤ b ∧ b < w'.heap.size ∧ ¬ F' b
def FunLX {α : Type} (P : Program) (Λ : World → (Nat → Prop) → Prop) (f : FuncId) (ds : List D) (r : α → D) (p : α → Prop) : Prop := BJ P f ∧ PureLX P Λ f ds r p
structure Keeps (Λ : World → (Nat → Prop) → Prop) (c : Ctx) : Prop where
 k : ∀ (w : World) (F : Nat → Prop), (w.os = c.w0.os ∧ w.tape = c.w0.tape ∧ w.output = c.w0.output ∧ c.w0.heap.size ≤ w.heap.size ∧ ∀ b, b < c.w0.heap.size → ¬ c.G b → w.heap[b]? = c.w0.heap[b]?) → (∀ b, c.F0 b → F b) → Λ w F
section
variable {P : Program} {Λ : World → (Nat → Prop) → Prop} {c : Ctx} {s : St} {ops : Array Oper} {rest : List Oper} {o : Oper}
theorem Keeps.at {a : Act} {w : World} {F F' : Nat → Prop} {β : Ag} {fb mb : Nat → List Nat} {ow : Nat → Option (Nat ⊕ Nat)} (h : Keeps Λ c) (hi : Conc c s a w F β fb mb ow) (hF : ∀ b, c.F0 b → F' b) : Λ w F' :=
 h.k w F' ⟨hi.os, hi.tape, hi.output, hi.size, hi.keep⟩ hF
end
section
variable {P : Program} {Λ : World → (Nat → Prop) → Prop}
theorem FunL.intro (hst : Jb Λ) {Γ : Tys} (hΓ : Γ.ok P) {f : FuncId} {fn : Func} {code : Code} (hf : P.funcs[f]? = some fn) (hb : fn.body = some code) (hname : (fn.name == "runtime.NumGoroutine") = false) {N : Nat} {ds rs : List D} (hN : ds.length + (fn.ntmps - ds.length) = N)
  (h : ∀ w0 G F0, Keeps Λ ⟨w0, G, F0, N⟩ → W P ⟨w0, G, F0, N⟩ code ⟨(List.range ds.length).zip ds, []⟩ (Ends Γ fn rs)) : FunL P Λ f ds (Aq rs) := by
 refine ⟨⟨fn, hf, by rw [hb]; rfl, hname⟩, ?_⟩;intro w F args hΛ hF hargs
 have hlen := hargs.length
 simp only [OD] at hlen;refine calls_of_wp hf hb ?_
 have h0 : Is ⟨w, fun _ => False, F, N⟩ ⟨(List.range ds.length).zip ds, []⟩ { tmps := args ++ Array.replicate (fn.ntmps - args.size) undef, defers := [] } w := by
  refine ⟨F, fun _ => none, fun _ => [], fun _ => [], fun _ => none, ?_⟩
  have hlook : ∀ (l : List D) (k t : Nat), look ((List.range' k l.length).zip l) (k + t) = (l[t]?).getD .top := by
   intro l
   induction l with
   | nil => intro k t; simp [look]
   | cons d l ih =>
    intro k t;rw [Nx, List.range'_succ, List.zip_cons_cons];simp only [look]
    cases t with
    | zero => simp
    | succ t =>
     rw [if_neg (by omega), show k + (t + 1) = k + 1 + t from by omega, ih]
     simp
  have hl0 : ∀ t, look ((List.range ds.length).zip ds) t = (ds[t]?).getD .top := fun t => by
   have := hlook ds 0 t
   simpa [List.range_eq_range'] using this
  exact {
   fr := fun t => by
    rw [hl0]
    cases hd : ds[t]? with
    | none => exact .top .done
    | some d =>
     have hlt := (List.getElem?_eq_some_iff.1 hd).1
     obtain ⟨v, h1, h2⟩ := hargs.get0 t hd
     have hlt2 : t < args.size := by rw [hlen]; exact hlt
     have hv : (args ++ Array.replicate (fn.ntmps - args.size) undef).getD t undef = v := by
      rw [Ny, Array.getElem?_append_left hlt2]
      have : args[t]? = some v := by simpa using h1
      rw [this]; rfl
     rw [hv];exact h2
   mem := fun id => rfl
   ofr := by simp
   omem := by simp
   nfr := by simp
   nmem := by simp
   own := by simp
   fin := hF
   f0 := fun _ h => h
   fnew := fun _ h => .inl h
   f0in := fun b h => ⟨hF b h, by simp⟩
   gin := by simp
   os := rfl
   tape := rfl
   output := rfl
   size := OJ _
   keep := fun _ _ _ => rfl
   defers := rfl
   tmps := by simp [hlen, hN] }
 refine Code.wp_mono ?_ (h w (fun _ => False) F ⟨fun w' F' h1 h2 => hst w w' F F' hΛ ⟨h1.1, h1.2.1, h1.2.2.1, h1.2.2.2.1, fun b hb => h1.2.2.2.2 b hb (fun h => h)⟩ h2⟩ _ _ h0)
 rintro e a' w' ⟨s', ⟨F', β, fb, mb, ow, hi⟩, hq⟩
 have key : ∀ ys, EP Γ s' fn.results.toList rs ys → ys.Nodup → D.closed.closedL rs = true → a'.defers = [] ∧ ∃ v, (results fn a'.tmps).run P w' = .ok v w' ∧
   ∃ v' F'' bs, Ending.returned v = .returned v' ∧ Below w.heap.size w w' ∧ (∀ b, F b → F'' b) ∧ (∀ b, F'' b → F b ∨ (w.heap.size ≤ b ∧ b < w'.heap.size)) ∧
   RelD w' F'' (fun _ => none) [v'] [Aq rs] bs ∧ bs.Nodup ∧ ∀ b, b ∈ bs → w.heap.size ≤ b ∧ b < w'.heap.size ∧ ¬ F'' b := by
  intro ys h1 h2 h3
  obtain ⟨vs, bs, q1, q2, q3, q4⟩ := DV hΓ hi h1 h2
  have q5 := q2.closed (β' := fun _ => none) h3
  have hres := CP (P := P) fn a'.tmps q1
  refine ⟨hi.defers, _, hres, _, F', bs, rfl, ⟨hi.os, hi.tape, hi.output, hi.size, fun b hb => hi.keep b hb (by simp)⟩, hi.f0, fun b hb => ?_, ?_, q3, fun b hb => ?_⟩
  ·rcases hi.fnew b hb with h | h | h
   ·exact .inl h
   ·exact .inr ⟨h, hi.fin b hb⟩
   ·exact h.elim
  ·have hl := q5.length
   match vs, rs, hl, q5 with
   | [], [], _, q5 => cases q5; exact RelD.tup (arr := #[]) (l := []) .done .done
   | [v], [d], _, q5 => exact q5
   | v :: v2 :: vs, d :: d2 :: ds', _, q5 => simpa [Aq] using RelD.tup (arr := (v :: v2 :: vs).toArray) q5 .done
  ·obtain ⟨y, h5, _⟩ := q4 b hb
   obtain ⟨h6, h7, h8⟩ := hi.own b (by rw [h5]; simp)
   exact ⟨h8.resolve_right (by simp), h7, h6⟩
 cases e with
 | normal => obtain ⟨ys, h1, h2, h3⟩ := hq; exact key ys h1 h2 h3
 | ret => obtain ⟨ys, h1, h2, h3⟩ := hq; exact key ys h1 h2 h3
 | _ => exact hq.elim
theorem FunL.begin (hst : Jb Λ) {Γ : Tys} (hΓ : Γ.ok P) {f : FuncId} {fn : Func} {code : Code} (hf : P.funcs[f]? = some fn) (hb : fn.body = some code) (hname : (fn.name == "runtime.NumGoroutine") = false) {N : Nat} {ds rs : List D} (fr : List (Nat × D)) (hN : ds.length + (fn.ntmps - ds.length) = N)
  (hfr : (List.range ds.length).zip ds = fr)
  (h : ∀ w0 G F0, Keeps Λ ⟨w0, G, F0, N⟩ → W P ⟨w0, G, F0, N⟩ code ⟨fr, []⟩ (Ends Γ fn rs)) : FunL P Λ f ds (Aq rs) := by
 subst hfr;exact FunL.intro hst hΓ hf hb hname hN h
end
section
variable {P : Program} {Λ : World → (Nat → Prop) → Prop} {c : Ctx} {s : St} {Q : Exit → St → Prop} {ops : Array Oper} {rest : List Oper} {o : Oper}
theorem Gq {t : Nat} {fo : Operand} {args : Array Operand} {tys : Array TypeId} {f : FuncId} {caps es : List D} {r : D} (hg : o.guard = none) (hd : o.dst = some t) (ht : t < c.n)
  (ho : o.op = .call { callee := .value fo, args := args, argTypes := tys }) (hf : opd s.fr fo = .clo f caps) (hes : ResL s (args.toList.map (opd s.fr) ++ caps) es) (hL : Keeps Λ c) (hc : FunL P Λ f es r) (hn : r.noImm = true)
  (k : WO P c ops rest ⟨(t, r) :: s.fr, s.M⟩ Q) : WO P c ops (o :: rest) s Q := by
 rintro a w ⟨F, β, fb, mb, ow, hi⟩
 obtain ⟨bf, hrf, h1⟩ := hi.opd fo
 rw [hf] at hrf
 obtain ⟨arr, bs', hv, hr1, rfl⟩ := BA hrf
 obtain ⟨bs, hr2, h2⟩ := DX hi args.toList
 have hall := hr2.append hr1
 have hsound := hes.sound hi hall fun b hb => by
  rcases N3.1 hb with hb | hb
  ·exact h2 b hb
  ·rcases h1 with rfl | ⟨u, _, rfl⟩
   ·cases hb
   ·exact (hi.own b (by rw [hi.ofr u b hb]; simp)).2.1
 have hrun : (execOp a.eval o).run P w = .ok (.enter f (args.map a.eval ++ arr)) w := by
  simp [execOp, ho, resolve, hv, Deferred.ofValue, invoke, A9 hc.1]
 refine wpList_plain hg fun K hK => ?_
 unfold Oper.wp;rw [hrun, Oper.upon_enter];refine (hc.2 w (fun b => b < w.heap.size) (args.map a.eval ++ arr) (hL.at hi fun b h => hi.fin b (hi.f0 b h)) (fun b h => h) (by simpa using hsound)).mono ?_
 rintro e w' ⟨v, F', bs2, rfl, hb, _, _, hr, hnd, hbs⟩
 dsimp only;rw [hd];refine hK _ _ (k _ _ ⟨F, β, _, mb, _, hi.called ht hb (fun _ h => h) (fun _ h => .inl h) (hr.noImm (by simp [D.noImm.noImmL, hn])) hnd fun b h => ?_⟩)
 obtain ⟨h3, h4, h5⟩ := hbs b h
 exact ⟨h3, h4, fun h6 => by have := hi.fin b h6; omega⟩
/-! ### Whole functions -/
theorem B7 {t : Nat} {fo : Operand} {args : Array Operand} {tys : Array TypeId} {f : FuncId} {caps es : List D} {cs : List (Nat × Nat)} (hL : Keeps Λ c) (h : ∃ r : D, FunL P Λ f es r ∧ r.noImm = true ∧ WO P c ops rest ⟨(t, r) :: s.fr, s.M⟩ Q)
  (hg : o.guard = none := by exact rfl) (hd : o.dst = some t := by exact rfl) (ht : t < c.n := by exact AA rfl) (ho : o.op = .call { callee := .value fo, args := args, argTypes := tys } := by exact rfl) (hf : opd s.fr fo = .clo f caps := by exact rfl)
  (hes : G8 s (args.toList.map (opd s.fr) ++ caps) = some (es, cs) := by exact rfl) (hcs : AllEq cs := by repeat (first | exact AllEq.nil' | refine AllEq.cons' (by first | rfl | (simp; done) | (simp; omega) | omega) ?_)) : WO P c ops (o :: rest) s Q := by
 obtain ⟨r, hc, hn, k⟩ := h
 exact Gq hg hd ht ho hf (CF hes hcs) hL hc hn k
theorem Hn {α : Type} {p : α → Prop} {t : Nat} {fo : Operand} {args : Array Operand} {tys : Array TypeId} {f : FuncId} {caps es : List D} {r : α → D} (hg : o.guard = none) (hd : o.dst = some t) (ht : t < c.n)
  (ho : o.op = .call { callee := .value fo, args := args, argTypes := tys }) (hf : opd s.fr fo = .clo f caps) (hes : ResL s (args.toList.map (opd s.fr) ++ caps) es) (hL : Keeps Λ c) (hc : FunLX P Λ f es r p) (hn : ∀ x, (r x).noImm = true)
  (k : ∀ x, p x → WO P c ops rest ⟨(t, r x) :: s.fr, s.M⟩ Q) : WO P c ops (o :: rest) s Q := by
 rintro a w ⟨F, β, fb, mb, ow, hi⟩
 obtain ⟨bf, hrf, h1⟩ := hi.opd fo
 rw [hf] at hrf
 obtain ⟨arr, bs', hv, hr1, rfl⟩ := BA hrf
 obtain ⟨bs, hr2, h2⟩ := DX hi args.toList
 have hall := hr2.append hr1
 have hsound := hes.sound hi hall fun b hb => by
  rcases N3.1 hb with hb | hb
  ·exact h2 b hb
  ·rcases h1 with rfl | ⟨u, _, rfl⟩
   ·cases hb
   ·exact (hi.own b (by rw [hi.ofr u b hb]; simp)).2.1
 have hrun : (execOp a.eval o).run P w = .ok (.enter f (args.map a.eval ++ arr)) w := by
  simp [execOp, ho, resolve, hv, Deferred.ofValue, invoke, A9 hc.1]
 refine wpList_plain hg fun K hK => ?_
 unfold Oper.wp;rw [hrun, Oper.upon_enter];refine (hc.2 w (fun b => b < w.heap.size) (args.map a.eval ++ arr) (hL.at hi fun b h => hi.fin b (hi.f0 b h)) (fun b h => h) (by simpa using hsound)).mono ?_
 rintro e w' ⟨x, v, F', bs2, hx, rfl, hb, _, _, hr, hnd, hbs⟩
 dsimp only;rw [hd];refine hK _ _ (k x hx _ _ ⟨F, β, _, mb, _, hi.called ht hb (fun _ h => h) (fun _ h => .inl h) (hr.noImm (by simp [D.noImm.noImmL, hn x])) hnd fun b h => ?_⟩)
 obtain ⟨h3, h4, h5⟩ := hbs b h
 exact ⟨h3, h4, fun h6 => by have := hi.fin b h6; omega⟩
end
section
variable {P : Program} {Λ : World → (Nat → Prop) → Prop} {c : Ctx} {s : St} {Q : St → Prop} {ops : Array Oper} {rest : List Oper} {o : Oper}
theorem Mc {t : Nat} {fo : Operand} {args : Array Operand} {tys : Array TypeId} {f : FuncId} {caps es : List D} {r : D} (hg : o.guard = none) (hd : o.dst = some t) (ht : t < c.n)
  (ho : o.op = .call { callee := .value fo, args := args, argTypes := tys }) (hf : opd s.fr fo = .clo f caps) (hes : ResL s (args.toList.map (opd s.fr) ++ caps) es) (hL : Keeps Λ c) (hc : FunL P Λ f es r) (hn : r.noImm = true)
  (k : QL P c ops rest ⟨(t, r) :: s.fr, s.M⟩ Q) : QL P c ops (o :: rest) s Q :=
 ⟨t, _, hd, fun s' ha Q h => by
  have e1 : opd s'.fr fo = opd s.fr fo := ha.opd (by rw [ho]; simp [Op.operands, Call.operands])
  have e2 : args.toList.map (opd s'.fr) = args.toList.map (opd s.fr) := ha.opds fun x hx => by
   rw [ho];simp only [Op.operands, Call.operands, Array.mem_append];exact .inr (by simpa using hx)
  exact Gq hg hd ht ho (by rw [e1]; exact hf) (by rw [e2]; exact hes.mem ha.1) hL hc hn h, k⟩
theorem D5 {t : Nat} {fo : Operand} {args : Array Operand} {tys : Array TypeId} {f : FuncId} {caps es : List D} {cs : List (Nat × Nat)} (hL : Keeps Λ c) (h : ∃ r : D, FunL P Λ f es r ∧ r.noImm = true ∧ QL P c ops rest ⟨(t, r) :: s.fr, s.M⟩ Q)
  (hg : o.guard = none := by exact rfl) (hd : o.dst = some t := by exact rfl) (ht : t < c.n := by exact AA rfl) (ho : o.op = .call { callee := .value fo, args := args, argTypes := tys } := by exact rfl) (hf : opd s.fr fo = .clo f caps := by exact rfl)
  (hes : G8 s (args.toList.map (opd s.fr) ++ caps) = some (es, cs) := by exact rfl) (hcs : AllEq cs := by repeat (first | exact AllEq.nil' | refine AllEq.cons' (by first | rfl | (simp; done) | (simp; omega) | omega) ?_)) : QL P c ops (o :: rest) s Q := by
 obtain ⟨r, hc, hn, k⟩ := h
 exact Mc hg hd ht ho hf (CF hes hcs) hL hc hn k
end
section
variable {P : Program} {Λ : World → (Nat → Prop) → Prop} {c : Ctx} {s : St} {Q : St → List Dl → Prop} {M0 : List (Nat × Blk)} {acc : List Dl} {ops : Array Oper} {rest : List Oper} {o : Oper}
end
end Go.Eng
end
section
/- Laid variables that hold a row of texts: their parts read, and a part of the row handed on. -/
namespace Go.Eng
open Go.RowKit
def Hr (Λ : World → (Nat → Prop) → Prop) (g : Nat) (vs : List Value) : Prop := ∀ w F, Λ w F → F g ∧ ∃ arr e fz, w.heap[g]? = some (.cells arr e fz) ∧ arr.toList = vs
section
variable {P : Program} {Λ : World → (Nat → Prop) → Prop} {c : Ctx} {s : St} {Q : Exit → St → Prop} {ops : Array Oper} {rest : List Oper} {o : Oper} {M0 : List (Nat × Blk)} {acc : List Dl}
theorem LV {Γ : Tys} (hΓ : Γ.ok P) {ty e t g len : Nat} {ix : Operand} {te : TI} {i : Int} (hg : o.guard = none) (hd : o.dst = some t) (ht : t < c.n) (ho : o.op = .indexAddr ty (.global g) ix)
  (h1 : P.underlying ty = some (.array len e)) (h3 : A7 Γ e = some te) (hix : opd s.fr ix = .t (.int i)) (h5 : 0 ≤ i) (h6 : i < len)
  (k : WO P c ops rest ⟨(t, .t (.v (.pointer (some ⟨g, i.toNat * te.size, none⟩)))) :: s.fr, s.M⟩ Q) : WO P c ops (o :: rest) s Q := by
 refine BC hg hd ht _ (fun a w F β fb mb ow hi => ?_) k;refine ⟨.pointer (some ⟨g, 0 + i.toNat * te.size, none⟩), ?_, by rw [Nat.zero_add]; exact .t (.v rfl .nil) .done⟩
 have e2 := A3 hi hix
 have eg : a.eval (.global g) = .pointer (some ⟨g, 0, none⟩) := rfl
 simp only [execOp, ho, e2, eg, Instr.indexAt, Instr.sureAddr, asIntOf, N8, run_underlying h1, N2, OS, Sem.run_ite, Ae (hΓ.get h3), As];rw [if_pos ⟨h5, h6⟩];rfl
theorem Ja (hL : Keeps Λ c) {vs : List Value} {Γ : Tys} (hΓ : Γ.ok P) {ty t g j : Nat} {x : Operand} {ti : TI} {v : Value} (hv : Hr Λ g vs) (hg : o.guard = none) (hd : o.dst = some t) (ht : t < c.n) (ho : o.op = .load ty x)
  (h1 : A7 Γ ty = some ti) (h2 : ti.kind.isAgg = false) (hx : opd s.fr x = .t (.v (.pointer (some ⟨g, j, none⟩)))) (hj : vs[j]? = some v) (hone : v.oneCell' = true)
  (k : WO P c ops rest ⟨(t, .t (.v v)) :: s.fr, s.M⟩ Q) : WO P c ops (o :: rest) s Q := by
 refine BC hg hd ht _ (fun a w F β fb mb ow hi => ?_) k
 obtain ⟨_, arr, e, fz, q1, q2⟩ := hv _ _ (hL.at hi hi.f0)
 have q3 : arr[j]? = some v := by rw [← q2] at hj; simpa using hj
 obtain ⟨u, r1, r2⟩ := Fk (hΓ.get h1) (o := j) (off := 0) (cs := [v]) (cells := [.v v]) (d := .t (.v v)) (β := β) q1 (fun k hk => by
  have : k = 0 := by simpa using hk
  subst this
  simpa using q3) (RelL.v (F := F) hone .nil) (by simp [Lx, h2])
 refine ⟨u, ?_, r2⟩;simp only [execOp, ho, A3 hi hx, N8]
 have r3 := r1
 rw [Nat.add_zero] at r3;rw [r3];rfl
theorem LU (hL : Keeps Λ c) {vs : List Value} {xs : List T} {Γ : Tys} (hΓ : Γ.ok P) {ty e t g len m : Nat} {lo : Operand} {te : TI} {i : Int} (hv : Hr Λ g vs) (hg : o.guard = none) (hd : o.dst = some t) (ht : t < c.n) (ho : o.op = .slice ty (.global g) (some lo) none none)
  (h1 : P.underlying ty = some (.array len e)) (h3 : A7 Γ e = some te) (h4 : te.size = 1) (hix : opd s.fr lo = .t (.int i)) (h5 : 0 ≤ i) (h6 : i < len) (hlen : vs.length = len) (hm : m = len - i.toNat)
  (hvs : ∀ (w : World) (F : Nat → Prop), RelL w F (vs.drop i.toNat) xs) (hone : ∀ x, x ∈ xs → (T.cells x) = [x])
  (k : WO P c ops rest ⟨(t, .t (.list 1 xs)) :: s.fr, s.M⟩ Q) : WO P c ops (o :: rest) s Q := by
 refine BC hg hd ht _ (fun a w F β fb mb ow hi => ?_) k
 obtain ⟨hF, arr, e', fz, q1, q2⟩ := hv _ _ (hL.at hi hi.f0)
 have hx : (vs.drop i.toNat).length = xs.length := by
  have h7 : ∀ {vs : List Value} {ts : List T}, RelL w F vs ts → vs.length = ts.length := fun h => by
   induction h with
   | nil => rfl
   | v _ _ ih => simp [ih]
   | none _ ih => simp [ih]
   | list _ _ _ _ _ _ _ _ ih => simp [ih]
   | sub _ _ _ ih => simp [ih]
  exact h7 (hvs w F)
 rw [OT, hlen] at hx
 have hfl : xs.flatMap T.cells = xs := by
  clear hx hvs k
  induction xs with
  | nil => rfl
  | cons x l ih => rw [OM, hone x (OG ..), ih fun y hy => hone y (OE _ hy)]; rfl
 refine ⟨.slice (some ⟨g, 0 + i.toNat * te.size, none⟩) xs.length (len - i.toNat), ?_, .t (.list (cs := vs.drop i.toNat) (arr := arr) (e := e') (fz := fz) hF q1 (fun k hk => ?_) (fun x hx => by rw [hone x hx]; rfl) (by omega) (by rw [hfl]; exact hvs w F) .nil) .done⟩
 ·have hb := fun code => Bv (P := P) (CR (d := 0) hi (x := lo) (k := i) (by simp [Ht, hix])) h5 (show i ≤ ((len : Nat) : Int) by omega) code w
  have eg : a.eval (.global g) = .pointer (some ⟨g, 0, none⟩) := rfl
  simp only [execOp, ho, eg, Option.map, Instr.sliceAt, Instr.sureAddr, Instr.sliceBounds, N8, run_underlying h1, N2, OS, hb, Ae (hΓ.get h3), As]
  have : ¬ (len = i.toNat) := by omega
  simp [this, hx]
 ·rw [h4, Nat.zero_add, Nat.mul_one]
  rw [← q2]
  simp
end
section
variable {P : Program} {Λ : World → (Nat → Prop) → Prop} {c : Ctx} {s : St} {ops : Array Oper} {rest : List Oper} {o : Oper} {M0 : List (Nat × Blk)} {acc : List Dl}
theorem Np {Q : St → Prop} {Γ : Tys} (hΓ : Γ.ok P) {ty e t g len : Nat} {ix : Operand} {te : TI} {i : Int} (hg : o.guard = none) (hd : o.dst = some t) (ht : t < c.n) (ho : o.op = .indexAddr ty (.global g) ix)
  (h1 : P.underlying ty = some (.array len e)) (h3 : A7 Γ e = some te) (hix : opd s.fr ix = .t (.int i)) (h5 : 0 ≤ i) (h6 : i < len)
  (k : QL P c ops rest ⟨(t, .t (.v (.pointer (some ⟨g, i.toNat * te.size, none⟩)))) :: s.fr, s.M⟩ Q) : QL P c ops (o :: rest) s Q :=
 ⟨t, _, hd, fun s' ha Q h => LV hΓ hg hd ht ho h1 h3 (by rw [ha.opd (by rw [ho]; simp [Op.operands])]; exact hix) h5 h6 h, k⟩
theorem Mb {Q : St → Prop} (hL : Keeps Λ c) {vs : List Value} {Γ : Tys} (hΓ : Γ.ok P) {ty t g j : Nat} {x : Operand} {ti : TI} {v : Value} (hv : Hr Λ g vs) (hg : o.guard = none) (hd : o.dst = some t) (ht : t < c.n) (ho : o.op = .load ty x)
  (h1 : A7 Γ ty = some ti) (h2 : ti.kind.isAgg = false) (hx : opd s.fr x = .t (.v (.pointer (some ⟨g, j, none⟩)))) (hj : vs[j]? = some v) (hone : v.oneCell' = true)
  (k : QL P c ops rest ⟨(t, .t (.v v)) :: s.fr, s.M⟩ Q) : QL P c ops (o :: rest) s Q :=
 ⟨t, _, hd, fun s' ha Q h => Ja hL hΓ hv hg hd ht ho h1 h2 (by rw [ha.opd (by rw [ho]; simp [Op.operands])]; exact hx) hj hone h, k⟩
end
end Go.Eng
end
section
/- Guards in regions of open order that make memory or write; library functions, known by what they answer; an error asked whether it is nil. -/
namespace Go.Eng
open Go.RowKit
section
variable {P : Program} {c : Ctx} {s : St} {ops : Array Oper} {rest : List Oper} {o : Oper} {M0 : List (Nat × Blk)} {acc : List Dl} {Q : St → List Dl → Prop}
theorem AgreeG.guard {s' : St} {fr : List (Nat × D)} (h : AgreeG ops o fr M0 s') : AgreeG ops { o with guard := none } fr M0 s' :=
 ⟨h.1, fun u hu => h.2 u (by unfold Oper.looksAt at hu ⊢; simp only [OI] at hu; exact Oc _ hu)⟩
theorem AgreeG.at_guard {s' : St} {fr : List (Nat × D)} (h : AgreeG ops o fr M0 s') {j d : Nat} {want : Bool} (hg : o.guard = some (j, want)) (hj : (ops[j]?).bind (·.dst) = some d) : look s'.fr d = look fr d :=
 h.2 d (by unfold Oper.looksAt; refine List.mem_append_right _ ?_; rw [hg]; simp [hj])
theorem Dm {j d t : Nat} {want : Bool} (hg : o.guard = some (j, want)) (hj : (ops[j]?).bind (·.dst) = some d) (hl : look s.fr d = .t (.bool want)) (hd : o.dst = some t) (ht : t < c.n)
  (k : QG P c ops M0 ({ o with guard := none } :: rest) s acc Q) : QG P c ops M0 (o :: rest) s acc Q := by
 obtain ⟨x, h1, h2, h3⟩ := k
 exact ⟨x, h1, fun s' ha hc Q h => FR hg hj (by rw [ha.at_guard hg hj]; exact hl) hd ht (h2 s' ha.guard hc Q h), h3⟩
theorem Dn {j d t : Nat} {want b : Bool} (hg : o.guard = some (j, want)) (hj : (ops[j]?).bind (·.dst) = some d) (hl : look s.fr d = .t (.bool b)) (hb : b = !want) (hd : o.dst = some t) (ht : t < c.n)
  (k : QG P c ops M0 rest ⟨(t, .tup []) :: s.fr, s.M⟩ (acc ++ [pl t (.tup [])]) Q) : QG P c ops M0 (o :: rest) s acc Q :=
 ⟨pl t _, hd, fun s' ha _ Q h => FS hg hj (by rw [ha.at_guard hg hj]; exact hl) hb hd ht h, k⟩
theorem Ec {l : List Oper} {t : Nat} {b v : Bool} {fr : List (Nat × D)} {M : List (Nat × Blk)} (h : b = v) (k : QG P c ops M0 l ⟨(t, .t (.bool v)) :: fr, M⟩ (acc ++ [pl t (.t (.bool v))]) Q) : QG P c ops M0 l ⟨(t, .t (.bool b)) :: fr, M⟩ (acc ++ [pl t (.t (.bool b))]) Q := by
 subst h; exact k
end
section
variable {P : Program} {Λ : World → (Nat → Prop) → Prop}
theorem BQ {w : World} {F : Nat → Prop} : ∀ {vs ws : List Value}, RelD w F (fun _ => none) ws (vs.map fun v => D.t (.v v)) [] → ws = vs
 | [], ws, h => by cases h; rfl
 | v :: vs, ws, h => by
  cases ws with
  | nil => cases h
  | cons a ws =>
   obtain ⟨b1, b2, h1, h2, h3⟩ := RelD.cons h
   obtain ⟨rfl, rfl⟩ := List.append_eq_nil_iff.1 h3.symm
   rw [Am h1, BQ h2]
theorem FunL.plain {f : FuncId} {vs : List Value} {u : Value} {r : D} (hc : BJ P f) (h : ∀ w F, Λ w F → Calls P f vs.toArray w fun e w' => e = .returned u ∧ Below w.heap.size w w') (hr : ∀ (w : World) (F : Nat → Prop), RelD w F (fun _ => none) [u] [r] []) :
  FunL P Λ f (vs.map fun v => .t (.v v)) r := by
 refine ⟨hc, fun w F args hΛ hF hargs => ?_⟩
 have he := BQ hargs
 have ha : args = vs.toArray := by rw [← he]
 subst ha;refine (h w F hΛ).mono ?_
 rintro e w' ⟨rfl, hb⟩
 exact ⟨u, F, [], rfl, hb, fun _ h => h, fun _ h => .inl h, hr _ _, by simp, by simp⟩
theorem FunLX.plain {α : Type} {p : α → Prop} {f : FuncId} {vs : List Value} {u : α → Value} {r : α → D} (hc : BJ P f) (h : ∀ w F, Λ w F → Calls P f vs.toArray w fun e w' => ∃ x, p x ∧ e = .returned (u x) ∧ Below w.heap.size w w') (hr : ∀ (x : α) (w : World) (F : Nat → Prop), p x → RelD w F (fun _ => none) [u x] [r x] []) :
  FunLX P Λ f (vs.map fun v => .t (.v v)) r p := by
 refine ⟨hc, fun w F args hΛ hF hargs => ?_⟩
 have he := BQ hargs
 have ha : args = vs.toArray := by rw [← he]
 subst ha;refine (h w F hΛ).mono ?_
 rintro e w' ⟨x, hx, rfl, hb⟩
 exact ⟨x, u x, F, [], hx, rfl, hb, fun _ h => h, fun _ h => .inl h, hr _ _ _ hx, by simp, by simp⟩
end
section
variable {P : Program} {c : Ctx} {s : St} {ops : Array Oper} {rest : List Oper} {o : Oper} {Q : Exit → St → Prop}
theorem Hm {t ty ty' : Nat} {x : Operand} {ev : Value} {b : Bool} (hg : o.guard = none) (hd : o.dst = some t) (ht : t < c.n) (ho : o.op = .binOp .neq ty x (.const .nilIface) ty') (hi : P.isIface ty = true) (hx : opd s.fr x = .t (.v ev))
  (hv : (ev = .nilIface ∧ b = false) ∨ (∃ u q, ev = .iface u q) ∧ b = true)
  (k : WO P c ops rest ⟨(t, .t (.bool b)) :: s.fr, s.M⟩ Q) : WO P c ops (o :: rest) s Q := by
 refine BC hg hd ht _ (fun a w F β fb mb ow hc => ⟨.bool b, ?_, .t (.v rfl .nil) .done⟩) k
 have e1 := A3 hc hx
 have e2 : a.eval (.const .nilIface) = .nilIface := rfl
 simp only [execOp, ho, e1, e2]
 rcases hv with ⟨rfl, rfl⟩ | ⟨⟨u, q, rfl⟩, rfl⟩
 ·simp [eqGuard, run_neq_nil_nil_at (t := ty) (h := hi)]
 ·simp [eqGuard, run_neq_iface_nil (t := ty) (h := hi)]
end
end Go.Eng
end
section
/- Rows over laid variables: from a law's walk to its row. -/
namespace Go.Eng
open Go.ChangeShapes Go.WideShapes Go.ChangeAt Go.RowKit
theorem C4 {H : Type} {enc : TypeId × Value → H} {a : Assume} {C : Checked} {os : Os} {f : FuncId} {fn : Func} {s : ChangeSpec} {conds : List PathCond} {apart fresh handsOn again : Bool} {X : World → Array Value → Prop}
  (hX : ∀ (w w' : World) (args : Array Value), w.heap = w'.heap → X w args → X w' args)
  (own : ownKnob C.prog.godebug = none) (started : os.Started) (noInit : C.prog.inits.idxOf? f = none) (hfn : C.prog.funcs[f]? = some fn)
  (witness : ∃ (w : World) (tape : Tape) (i : Input), w.os = os ∧ (w.forCall tape i).Shaped C.prog ∧ i.vars = [] ∧ Input.okWide C.prog (w.forCall tape i) .any w.heap.size f i ∧
   ((s.pre enc C.prog fn conds apart (w.forCall tape i).memory i.args ∧ X (w.forCall tape i).memory i.args) ∧ sizedMet enc C.prog fn (OpenSpec.ofChange s) apart (w.forCall tape i).memory i.args) ∧ a.holds C.prog (lone (Frame.enter C.prog f i.args .normal) [] (w.forCall tape i)))
  (contract : ∀ (W : World) (base : Nat) (args : Array Value) (ds gs : List (DataW H)) (before : List MemPlace),
   (∀ (j : Nat) t v, fn.params[j]? = some t → args[j]? = some v → Value.okWide C.prog W .any base t v) →
   DataW.Whole enc C.prog fn.params.toList s.vars apart W args.toList ds gs before → W.ShapedOpen C.prog → X W args →
   Calls C.prog f args W fun e W' => ∃ v, e = .returned v ∧ s.post enc C.prog fn apart fresh handsOn again W args v W') :
  ReturnsInHanded a C os f .any (fun w args => (s.pre enc C.prog fn conds apart w args ∧ X w args) ∧ sizedMet enc C.prog fn (OpenSpec.ofChange s) apart w args) (s.post enc C.prog fn apart fresh handsOn again) := by
 refine returnsInHanded_of_calls own started noInit witness ?_;intro w tape i _ hsh _ hok hpre hholds
 obtain ⟨_, _, _, fn', hfn', _, _, _, _, hval⟩ := hok
 have e : fn' = fn := Option.some.inj (hfn'.symm.trans hfn)
 subst e
 obtain ⟨⟨⟨ds, gs, before, hw, hc⟩, hx⟩, hz⟩ := hpre
 have hw' := DataW.Whole.of_heap (w' := w.forCall tape i) (by rfl) hw
 refine (contract (w.forCall tape i) w.heap.size i.args ds gs before hval hw' hsh (hX _ _ _ (by rfl) hx)).mono fun e W' ⟨v, he, hp⟩ => ?_
 subst he;exact ChangeSpec.post_blind hp
theorem EA {H : Type} {enc : TypeId × Value → H} {P : Program} {w : World} {sp : Nat → Bool} : ∀ {ns : List String} {gs : List (DataW H)} {ps : List MemPlace}, DataW.TrodVars enc P w sp ns gs ps → gs.length = ns.length
 | [], [], _, _ => rfl
 | [], _ :: _, _, h => h.elim
 | _ :: _, [], _, h => h.elim
 | n :: ns, g :: gs, ps, h => by
  obtain ⟨_, _, _, _, _, _, _, _, _, _, h5, _⟩ := h
  simp [EA h5]
theorem Ju {Λ : World → (Nat → Prop) → Prop} {H : Type} {enc : TypeId × Value → H} {P : Program} {f : FuncId} {fn : Func} {s : ChangeSpec} (hl : laidOutB P = true) {S : List TypeId} (hS : Er P S = true)
  (hts : fn.params.toList.all (fun t => S.contains t && P.readableRec t && decide (t < P.types.size)) = true) (hv : varsRowed P s.vars = true) {tb : TypeId} (hr : fn.resultTypes = #[tb]) (hb : P.underlying tb = some .bool)
  (hs : ∀ ds gs : List (DataW H), ds.length = fn.params.toList.length → gs.length = s.vars.length → s.fn H (ds ++ gs) = { results := [.lit (.bool true)], args := ds, vars := gs })
  (hf : ∀ xs : List T, RdL P fn.params.toList xs → FunL P Λ f (xs.map .t) (.t (.bool true)))
  {W : World} {base : Nat} {args : Array Value} {ds gs : List (DataW H)} {before : List MemPlace} (hval : ∀ (j : Nat) t v, fn.params[j]? = some t → args[j]? = some v → Value.okWide P W .any base t v)
  (hW : DataW.Whole enc P fn.params.toList s.vars false W args.toList ds gs before) (hΛ : Λ W (fun b => b < W.heap.size)) :
  Calls P f args W fun e W' => ∃ v, e = .returned v ∧ s.post enc P fn false true false false W args v W' := by
 have hW' := hW
 obtain ⟨p, q, hA, hV, rfl, hfz, hnd⟩ := hW
 rw [N1] at hts
 have hts' : ∀ t, t ∈ fn.params.toList → t ∈ S ∧ P.readableRec t = true ∧ t < P.types.size := fun t ht => by
  have := hts t ht
  simp only [Nv, decide_eq_true_eq, List.contains_iff_mem] at this;exact ⟨this.1.1, this.1.2, this.2⟩
 obtain ⟨xs, hx, hrel⟩ := FT hS hA (fun j t v ht hv' => HK hS (hts' t (List.mem_of_getElem? ht)).1 (hval j t v (by simpa using ht) (by simpa using hv'))) (fun t ht => (hts' t ht).1)
 obtain ⟨hc, hp⟩ := hf xs hx
 refine (hp W _ args hΛ (fun b h => h) hrel).mono fun e W' ⟨v, F', bs, he, hbe, hF, hF2, hv', hnd', hbs⟩ => ?_
 have e1 := Am hv'
 subst e1
 have e2 := hs ds gs (Ef hA) (EA hV)
 refine ⟨_, he, ds, gs, p ++ q, [], p, q, hW', ?_, ?_, ?_, hbe.frame _, fun h => by cases h⟩
 ·rw [e2, hr]
  exact trodAll_mk1 (shut_bool hb true)
 ·rw [e2]
  exact Dk hl hbe hA (fun t ht => (hts' t ht).2) (fun x hx => hW'.lt x (Oc _ hx))
 ·rw [e2]
  exact Below.trodVars hl hbe hv hV
def Ii {H : Type} (ls : List (List UInt8)) : DataW H := .agg (ls.map fun l => .lit (.string l))
theorem Gh {H : Type} {enc : TypeId × Value → H} {P : Program} {w : World} {base : Nat} {sp : Nat → Bool} {held : Bool} {fuel : Nat} {t e : TypeId} {n : Nat} {cs : List Value} {ls : List (List UInt8)} {p : List MemPlace}
  (ht : P.underlying t = some (.array n e)) (he : P.underlying e = some .string) (hce : P.cellsOf e = 1) (hct : P.cellsOf t = n)
  (h : DataW.trod enc P w base sp held fuel t cs = some (Ii ls, p)) : cs = ls.map fun l => Value.string ⟨⟨l⟩⟩ := by
 cases fuel with
 | zero => simp [DataW.trod] at h
 | succ fuel =>
  simp only [DataW.trod, ht, hce, hct, Nat.mul_one] at h;split at h
  ·rename_i hl
   obtain ⟨xs, hm, hx⟩ := Option.map_eq_some_iff.1 h
   have hxs : xs.map (·.1) = ls.map fun l => (DataW.lit (.string l) : DataW H) := by
    have := congrArg Prod.fst hx
    simpa [Ii] using this
   have hxl : xs.length = n := by simpa using Lib.mapM_length hm
   have hzl : ls.length = n := by
    have := congrArg List.length hxs
    simp at this
    omega
   apply List.ext_getElem?
   intro i
   by_cases hi : i < n
   ·obtain ⟨b, hb, hf⟩ := Lib.mapM_at hm i i (by simp [hi])
    obtain ⟨z, hc, rfl, _⟩ := DataW.trod_string he hf
    have h1 : cs[i]? = some (.string z) := by
     have := congrArg (·[0]?) hc
     simpa [List.getElem?_take, List.getElem?_drop] using this
    have h2 : (xs.map (·.1))[i]? = some (DataW.lit (.string z.data.toList) : DataW H) := by simp [hb]
    rw [hxs] at h2;simp only [List.getElem?_map, Option.map_eq_some_iff, DataW.lit.injEq, Lit.string.injEq] at h2
    obtain ⟨z', hz', e2⟩ := h2
    subst e2
    simp [h1, hz']
   ·rw [List.getElem?_eq_none (by omega), List.getElem?_eq_none (by simp; omega)]
  ·cases h
end Go.Eng
end
section
/- A text appended to a row of bytes of the call's own: whose the new row is. -/
namespace Go.Eng
open Go.RowKit Go.Lib
section
variable {P : Program} {w : World}
theorem Hl (t u ty e : TypeId) (i : TypeInfo) (ht : P.underlying t = some (.slice e)) (hu : P.underlying u = some .string) (hi : P.info? e = some i) (hz : i.zero = some (.int .u8 0))
  (hsize : i.size = 1) (hby : i.bytes = 1)
  (v : Value) (n : Nat) (xs : List Value) (hown : w.ownsRow 0 e 1 v n xs) (s : ByteArray)
  (h63 : n + s.size ≤ maxLen) (hbytes : n + s.size ≤ 140737488355328) :
  ∃ v' w', (Builtin.append_ #[t, u] ty #[v, .string s]).run P w = .ok v' w' ∧ w'.ownsRow 0 e 1 v' (n + s.size) (xs ++ strCells s) ∧ w.grownBy w' v.ownBlock ∧
   ∀ g', v'.ownBlock = some g' → v.ownBlock = some g' ∨ w.heap.size ≤ g' := by
 rcases hown.2 with ⟨rfl, rfl⟩ | ⟨g, cap, cur, rfl, hbg, hg, hnc, hcm, hcs, htake⟩
 ·obtain ⟨v', w', h1, h2, h3, h4⟩ := run_append_own_string (P := P) w w.heap.size t u ty e i ht hu hi hz hsize hby (.slice none 0 0) 0 xs ⟨hown.1, .inl ⟨rfl, rfl⟩⟩ s h63 hbytes (OJ _)
  refine ⟨v', w', h1, ⟨h2.1, ?_⟩, h3, fun g' hg' => .inr ?_⟩
  ·rcases h2.2 with h5 | ⟨g, cap, cur, q1, q2, q3⟩
   ·exact .inl h5
   ·exact .inr ⟨g, cap, cur, q1, OU _, q3⟩
  ·rcases h2.2 with ⟨h5, _⟩ | ⟨g, cap, cur, q1, q2, q3⟩
   ·subst h5; cases hg'
   ·subst q1
    have : g = g' := Option.some.inj hg'
    omega
 ·have hsmall : n + s.size ≤ 9223372036854775807 := by simp only [maxLen] at h63; omega
  have hxl : xs.length = n := by simpa using hown.1
  have hlen : (xs ++ strCells s).length = (n + s.size) * 1 := by rw [Nu, hxl, strCells_length, Nat.mul_one]
  by_cases hroom : n + s.size ≤ cap
  ·have hcs' : cur.size = cap := by simpa using hcs
   have hr := run_append_room_stringF (P := P) w t u ty e i ht hu hi hsize g n cap cur (0, 0) hg (OU _) s hroom (by omega)
   refine ⟨_, _, hr, ⟨hlen, .inr ⟨g, cap, _, rfl, OU _, setRow_heap w g cur _ e _ hg, hroom, hcm, ?_, ?_⟩⟩, ⟨rfl, rfl, rfl, by simp, fun k _ hk => setRow_other w g k _ (fun e => hk (by simp [Value.ownBlock, e]))⟩, fun g' hg' => .inl hg'⟩
   ·simp only [List.size_toArray, Nu, OO, OT, OD, strCells_length]
    omega
   ·have ht' : cur.toList.take n = xs := by simpa using htake
    rw [ht', ← hlen];exact List.take_left
  ·have hownF := World.ownsRowF_of hown
   have holds : ∀ j u, xs[j]? = some u → w.cell? ((⟨g, 0, none⟩ : Addr).add j) = some u := hownF.cells (g := g) rfl
   have hr := run_append_grow_string (P := P) w t u ty e i (.int .u8 0) ht hu hi hz ⟨g, 0, none⟩ n cap xs (by rw [hsize]; simpa using hxl) holds s (by omega) (by omega) (by rw [hby]; exact growslice_fits (by omega) (by omega))
   have hge := grownCap_ge w (n + s.size) cap e
   have hcm2 : grownCap w (n + s.size) cap e ≤ maxLen := grownCap_le_maxLen w (n + s.size) cap e h63
   refine ⟨_, _, hr, ⟨hlen, .inr ⟨w.heap.size, _, _, rfl, OU _, heap_alloc_new w.drew _, hge, hcm2, ?_, ?_⟩⟩, ⟨rfl, rfl, rfl, by simp, fun k hk _ => heap_alloc_old w.drew _ hk⟩, fun g' hg' => .inr ?_⟩
   ·have hz1 : (Value.int IntKind.u8 0).cells.size = 1 := rfl
    simp only [Array.size_append, List.size_toArray, size_zeroCells, hz1, hxl, strCells_length];omega
   ·simp only [Array.toList_append, OA]
    rw [← OA, ← hlen];exact List.take_left
   ·have : w.heap.size = g' := Option.some.inj hg'
    omega
theorem wpList_append_exact {ops : Array Oper} {rest : List Oper} {o : Oper} {a : Act} {Q : Exit → Act → World → Prop} (hgd : o.guard = none) (sl x : Operand) (t u : TypeId)
  (ho : o.op = .call { callee := .builtin .append, args := #[sl, x], argTypes := #[t, u] })
  (e : TypeId) (i : TypeInfo) (ht : P.underlying t = some (.slice e)) (hu : P.underlying u = some .string) (hi : P.info? e = some i) (hz : i.zero = some (.int .u8 0))
  (hsize : i.size = 1) (hby : i.bytes = 1)
  (v : Value) (n : Nat) (xs : List Value) (hs : a.eval sl = v) (hown : w.ownsRow 0 e 1 v n xs) (s : ByteArray) (hx : a.eval x = .string s)
  (h63 : n + s.size ≤ maxLen) (hbytes : n + s.size ≤ 140737488355328)
  (h : ∀ v' w', w'.ownsRow 0 e 1 v' (n + s.size) (xs ++ strCells s) → w.grownBy w' v.ownBlock → (∀ g', v'.ownBlock = some g' → v.ownBlock = some g' ∨ w.heap.size ≤ g') → wpList P ops Q rest (a.put o.dst v') w') : wpList P ops Q (o :: rest) a w := by
 refine wpList_plain hgd fun K hK => ?_
 obtain ⟨v', w', hr, h2, h3, h4⟩ := Hl (P := P) (w := w) t u o.type e i ht hu hi hz hsize hby v n xs hown s h63 hbytes
 unfold Oper.wp execOp;simp only [ho, resolve, invoke, builtin, N8, OS, N2, List.map_toArray, OV, List.map_nil, hs, hx, hr];exact hK _ _ (h v' w' h2 h3 h4)
end
end Go.Eng
end
section
/- A builder of texts of the call's own: its writers, exactly. -/
namespace Go.Proofs
open Go.Shelf Go.RowKit Go.Lib
variable {P : Program} {ρ : Ren}
def BldAt (T e b : Nat) (p v : Value) (l : List UInt8) (w : World) : Prop :=
 w.heap[b]? = some (.cells #[p, v] T (0, 0)) ∧ (p = .pointer none ∨ p = .pointer (some ⟨b, 0, none⟩)) ∧ w.ownsRow 0 e 1 v l.length (byteCells l) ∧ v.ownBlock ≠ some b
structure BldKept (b : Nat) (v v' : Value) (w w' : World) : Prop where
 os : w'.os = w.os
 tape : w'.tape = w.tape
 output : w'.output = w.output
 size : w.heap.size ≤ w'.heap.size
 block : ∀ k, k < w.heap.size → k ≠ b → v.ownBlock ≠ some k → w'.heap[k]? = w.heap[k]?
 row : ∀ g, v'.ownBlock = some g → v.ownBlock = some g ∨ (w.heap.size ≤ g ∧ g < w'.heap.size)
set_option maxHeartbeats 2000000
set_option maxRecDepth 100000
end Go.Proofs
end
section
/- A builder of texts of the call's own, lent to its writers. -/
namespace Go.Eng
open Go.RowKit Go.Lib Go.Shelf Go.Proofs
section
variable {P : Program} {ρ : Ren}
theorem JT {w : World} {F : Nat → Prop} {β : Ag} {id T e b : Nat} {l : List UInt8} {bs : List Nat} (h : RelB w F β id (.bld T e b l) bs) (hnd : bs.Nodup) : ∃ p v, BldAt T e b p v l w ∧ bs = b :: v.ownBlock.toList := by
 obtain ⟨p, v, row, h1, h2, h3, rfl⟩ := h
 rcases h3 with ⟨rfl, rfl, rfl⟩ | ⟨g, cap, cur, rfl, q2, q3, q4, q5, q6, rfl⟩
 ·exact ⟨p, _, ⟨h1, h2, ⟨rfl, .inl ⟨rfl, rfl⟩⟩, by simp [Value.ownBlock]⟩, rfl⟩
 ·refine ⟨p, _, ⟨h1, h2, ⟨by simp [byteCells], .inr ⟨g, cap, cur, rfl, OU _, q2, q3, q4, by omega, ?_⟩⟩, ?_⟩, rfl⟩
  ·rw [Nat.mul_one, q6]; rfl
  ·intro e
   have : g = b := Option.some.inj e
   subst this
   simp at hnd
theorem Mr {w : World} {F : Nat → Prop} {β : Ag} {id T e b : Nat} {p v : Value} {l : List UInt8} (h : BldAt T e b p v l w) : RelB w F β id (.bld T e b l) (b :: v.ownBlock.toList) := by
 obtain ⟨h1, h2, h3, h4⟩ := h
 refine ⟨p, v, _, h1, h2, ?_, rfl⟩
 rcases h3.2 with ⟨rfl, h5⟩ | ⟨g, cap, cur, rfl, _, q2, q3, q4, q5, q6⟩
 ·exact .inl ⟨rfl, List.length_eq_zero_iff.1 h5, rfl⟩
 ·refine .inr ⟨g, cap, cur, rfl, q2, q3, q4, by omega, ?_, rfl⟩
  rw [Nat.mul_one] at q6;rw [q6]; rfl
end
section
variable {P : Program} {c : Ctx} {s : St} {Q : Exit → St → Prop} {ops : Array Oper} {rest : List Oper} {o : Oper}
theorem Ho {Γ : Tys} (hΓ : Γ.ok P) {t T : Nat} (e : Nat) {ti : TI} (hg : o.guard = none) (hd : o.dst = some t) (ht : t < c.n) (ho : o.op = .alloc T) (h1 : A7 Γ T = some ti) (h2 : ti.zero = [.pointer none, .slice none 0 0])
  (k : ∀ b, WO P c ops rest ⟨(t, .t (.v (.pointer (some ⟨b, 0, none⟩)))) :: killF t s.fr, (t, .bld T e b []) :: killM t s.M⟩ Q) : WO P c ops (o :: rest) s Q := by
 rintro a w ⟨F, β, fb, mb, ow, hi⟩
 obtain ⟨⟨i, z, q1, q2, q3, q4, q5⟩, _⟩ := hΓ.get h1
 refine wpList_plain hg fun K hK => ?_
 unfold Oper.wp
 have hrun : (execOp a.eval o).run P w = .ok (.value (.pointer (some ⟨w.heap.size, 0, none⟩))) (w.alloc (.cells z.cells T)) := by
  simp [execOp, ho, Instr.alloc, zeroValue, typeInfo, q1, q4, DB]
 rw [hrun, Oper.upon_value, hd];refine hK _ _ (k w.heap.size _ _ ?_)
 have hz : z.cells = #[.pointer none, .slice none 0 0] := by
  rw [← Array.toArray_toList (xs := z.cells), q5, h2]
 rw [hz]
 have hβ : ∀ id, id ≠ t → (fun id => if id = t then none else β id) id = β id := fun id h => by simp [h]
 have hold : ∀ b, b < w.heap.size → (w.alloc (.cells #[.pointer none, .slice none 0 0] T)).heap[b]? = w.heap[b]? := fun b hb => Below.heap_alloc w _ b hb
 have key : Is c ⟨(t, .t (.v (.pointer (some ⟨w.heap.size, 0, none⟩)))) :: eat (.const .nilIface) .nil (killF t s.fr), (t, .bld T e w.heap.size []) :: killM t s.M⟩ (a.put (some t) (.pointer (some ⟨w.heap.size, 0, none⟩))) (w.alloc (.cells #[.pointer none, .slice none 0 0] T)) := by
  refine hi.renew t (Anew.kill hβ) (Mp (.const .nilIface) .nil) [w.heap.size] (.bld T e w.heap.size []) (some (t, .pointer (some ⟨w.heap.size, 0, none⟩), .t (.v (.pointer (some ⟨w.heap.size, 0, none⟩))))) rfl ?_ rfl rfl rfl (by simp)
   (fun b hb _ => hold b hb) ?_ (by simp [lookM]) ?_ ?_ ?_ ?_
  ·rintro t' v d h
   cases h;exact ⟨ht, .t (.v rfl .nil) .done, by simp [look]⟩
  ·intro u hu
   have hut := hu _ _ _ rfl
   simp only [look, if_neg (Ne.symm hut)]
   rcases look_eat (.const .nilIface) .nil (killF t s.fr) u with ⟨h1, h2⟩ | h1
   ·exact .inl ⟨by rw [h1, BS], h2⟩
   ·exact .inr h1
  ·exact ⟨_, _, [], heap_alloc_new w _, .inl rfl, .inl ⟨rfl, rfl, rfl⟩, rfl⟩
  ·simp
  ·intro b hb
   rw [Oe.1 hb];exact .inl ⟨OJ _, by simp⟩
  ·intro id hid
   simp only [lookM, if_neg (Ne.symm hid)];rw [BR];exact .inr ⟨(by rintro ⟨_, u, _, h⟩; cases h), rfl⟩
 simpa [eat, D.free] using key
end
end Go.Eng
end
section
/- Bytes as a text, in a region of open order. -/
namespace Go.Eng
open Go.RowKit
section
variable {P : Program} {c : Ctx} {s : St} {ops : Array Oper} {rest : List Oper} {o : Oper} {M0 : List (Nat × Blk)} {acc : List Dl}
theorem Hq {Q : St → List Dl → Prop} {src dst e t : Nat} {x : Operand} {l : List UInt8} (hg : o.guard = none) (hd : o.dst = some t) (ht : t < c.n) (ho : o.op = .convert src dst x)
  (h1 : P.underlying src = some (.slice e)) (h2 : P.underlying e = some (.int .u8)) (h3 : P.underlying dst = some .string) (hx : ResL ⟨s.fr, M0⟩ [opd s.fr x] [.t (T.text l)])
  (k : QG P c ops M0 rest ⟨(t, .t (T.str l)) :: s.fr, s.M⟩ (acc ++ [pl t (.t (T.str l))]) Q) : QG P c ops M0 (o :: rest) s acc Q :=
 ⟨pl t _, hd, fun s' ha _ Q h => by
  have e1 : opd s'.fr x = opd s.fr x := ha.opd (by rw [ho]; simp [Op.operands])
  exact A0 hg hd ht ho h1 h2 h3 (by rw [e1]; exact hx.up ha.1) h, k⟩
theorem Ld {Q : St → List Dl → Prop} {src dst t : Nat} {x : Operand} {td : TypeDesc} {k k0 : IntKind} {n m : Int} (hg : o.guard = none) (hd : o.dst = some t) (ht : t < c.n) (ho : o.op = .convert src dst x)
  (h1 : P.underlying src = some td) (h2 : P.underlying dst = some (.int k)) (hx : opd s.fr x = .t (.v (.int k0 n))) (hw : k.wrap n = m)
  (kk : QG P c ops M0 rest ⟨(t, .t (.v (.int k m))) :: s.fr, s.M⟩ (acc ++ [pl t (.t (.v (.int k m)))]) Q) : QG P c ops M0 (o :: rest) s acc Q :=
 ⟨pl t _, hd, fun s' ha _ Q h => AZ hg hd ht ho h1 h2 (by rw [ha.opd (by rw [ho]; simp [Op.operands])]; exact hx) hw h, kk⟩
end
end Go.Eng
end
section
/- Cells appended to a row of the call's own: whose the new row is. -/
namespace Go.Eng
open Go.RowKit Go.Lib
section
variable {P : Program} {w : World}
theorem Gj (t ty e : TypeId) (i : TypeInfo) (z : Value) (ht : P.underlying t = some (.slice e)) (hi : P.info? e = some i) (hz : i.zero = some z)
  (hsize : i.size = 1) (hby : i.bytes = 1) (hzs : z.cells.size = 1)
  (v : Value) (n : Nat) (xs : List Value) (hown : w.ownsRow 0 e 1 v n xs)
  (a : Addr) (m c : Nat) (news : List Value) (hl : news.length = m * 1) (hnews : ∀ j u, news[j]? = some u → w.cell? (a.add j) = some u) (h1 : ∀ u ∈ news, u.oneCell' = true)
  (h63 : n + m ≤ maxLen) (hbytes : n + m ≤ 140737488355328) :
  ∃ v' w', (Builtin.append_ #[t, t] ty #[v, .slice (some a) m c]).run P w = .ok v' w' ∧ w'.ownsRow 0 e 1 v' (n + m) (xs ++ news) ∧ w.grownBy w' v.ownBlock ∧
   ∀ g', v'.ownBlock = some g' → v.ownBlock = some g' ∨ w.heap.size ≤ g' := by
 rcases hown.2 with ⟨rfl, rfl⟩ | ⟨g, cap, cur, rfl, hbg, hg, hnc, hcm, hcs, htake⟩
 ·obtain ⟨v', w', r1, h2, r3, r4⟩ := run_append_own (P := P) w w.heap.size t ty e i z 1 1 ht hi hz hsize hby hzs (by decide) (.slice none 0 0) 0 xs ⟨hown.1, .inl ⟨rfl, rfl⟩⟩ a m c news hl hnews h1 h63 (by omega) (OJ _)
  refine ⟨v', w', r1, ⟨h2.1, ?_⟩, r3, fun g' hg' => .inr ?_⟩
  ·rcases h2.2 with h5 | ⟨g, cap, cur, q1, q2, q3⟩
   ·exact .inl h5
   ·exact .inr ⟨g, cap, cur, q1, OU _, q3⟩
  ·rcases h2.2 with ⟨h5, _⟩ | ⟨g, cap, cur, q1, q2, q3⟩
   ·subst h5; cases hg'
   ·subst q1
    have : g = g' := Option.some.inj hg'
    omega
 ·have hsmall : n + m ≤ 9223372036854775807 := by simp only [maxLen] at h63; omega
  have hxl : xs.length = n := by simpa using hown.1
  have hnl : news.length = m := by omega
  have hlen : (xs ++ news).length = (n + m) * 1 := by rw [Nu, hxl, hnl, Nat.mul_one]
  by_cases hroom : n + m ≤ cap
  ·have hcs' : cur.size = cap := by simpa using hcs
   have hr := run_append_room (P := P) w t ty e i ht hi g n cap cur hg a m c news (by rw [hsize]; exact hl) hnews h1 hroom (by rw [hsize]; omega)
   rw [hsize, Nat.mul_one] at hr;refine ⟨_, _, hr, ⟨hlen, .inr ⟨g, cap, _, rfl, OU _, setRow_heap w g cur _ e _ hg, hroom, hcm, ?_, ?_⟩⟩, ⟨rfl, rfl, rfl, by simp, fun k _ hk => setRow_other w g k _ (fun e => hk (by simp [Value.ownBlock, e]))⟩, fun g' hg' => .inl hg'⟩
   ·simp only [List.size_toArray, Nu, OO, OT, OD]
    omega
   ·have ht' : cur.toList.take n = xs := by simpa using htake
    rw [ht', ← hlen];exact List.take_left
  ·have hownF := World.ownsRowF_of hown
   have holds : ∀ j u, xs[j]? = some u → w.cell? ((⟨g, 0, none⟩ : Addr).add j) = some u := hownF.cells (g := g) rfl
   have hr := run_append_grow (P := P) w t ty e i z ht hi hz ⟨g, 0, none⟩ n cap xs (by rw [hsize]; simpa using hxl) holds a m c news (by rw [hsize]; exact hl) hnews (by omega) (by omega) (by rw [hby]; exact growslice_fits (by omega) (by omega))
   have hge := grownCap_ge w (n + m) cap e
   have hcm2 : grownCap w (n + m) cap e ≤ maxLen := grownCap_le_maxLen w (n + m) cap e h63
   refine ⟨_, _, hr, ⟨hlen, .inr ⟨w.heap.size, _, _, rfl, OU _, heap_alloc_new w.drew _, hge, hcm2, ?_, ?_⟩⟩, ⟨rfl, rfl, rfl, by simp, fun k hk _ => heap_alloc_old w.drew _ hk⟩, fun g' hg' => .inr ?_⟩
   ·simp only [Array.size_append, List.size_toArray, size_zeroCells, hzs, hxl, hnl]
    omega
   ·simp only [Array.toList_append, OA]
    rw [← OA, ← hlen];exact List.take_left
   ·have : w.heap.size = g' := Option.some.inj hg'
    omega
theorem wpList_append_exactC {ops : Array Oper} {rest : List Oper} {o : Oper} {a : Act} {Q : Exit → Act → World → Prop} (hgd : o.guard = none) (sl x : Operand) (t : TypeId)
  (ho : o.op = .call { callee := .builtin .append, args := #[sl, x], argTypes := #[t, t] })
  (e : TypeId) (i : TypeInfo) (z : Value) (ht : P.underlying t = some (.slice e)) (hi : P.info? e = some i) (hz : i.zero = some z)
  (hsize : i.size = 1) (hby : i.bytes = 1) (hzs : z.cells.size = 1)
  (v : Value) (n : Nat) (xs : List Value) (hs : a.eval sl = v) (hown : w.ownsRow 0 e 1 v n xs)
  (ad : Addr) (m c : Nat) (news : List Value) (hx : a.eval x = .slice (some ad) m c) (hl : news.length = m * 1) (hnews : ∀ j u, news[j]? = some u → w.cell? (ad.add j) = some u) (h1 : ∀ u ∈ news, u.oneCell' = true)
  (h63 : n + m ≤ maxLen) (hbytes : n + m ≤ 140737488355328)
  (h : ∀ v' w', w'.ownsRow 0 e 1 v' (n + m) (xs ++ news) → w.grownBy w' v.ownBlock → (∀ g', v'.ownBlock = some g' → v.ownBlock = some g' ∨ w.heap.size ≤ g') → wpList P ops Q rest (a.put o.dst v') w') : wpList P ops Q (o :: rest) a w := by
 refine wpList_plain hgd fun K hK => ?_
 obtain ⟨v', w', hr, h2, h3, h4⟩ := Gj (P := P) (w := w) t o.type e i z ht hi hz hsize hby hzs v n xs hown ad m c news hl hnews h1 h63 hbytes
 unfold Oper.wp execOp;simp only [ho, resolve, invoke, builtin, N8, OS, N2, List.map_toArray, OV, List.map_nil, hs, hx, hr];exact hK _ _ (h v' w' h2 h3 h4)
end
end Go.Eng
end
section
/- Rows: lists of the call's own that lie at a told place; lent, named, told. -/
namespace Go.Eng
open Go.RowKit
section
variable {P : Program} {c : Ctx} {s : St} {Q : Exit → St → Prop} {ops : Array Oper} {rest : List Oper} {o : Oper}
theorem AL {s1 : St} {e : Exit} {Q : Exit → St → Prop} (h : Le c s s1) (k : ∃ s2, Le c s1 s2 ∧ Q e s2) : ∃ s2, Le c s s2 ∧ Q e s2 := by
 obtain ⟨s2, h1, h2⟩ := k
 exact ⟨s2, h.trans h1, h2⟩
theorem Af {e : Exit} {Q : Exit → St → Prop} (k : Q e s) : ∃ s2, Le c s s2 ∧ Q e s2 := ⟨s, Le.refl, k⟩
theorem AM {s1 : St} {e : Exit} {Q : Exit → St → Prop} (h : B6 s = some s1) (k : ∃ s2, Le c s1 s2 ∧ Q e s2) : ∃ s2, Le c s s2 ∧ Q e s2 := by rw [CH h]; exact k
end
end Go.Eng
end
section
/- Calls that are lent memory and leave it as it was: in regions of open order, too; and where the answer is a place in a named list. -/
namespace Go.Eng
open Go.RowKit
section
variable {P : Program} {c : Ctx} {s : St} {ops : Array Oper} {rest : List Oper} {o : Oper}
inductive Lf (A : List Nat) (M : List (Nat × Blk)) (i : Nat) : Blk → Prop
 | same {k : Blk} : lookM M i = some k → k.shut = true → Lf A M i k
 | box {cells : List D} {b n : Nat} (pid : Nat) : lookM M i = some (.box cells) → lookM M pid = some (.pin i b n 1) → cells.length = n → D.noImm.noImmL cells = true → A.contains pid = false → Lf A M i (.obox (.pointer (some ⟨b, 0, none⟩)) cells)
 | row {b n cap : Nat} {xs : List T} (pid : Nat) : lookM M i = some (.L n xs) → lookM M pid = some (.pin i b n cap) → A.contains pid = false → Lf A M i (.row b cap n xs)
variable {M0 : List (Nat × Blk)} {acc : List Dl}
end
end Go.Eng
end
section
/- A told header is loaded in a region of open order, and what it leads to is taken along. -/
namespace Go.Eng
open Go.RowKit
section
variable {P : Program} {c : Ctx} {s : St} {ops : Array Oper} {rest : List Oper} {o : Oper}
theorem Cp {Q : St → List Dl → Prop} {acc : List Dl} {b : List Nat} {bs : List (List Nat)} {Γ : Tys} (hΓ : Γ.ok P) {t : Nat} {y : T} {v : Value} (idq : Nat) (hg : o.guard = none) (hd : o.dst = some t) (ht : t < c.n)
  (he : evF Γ ⟨s.fr, EN b s.M⟩ o.op = some (.t (.v v))) (hq : lookM (EN b s.M) idq = some (.rawV [v] [y]))
  (k : QH P c ops bs rest ⟨(t, .own y) :: s.fr, (idq, .rawV [] []) :: s.M⟩ (acc ++ [⟨t, .own y, [], [(idq, .rawV [] [])], false⟩]) Q) : QH P c ops (b :: bs) (o :: rest) s acc Q :=
 ⟨⟨t, .own y, [], [(idq, .rawV [] [])], false⟩, fun s' ha _ Q h => by
  refine WO_evF hΓ hg hd ht (GZ ha he) ?_
  have h3 : Le c ⟨(t, .own y) :: (t, .t (.v v)) :: s'.fr, (idq, .rawV [] []) :: s'.M⟩ ⟨(t, .own y) :: s'.fr, (idq, .rawV [] []) :: s'.M⟩ := Le.of (fun u => .inl (by
   show (if t = u then D.own y else look s'.fr u) = if t = u then D.own y else if t = u then _ else look s'.fr u
   split <;> rfl)) (fun u => .inl rfl)
  have h2 : Le c ⟨(t, .t (.v v)) :: s'.fr, s'.M⟩ ⟨(t, .own y) :: (t, .t (.v v)) :: s'.fr, (idq, .rawV [] []) :: s'.M⟩ := Le.ownBack0 (t := t) (id := idq) (v := v) (by show (if t = t then _ else _) = _; rw [if_pos rfl]) (ha.1 _ _ hq)
  exact AI (h2.trans h3) h, k⟩
end
end Go.Eng
end
section
/- Regions of open order that write, in which an operation may look at what another one writes, if it reads the same either way. -/
namespace Go.Eng
open Go.RowKit
section
variable {P : Program} {c : Ctx} {s : St}
variable {Q : Exit → St → Prop}
variable {ops : Array Oper} {rest : List Oper} {o : Oper} {V : St → Prop}
end
end Go.Eng
end
section
/- Structs of told cells, made known; an empty told slice, cut; an empty told list in an element. -/
namespace Go.Eng
open Go.RowKit
section
variable {P : Program} {c : Ctx} {s : St} {ops : Array Oper} {rest : List Oper} {o : Oper}
end
end Go.Eng
end
section
/- Loads from a variable that is lent, in regions whose readers look at what is written. -/
namespace Go.Eng
open Go.RowKit
section
variable {P : Program} {c : Ctx} {s : St} {ops : Array Oper} {rest : List Oper} {o : Oper} {Q : Exit → St → Prop} {V : St → Prop}
end
end Go.Eng
end
section
/- The parts of an answer get names within a region of open order: several ids that nothing names. -/
namespace Go.Eng
open Go.RowKit
section
variable {P : Program} {c : Ctx} {s : St}
structure CI (t u : Nat) (s : St) : Prop where
 fr : ∀ v, (look s.fr v).has t = false → (look s.fr v).has u = false
 bl : ∀ id k, lookM s.M id = some k → Bn t k = true → Bn u k = true
 no : lookM s.M t = none → lookM s.M u = none
variable {ops : Array Oper} {rest : List Oper} {o : Oper} {V : St → Prop}
end
end Go.Eng
end
section
/- A call of a function that is given places and whose answer is only read, in a statement of open order. -/
namespace Go.Eng
open Go.RowKit
section
variable {P : Program} {c : Ctx} {s : St} {ops : Array Oper} {rest : List Oper} {o : Oper}
end
end Go.Eng
end
section
/- Lists that begin behind their block's start: how they come to be, how they are named again, how they are marked. -/
namespace Go.Eng
open Go.RowKit
theorem HO : ∀ {a b : List Value}, a.map T.v = b.map T.v → a = b
 | [], [], _ => rfl
 | [], _ :: _, h => by simp at h
 | _ :: _, [], h => by simp at h
 | x :: a, y :: b, h => by
  rw [OV, OV] at h
  injection h with h1 h2
  injection h1 with h1
  rw [h1, HO h2]
theorem Ig {w : World} {vs us : List Value} {bs : List Nat} (h : OwnL w vs (us.map T.v) bs) : vs = us ∧ bs = [] ∧ us.all (·.oneCell') = true := by
 obtain ⟨e1, e2, e3⟩ := HJ h
 subst e1;exact ⟨rfl, e2, N1.2 e3⟩
theorem IL {w : World} {F : Nat → Prop} {β : Ag} {x : Value} {b0 mb : List Nat} {id k len : Nat} {us : List Value} (hr : RelD w F β [x] [.sl id k len] b0) (hm : RelB w F β id (.L 1 (us.map T.v)) mb) (hl : k + len = us.length) (h0 : 0 < us.length) :
  ∃ bs, OwnL w [x] [.sub ((us.drop k).map T.v)] bs ∧ bs.Nodup ∧ ∀ b, b ∈ bs → b ∈ mb := by
 rcases hm with ⟨r1, r2, r3⟩ | ⟨b, cap, arr, e', bs', r1, r2, r3, r4, r5, r6, r7, r8⟩
 ·have : us = [] := List.map_eq_nil_iff.1 r2
  subst this; simp at h0
 ·rw [N0] at r5 r7
  rw [GV, Nat.mul_one] at r7
  obtain ⟨e1, e2, e3⟩ := Ig r7
  subst e2
  cases hr with
  | slnil p1 _ => rw [r1] at p1; cases p1
  | @sl _ _ _ ad _ _ _ k' _ _ _ p1 p2 p3 p4 _ =>
   rw [r1] at p1;cases p1;refine ⟨[b], ?_, by simp, by simp [r8]⟩
   have hpl : (us.take k).length = k := by rw [OO]; omega
   have hdl : (us.drop k).length = len := by rw [OT]; omega
   have := OwnL.sub (vs := []) (ts := []) (bs := []) (a := ad) (pre := us.take k) (us := us.drop k) (cap := k') (xs := (us.drop k).map T.v) r2 (by rw [r3, hpl]; omega) (by rw [hpl, hdl, hl, e1, List.take_append_drop]) rfl (by rw [List.take_append_drop]; exact e3) (by rw [N0, hdl]; exact p2) (by rw [hpl]; omega) (fun h => by rw [hpl, p4 h, Nat.mul_one]) .nil
   rw [N0, hdl] at this;exact this
section
variable {P : Program} {c : Ctx} {s : St} {Q : Exit → St → Prop} {ops : Array Oper} {rest : List Oper} {o : Oper}
theorem Le.gatherBoxS {u id j k len : Nat} {us : List Value} {xs : List T} {cells : List D} (hB : lookM s.M u = some (.box cells)) (h1 : cells[j]? = some (.sl id k len)) (hM : lookM s.M id = some (.L 1 xs)) (hx : xs = us.map T.v) (hl : k + len = us.length) (h0 : 0 < us.length) (hne : (id == u) = false) :
  Le c s ⟨s.fr, (u, .box (cells.set j (.own (.sub ((us.drop k).map T.v))))) :: dropM (some id) s.M⟩ := by
 subst hx
 exact Le.gatherBoxG rfl hB h1 hM hne fun hv hm hnd => IL hv hm hl h0
theorem MarkF.sub {f : FuncId} {fn : Func} {code : Code} (hf : P.funcs[f]? = some fn) (hb : fn.body = some code) (hname : (fn.name == "runtime.NumGoroutine") = false) {N : Nat} (hN : 2 + (fn.ntmps - 2) = N) {us ys : List Value} {k r : Int}
  (hlen : ys.length = us.length) (hnil : us = [] → Fun P f [.t (.list 1 []), .t (.int k)] (.t (.int r)))
  (hwalk : ∀ b cap vs pre w0 G F0, W P ⟨w0, G, F0, N⟩ code ⟨[(0, .t (.v (.slice (some ⟨b, List.length pre, none⟩) us.length cap))), (1, .t (.int k))], [(N, .raw b (List.length pre + cap) vs (List.map T.v pre ++ us.map T.v))]⟩
   (KP fn r N fun blk => ∃ vs', blk = .raw b (List.length pre + cap) vs' (List.map T.v pre ++ ys.map T.v))) : MarkF P f (.sub (us.map T.v)) k r (.sub (ys.map T.v)) := by
 refine ⟨⟨fn, hf, by rw [hb]; rfl, hname⟩, fun w v bs hv hO hnd hlt => ?_⟩;dsimp only at hv;rw [hv] at hO
 have hO : OwnL w [v] [.sub (us.map T.v)] bs := hO
 generalize hxe : us.map T.v = zs at hO
 cases hO with
 | @sub b cap arr e ad pre us' _ _ _ _ g1 g2 g3 g4 g5 g6 g7 g8 g9 =>
  cases g9
  have hus : us = us' := by
   rw [← hxe] at g4;exact HO g4
  subst hus;subst hxe;rw [N0] at g6 hv
  by_cases hx : us = []
  ·subst hx
   have hy : ys = [] := OL (by simpa using hlen)
   subst hy;refine ((hnil rfl).2 w (fun _ => False) #[.slice ad 0 cap, .int .i64 k] (by simp) (by simpa using RelD.t (RelL.none .nil) (RelD.t (.v rfl .nil) .done))).mono ?_
   rintro e' w' ⟨v', F', bs', rfl, hbe, _, _, hr, _, _⟩
   have e1 := Am hr
   subst e1;refine ⟨rfl, [b], ?_, hnd, fun b hb => .inl hb, hbe.os, hbe.tape, hbe.output, hbe.size, fun b hb _ => hbe.block b hb⟩;exact .sub (us := []) ((hbe.block b (hlt b (by simp))).trans g1) g2 g3 rfl g5 (by simp) g7 g8 .nil
  ·have hc : cap ≠ 0 := fun h => hx (OL (by omega))
   obtain rfl := g8 hc
   have hall := N1.1 g5
   refine (GM hf hb hname hN (hwalk b cap (pre ++ us) pre) w _ [b] (by simpa using RelD.t (RelL.v rfl .nil) .done) ⟨arr, e, [], g1, g2, by rw [Nu]; exact g3, by rw [← List.map_append]; exact Ce hall, rfl⟩ hnd hlt).mono ?_
   rintro e' w' ⟨rfl, blk', F', β', bs', ⟨vs', rfl⟩, hB, q1, q2, q3, q4, q5, q6, q7⟩
   obtain ⟨arr', e2, b3, p1, p2, p3, p4, rfl⟩ := hB
   rw [← List.map_append] at p4
   obtain ⟨r1, r2, r3⟩ := Ig p4
   subst r1; subst r2;refine ⟨rfl, [b], ?_, q1, q2, q3, q4, q5, q6, q7⟩
   have := OwnL.sub (vs := []) (ts := []) (bs := []) (pre := pre) (us := ys) (cap := cap) (xs := ys.map T.v) (a := some ⟨b, pre.length, none⟩) p1 p2 (by rw [Nu] at p3; exact p3) rfl r3 (by rw [N0]; omega) g7 (fun _ => rfl) .nil
   rw [N0, hlen] at this;rw [N0];exact this
theorem Nl {Γ : Tys} (hΓ : Γ.ok P) {ty e t b off n cap : Nat} {x ix : Operand} {ti te : TI} {i : Int} (hg : o.guard = none) (hd : o.dst = some t) (ht : t < c.n) (ho : o.op = .indexAddr ty x ix)
  (h1 : A7 Γ ty = some ti) (h2 : ti.kind = .slice e) (h3 : A7 Γ e = some te) (hx : opd s.fr x = .t (.v (.slice (some ⟨b, off, none⟩) n cap))) (hix : opd s.fr ix = .t (.int i)) (h5 : 0 ≤ i) (h6 : i < n)
  (k : WO P c ops rest ⟨(t, .t (.v (.pointer (some ⟨b, off + i.toNat * te.size, none⟩)))) :: s.fr, s.M⟩ Q) : WO P c ops (o :: rest) s Q := by
 refine BC hg hd ht _ (fun a w F β fb mb ow hi => ?_) k;refine ⟨.pointer (some ⟨b, off + i.toNat * te.size, none⟩), ?_, .t (.v rfl .nil) .done⟩;simp only [execOp, ho, A3 hi hx, A3 hi hix, N8, CO (hΓ.get h1) h2 (hΓ.get h3) h5 h6, N2];rfl
end
end Go.Eng
end
section
/- Functions that are lent memory and read variables of the program's that are laid. -/
namespace Go.Eng
open Go.RowKit
def ProcL (P : Program) (Λ : World → (Nat → Prop) → Prop) (f : FuncId) (ds : List D) (rv : List Value) (rt : List T) (ks : List Blk) (r : D) (ks' : List Blk) : Prop :=
 BJ P f ∧ ∀ (w : World) (F : Nat → Prop) (args : Array Value) (bs : List Nat), (∀ (w' : World) (F' : Nat → Prop), (w'.os = w.os ∧ w'.tape = w.tape ∧ w'.output = w.output ∧ w.heap.size ≤ w'.heap.size ∧ ∀ b, b < w.heap.size → ¬ b ∈ bs → w'.heap[b]? = w.heap[b]?) → (∀ b, F b → F' b) → Λ w' F') →
  (∀ b, F b → b < w.heap.size) → RelD w F BL args.toList ds [] → RelL w F rv rt → FU w ks bs → bs.Nodup → (∀ b, b ∈ bs → b < w.heap.size ∧ ¬ F b) →
  Calls P f args w fun e w' => ∃ v br bs', e = .returned v ∧ RelD w' BW BL [v] [r] br ∧ FU w' ks' bs' ∧ (br ++ bs').Nodup ∧ (∀ b, b ∈ br ++ bs' → b ∈ bs ∨ (w.heap.size ≤ b ∧ b < w'.heap.size)) ∧
   w'.os = w.os ∧ w'.tape = w.tape ∧ w'.output = w.output ∧ w.heap.size ≤ w'.heap.size ∧ ∀ b, b < w.heap.size → b ∉ bs → w'.heap[b]? = w.heap[b]?
theorem ProcL.intro {P : Program} {Λ : World → (Nat → Prop) → Prop} {Γ : Tys} (hΓ : Γ.ok P) {f : FuncId} {fn : Func} {code : Code} (hf : P.funcs[f]? = some fn) (hb : fn.body = some code) (hname : (fn.name == "runtime.NumGoroutine") = false) {N : Nat} {ds : List D} {rv : List Value} {rt : List T} {ks : List Blk} {r : D} {ks' : List Blk} (ids : List Nat) (rid : Nat) (fr : List (Nat × D)) (M : List (Nat × Blk))
  (hN : ds.length + (fn.ntmps - ds.length) = N) (hfr : (List.range ds.length).zip ds = fr) (hM : ids.zip ks ++ [(rid, .ro rv rt)] = M) (hids : ids.length = ks.length) (hnd : ids.Nodup) (hrid : rid ∉ ids) (hsh : ks.all Blk.shut = true)
  (h : ∀ w0 G F0, Keeps Λ ⟨w0, G, F0, N⟩ → W P ⟨w0, G, F0, N⟩ code ⟨fr, M⟩ (Lg Γ fn ids r ks')) : ProcL P Λ f ds rv rt ks r ks' :=
 ⟨⟨fn, hf, by rw [hb]; rfl, hname⟩, fun w F args bs hΛ hF hargs hrd hms hbn hblt => Proc.core hΓ hf hb hname ids rid fr M hN hfr hM hids hnd hrid hsh hF hargs hrd hms hbn hblt (h w _ F ⟨hΛ⟩)⟩
section
variable {P : Program} {Λ : World → (Nat → Prop) → Prop} {c : Ctx} {s : St} {Q : Exit → St → Prop} {ops : Array Oper} {rest : List Oper} {o : Oper}
theorem LW {t rid : Nat} {fo : Operand} {args : Array Operand} {tys : Array TypeId} {f : FuncId} {es : List D} {rv : List Value} {rt : List T} {ks : List Blk} {r : D} {ks' : List Blk} (ids : List Nat) (hg : o.guard = none) (hd : o.dst = some t) (ht : t < c.n)
  (ho : o.op = .call { callee := .value fo, args := args, argTypes := tys }) (hf : opd s.fr fo = .clo f []) (hes : ResP s ids (args.toList.map (opd s.fr)) es) (hro : lookM s.M rid = some (.ro rv rt)) (hM : LookMs s.M ids ks) (hnd : ids.Nodup)
  (hL : Keeps Λ c) (hm : ProcL P Λ f es rv rt ks r ks') (hr : r.noImm = true) (hl' : ids.length = ks'.length) (hks' : ks'.all Blk.shut = true)
  (k : WO P c ops rest ⟨(t, r) :: s.fr, ids.zip ks' ++ s.M⟩ Q) : WO P c ops (o :: rest) s Q := by
 rintro a w ⟨F, β, fb, mb, ow, hi⟩
 obtain ⟨bf, hrf, h1⟩ := hi.opd fo
 rw [hf] at hrf
 obtain ⟨arr, bs', hv, hr1, rfl⟩ := BA hrf
 have ha : arr = #[] := by
  have := hr1.length
  simpa using this
 subst ha
 obtain ⟨bs, hr2, h2⟩ := Ep hi args.toList
 have hsound := hes.sound hi hr2 h2
 have hrun : (execOp a.eval o).run P w = .ok (.enter f (args.map a.eval)) w := by
  simp [execOp, ho, resolve, hv, Deferred.ofValue, invoke, A9 hm.1]
 refine wpList_plain hg fun K hK => ?_
 unfold Oper.wp;rw [hrun, Oper.upon_enter]
 have hrel : ∀ p, p ∈ ids.zip ks → RelB w BW BL 0 p.2 (mb p.1) := fun p hp => by
  obtain ⟨g1, g2⟩ := hM.at p hp
  have := hi.mem p.1
  rw [g1] at this;exact this.shut g2
 have hfn : (ids.flatMap mb).Nodup := Cy hnd (fun i _ => hi.nmem i) fun i j b _ _ h6 h7 => by
  have e1 := hi.omem i b h6
  rw [hi.omem j b h7] at e1;cases e1; rfl
 have hrr := hi.mem rid
 rw [hro] at hrr;refine (hm.2 w (fun b => b < w.heap.size ∧ ∀ i, i ∈ ids → b ∉ mb i) (args.map a.eval) (ids.flatMap mb) (fun w' F' h1 h2 => ?_) (fun b h => h.1) (by simpa using hsound) (hrr.1.mono (fun b hb => ⟨hi.fin b hb, fun i _ h => (hi.own b (by rw [hi.omem i b h]; simp)).1 hb⟩) fun _ _ => rfl) (ES hM.len hrel) hfn fun b hb => ?_).mono ?_
 ·refine hL.k w' F' ⟨h1.1.trans hi.os, h1.2.1.trans hi.tape, h1.2.2.1.trans hi.output, Nat.le_trans hi.size h1.2.2.2.1, fun b hb hg => ?_⟩ fun b hb => h2 b ⟨hi.fin b (hi.f0 b hb), fun i _ h => (hi.own b (by rw [hi.omem i b h]; simp)).1 (hi.f0 b hb)⟩
  rw [← hi.keep b hb hg]
  refine h1.2.2.2.2 b (Od hb hi.size) fun hm' => ?_
  obtain ⟨i, h3, h4⟩ := Oa.1 hm'
  rcases (hi.own b (by rw [hi.omem i b h4]; simp)).2.2 with h5 | h5
  ·omega
  ·exact hg h5
 ·obtain ⟨i, h3, h4⟩ := Oa.1 hb
  exact ⟨(hi.own b (by rw [hi.omem i b h4]; simp)).2.1, fun h => h.2 i h3 h4⟩
 rintro e w' ⟨v, br, bs', rfl, q1, q2, q3, q4, q5, q6, q7, q8, q9⟩
 dsimp only;rw [hd];exact hK _ _ (k _ _ (hi.lent ht hnd hl' hks' hr q1 q2 q3 q4 q5 q6 q7 q8 q9))
end
end Go.Eng
end
