import Derived.Test.YtafjkelehnpfcaaDoorMd
import Derived.Laws.StructEq
import Derived.ChangeKeysEq
import Derived.Laws.IdiomStrings
import Derived.Laws.Strings2
import Derived.Stop.IfaceNil
import Derived.Test.YtafjkelehnpfcaaDoorMb
import Derived.OpenVars
import Derived.Handed
import Derived.HandedShaped
import Derived.Lib.LaidTab
import Derived.Lib.FrozenHead
import Derived.Shelf.Strings.BuilderK
import Derived.Lib.FrozenHead2

section
/- What is known of values, put in order; memory that is not there. -/
set_option linter.unusedVariables false
set_option linter.unusedSimpArgs false
namespace Go.Eng
open Go.RowKit

section
variable {P : Program} {c : Ctx} {s : St} {Q : Exit → St → Prop} {ops : Array Oper} {rest : List Oper} {o : Oper}

end
end Go.Eng
end

section
/- Structs whose fields are structs, put together out of their parts. -/
set_option linter.unusedVariables false
set_option linter.unusedSimpArgs false
namespace Go.Eng
open Go.RowKit

section
variable {P : Program} {c : Ctx} {s : St} {Q : Exit → St → Prop} {ops : Array Oper} {rest : List Oper} {o : Oper}

end

section
variable {P : Program} {c : Ctx} {s : St} {M0 : List (Nat × Blk)} {acc : List Dl} {Q : St → List Dl → Prop} {ops : Array Oper} {rest : List Oper} {o : Oper}

end
end Go.Eng
end

section
/- Slices made of so many, copied into, named: of whole numbers. -/
set_option linter.unusedVariables false
set_option linter.unusedSimpArgs false
namespace Go.Eng
open Go.RowKit

section
variable {P : Program} {c : Ctx} {s : St} {Q : Exit → St → Prop} {ops : Array Oper} {rest : List Oper} {o : Oper}

end
section
variable {P : Program} {c : Ctx} {s : St} {M0 : List (Nat × Blk)} {acc : List Dl} {Q : St → List Dl → Prop} {ops : Array Oper} {rest : List Oper} {o : Oper}
end
end Go.Eng
end

section
/- Statements of open order that make ready what they lend, once it is read. -/
set_option linter.unusedVariables false
set_option linter.unusedSimpArgs false
namespace Go.Eng
open Go.RowKit

section
variable {P : Program} {c : Ctx} {s : St} {ops : Array Oper} {rest : List Oper} {o : Oper}
end
section
variable {P : Program} {c : Ctx} {s : St} {Q : Exit → St → Prop} {ops : Array Oper} {rest : List Oper} {o : Oper}
end
end Go.Eng
end

section
/- One cell of a list is laid open: the list that it owns gets a name. -/
set_option linter.unusedVariables false
set_option linter.unusedSimpArgs false
namespace Go.Eng
open Go.RowKit
section
variable {P : Program} {c : Ctx} {s : St} {Q : Exit → St → Prop} {ops : Array Oper} {rest : List Oper} {o : Oper}

theorem Mix.told : ∀ {vs : List Value} {ts : List T}, vs.length = ts.length → Mix vs ts (vs.map T.v) ts
  | [], [], _ => .nil
  | [], _ :: _, h => by simp at h
  | _ :: _, [], h => by simp at h
  | v :: vs, t :: ts, h => .claim (Mix.told (by simpa using h))

end
end Go.Eng
end

section
/- A copy within one list of plain values of the function's own. -/
set_option linter.unusedVariables false
set_option linter.unusedSimpArgs false
namespace Go.Eng
open Go.RowKit
section
variable {P : Program} {c : Ctx} {s : St} {Q : Exit → St → Prop} {ops : Array Oper} {rest : List Oper} {o : Oper}

end
end Go.Eng
end

section
/- A region that only reads, run as if all memory were only read: what it answers of values is kept in a new variable, all else is as before. -/
set_option linter.unusedVariables false
set_option linter.unusedSimpArgs false
namespace Go.Eng
open Go.RowKit

section
variable {P : Program} {c : Ctx} {s : St} {Q : Exit → St → Prop} {ops : Array Oper}

/-- But for these temporaries all are as they were. -/
def sameOut (ds : List Nat) (a0 a : Act) : Prop := ∀ u, u ∉ ds → a.tmps.getD u undef = a0.tmps.getD u undef
theorem sameOut.put {ds : List Nat} {a0 a : Act} (h : sameOut ds a0 a) {d : Option Nat} (hd : ∀ t, d = some t → t ∈ ds) (v : Value) : sameOut ds a0 (a.put d v) := by
  cases d with
  | none => exact h
  | some t =>
    intro u hu
    have hne : ¬ t = u := fun e => hu (e ▸ hd t rfl)
    rw [← h u hu]
    simp [Act.put, Array.getElem?_setIfInBounds_ne hne]
/-- What is had, as it can be read in all the memory that there is. -/
def ViewL (c : Ctx) (s : St) (ds es : List D) : Prop := ∀ {a : Act} {w : World} {F : Nat → Prop} {β : Place} {fb mb : Nat → List Nat} {ow : Nat → Option (Nat ⊕ Nat)}, Conc c s a w F β fb mb ow → ∀ {vs : List Value} {bs : List Nat}, RelD w F β vs ds bs → (∀ b, b ∈ bs → b < w.heap.size) →
  RelD w (fun b => b < w.heap.size) (fun _ => none) vs es []
theorem ViewL.of {ds es : List D} (h : ResL s ds es) : ViewL c s ds es := fun hi _ _ hr hb => h.sound hi hr hb
theorem ViewL.nil' : ViewL c s [] [] := ViewL.of ResL.done
theorem ViewL.cons {d e : D} {ds es : List D} (h : ViewL c s [d] [e]) (k : ViewL c s ds es) : ViewL c s (d :: ds) (e :: es) := fun hi vs bs hr hb => by
  cases vs with
  | nil => cases hr
  | cons v vs =>
    obtain ⟨b1, b2, h1, h2, rfl⟩ := hr.cons
    exact RelD.cons' (h hi h1 fun b hb' => hb b (by simp [hb'])) (k hi h2 fun b hb' => hb b (by simp [hb']))
theorem ViewL.ref {id off : Nat} {cells : List D} {ts : List T} (hM : lookM s.M id = some (.box cells)) (h : ViewL c s cells (ts.map D.t)) : ViewL c s [.ref id 0 off] [.rp (.agg ts) off] := fun {a w F β fb mb ow} hi vs bs hr hb => by
  have hm := hi.mem id
  rw [hM] at hm
  obtain ⟨b, arr, e, bs', h1, h2, h3, h4, h5⟩ := hm
  cases hr with
  | ref q1 q2 =>
    rw [h1] at q1
    cases q1
    have hin : ∀ b', b' ∈ mb id → b' < w.heap.size := fun b' hb' => (hi.own b' (by rw [hi.omem id b' hb']; simp)).2.1
    have h6 := h hi h3 fun b' hb' => hin b' (by rw [h5]; simp [hb'])
    cases q2
    rw [Nat.zero_mul]
    exact .rp (o := 0) (cs := arr.toList) (hin b (by rw [h5]; simp)) h2 (by simp) (relL_of_ts h6 h4) .done
/-- A told slice of memory that is laid open. -/
theorem ViewL.raw {id b sz n m cap : Nat} {ws : List Value} {ts xs : List T} (hM : lookM s.M id = some (.raw b sz ws ts)) (hx : xs.flatMap T.cells = ts) (hn : ∀ x, x ∈ xs → (T.cells x).length = m) (hl : xs.length = n) (hc : n ≤ cap) : ViewL c s [.t (.v (.slice (some ⟨b, 0, none⟩) n cap))] [.t (.list m xs)] := fun {a w F β fb mb ow} hi vs bs hr hb => by
  have hm := hi.mem id
  rw [hM] at hm
  obtain ⟨arr, e, bs', h1, h2, h3, h4, h5⟩ := hm
  subst hx hl
  have hrel := h4.rel (F := fun b => b < w.heap.size) fun b' hb' => (hi.own b' (by rw [hi.omem id b' (by rw [h5]; simp [hb'])]; simp)).2.1
  cases hr with
  | t q1 q2 =>
    have e1 := relL_one q1
    subst e1
    cases q2
    refine .t (.list (o := 0) (hi.own b (by rw [hi.omem id b (by rw [h5]; simp)]; simp)).2.1 h1 (fun k hk => ?_) hn hc hrel .nil) .done
    rw [← h3]
    rw [← h3] at hk
    simp only [List.length_take, Array.length_toList] at hk
    rw [List.getElem?_take, if_pos (by omega), Nat.zero_add]
    simp

/-- Temporaries, as they can be read in all the memory that there is. -/
def Views (c : Ctx) (s : St) : List (Nat × D) → Prop
  | [] => True
  | (t, d) :: l => ViewL c s [look s.fr t] [d] ∧ Views c s l
theorem Views.look {s : St} : ∀ {l : List (Nat × D)}, Views c s l → ∀ t, look l t = .top ∨ ViewL c s [Eng.look s.fr t] [look l t]
  | [], _, t => .inl rfl
  | (u, d) :: l, h, t => by
    rw [Eng.look]
    split
    · rename_i e; subst e; exact .inr h.1
    · exact Views.look h.2 t
/-- Values told, and what is not known. -/
def D.plain : D → Bool
  | .t (.v _) => true
  | .top => true
  | _ => false
/-- A run that left all that there was as it was, but for some temporaries. -/
theorem Conc.later {a a' : Act} {w w' : World} {F β fb mb ow} (hi : Conc c s a w F β fb mb ow) {ds : List Nat} (hs : sameOut ds a a') (hh : ∀ b, b < w.heap.size → w'.heap[b]? = w.heap[b]?) (hz : w.heap.size ≤ w'.heap.size)
    (h1 : w'.os = w.os) (h2 : w'.tape = w.tape) (h3 : w'.output = w.output) (h4 : a'.defers = []) (h5 : a'.tmps.size = c.n) :
    Conc c ⟨ds.map (fun t => (t, D.top)) ++ s.fr, s.M⟩ a' w' F β (fun t => if t ∈ ds then [] else fb t) mb (fun b => match ow b with | some (.inl t) => if t ∈ ds then none else some (.inl t) | y => y) := by
  have hlook : ∀ t, look (ds.map (fun t => (t, D.top)) ++ s.fr) t = if t ∈ ds then .top else look s.fr t := by
    intro t
    clear hs
    induction ds with
    | nil => simp
    | cons u l ih =>
      simp only [List.map_cons, List.cons_append, look]
      by_cases e : u = t
      · rw [if_pos e, if_pos (by simp [e])]
      · rw [if_neg e, ih]
        simp [Ne.symm e]
  have hin : ∀ b, ow b ≠ none → w'.heap[b]? = w.heap[b]? := fun b h => hh b (hi.own b h).2.1
  have hF : ∀ b, F b → w'.heap[b]? = w.heap[b]? := fun b h => hh b (hi.fin b h)
  exact { hi with
    fr := fun t => by
      rw [hlook]
      try dsimp only
      by_cases ht : t ∈ ds
      · rw [if_pos ht, if_pos ht]; exact .top .done
      · rw [if_neg ht, if_neg ht, hs t ht]
        exact (hi.fr t).mono (fun _ h => h) hF (fun b h => hin b (by rw [hi.ofr t b h]; simp)) fun _ => rfl
    mem := fun i => by
      have := hi.mem i
      try dsimp only
      cases h : lookM s.M i with
      | none => rw [h] at this; exact this
      | some k =>
        rw [h] at this
        exact RelB.mono this hF fun b h => hin b (by rw [hi.omem i b h]; simp)
    ofr := fun t b hb => by
      try dsimp only at hb ⊢
      by_cases ht : t ∈ ds
      · rw [if_pos ht] at hb; cases hb
      · rw [if_neg ht] at hb
        rw [hi.ofr t b hb]
        simp [ht]
    omem := fun i b hb => by rw [hi.omem i b hb]
    nfr := fun t => by split <;> first | exact List.nodup_nil | exact hi.nfr t
    own := fun b hb => by
      have hb' : ow b ≠ none := fun e => hb (by simp only [e])
      obtain ⟨g1, g2, g3⟩ := hi.own b hb'
      exact ⟨g1, Nat.lt_of_lt_of_le g2 hz, g3⟩
    fin := fun b h => Nat.lt_of_lt_of_le (hi.fin b h) hz
    os := h1.trans hi.os
    tape := h2.trans hi.tape
    output := h3.trans hi.output
    size := Nat.le_trans hi.size hz
    keep := fun b h hg => by rw [hh b (Nat.lt_of_lt_of_le h hi.size)]; exact hi.keep b h hg
    defers := h4
    tmps := h5 }

end
end Go.Eng
end

section
/- An element's inner list, taken out of a list: the list keeps its header, told; what it leads to stands apart. -/
set_option linter.unusedVariables false
set_option linter.unusedSimpArgs false
namespace Go.Eng
open Go.RowKit

section
variable {P : Program} {c : Ctx} {s : St} {Q : Exit → St → Prop} {ops : Array Oper} {rest : List Oper} {o : Oper}

end
end Go.Eng
end

section
/- Calls of readers on own memory; what is told, read by what is known of it. -/
set_option linter.unusedVariables false
set_option linter.unusedSimpArgs false
namespace Go.Eng
open Go.RowKit

section
variable {P : Program} {c : Ctx} {s : St} {Q : Exit → St → Prop} {ops : Array Oper} {rest : List Oper} {o : Oper} {M0 : List (Nat × Blk)} {acc : List Dl}

theorem Conc.raws {a : Act} {w : World} {F β fb mb ow} (hi : Conc c s a w F β fb mb ow) {id : Nat} {vs : List Value} {ts : List T} (hM : lookM s.M id = some (.rawV vs ts)) : RelL w (fun b => b < w.heap.size) vs ts := by
  have hm := hi.mem id
  rw [hM] at hm
  exact OwnL.rel hm fun b' hb' => (hi.own b' (by rw [hi.omem id b' hb']; simp)).2.1
theorem Conc.ros {a : Act} {w : World} {F β fb mb ow} (hi : Conc c s a w F β fb mb ow) {id : Nat} {vs : List Value} {ts : List T} (hM : lookM s.M id = some (.ro vs ts)) : RelL w (fun b => b < w.heap.size) vs ts := by
  have hm := hi.mem id
  rw [hM] at hm
  exact hm.1.mono (fun b hb => hi.fin b hb) fun _ _ => rfl
/-- Cells that are told, with what they own apart, and what is known of it. -/
theorem ViewL.told {id idr : Nat} {vs ws : List Value} {ts us ts' : List T} (hM : lookM s.M id = some (.rawV vs ts)) (hr : lookM s.M idr = some (.ro ws us)) (h : ∀ {w : World} {F : Nat → Prop}, RelL w F vs ts → RelL w F ws us → RelL w F vs ts') {cells : List D} (hc : cells = vs.map fun u => D.t (.v u)) :
    ViewL c s [.agg cells] [.t (.agg ts')] := fun {a w F β fb mb ow} hi zs bs hrd hb => by
  have h1 := h (hi.raws hM) (hi.ros hr)
  subst hc
  cases hrd with
  | agg q0 q1 q2 =>
    cases q2
    have key : ∀ {xs vs : List Value} {bs}, RelD w F β xs (vs.map fun u => D.t (.v u)) bs → xs = vs := by
      intro xs vs
      induction vs generalizing xs with
      | nil => intro bs h; cases h; rfl
      | cons v vs ih =>
        intro bs h
        cases xs with
        | nil => cases h
        | cons x xs =>
          obtain ⟨b1, b2, g1, g2, _⟩ := h.cons
          rw [ih g2]
          cases g1 with
          | t p1 p2 => rw [relL_one p1]
    exact .tagg (by rw [key q1]; exact h1) .done
theorem QG_rem {Q : St → List Dl → Prop} {t ty ty' : Nat} {x y : Operand} {a b : Int} (hg : o.guard = none) (hd : o.dst = some t) (ht : t < c.n) (ho : o.op = .binOp .rem ty x y ty') (hx : opd s.fr x = .t (.v (.int .i64 a))) (hy : opd s.fr y = .t (.v (.int .i64 b)))
    (hb : b ≠ 0) (kk : QG P c ops M0 rest ⟨(t, .t (.v (.int .i64 (a.tmod b)))) :: s.fr, s.M⟩ (acc ++ [pl t (.t (.v (.int .i64 (a.tmod b))))]) Q) : QG P c ops M0 (o :: rest) s acc Q :=
  ⟨pl t _, hd, fun s' ha _ Q h => WO_rem hg hd ht ho (by rw [ha.opd (by rw [ho]; simp [Op.operands])]; exact hx) (by rw [ha.opd (by rw [ho]; simp [Op.operands])]; exact hy) hb h, kk⟩
end
end Go.Eng
end

section
/- Arithmetic of words of any width. -/
set_option linter.unusedVariables false
set_option linter.unusedSimpArgs false
namespace Go.Eng
open Go.RowKit

section
variable {P : Program} {c : Ctx} {s : St} {Q : Exit → St → Prop} {ops : Array Oper} {rest : List Oper} {o : Oper}

def BinIs (P : Program) (op : BinOp) (u1 u2 v : Value) : Prop := ∀ (ty : Nat) (ox oy : Operand) (w : World), ((do eqGuard op ty ox oy u1 u2; binOp op ty u1 u2 : Sem Value)).run P w = .ok v w
theorem WO_binW {t ty ty' : Nat} {op : BinOp} {x y : Operand} {u1 u2 v : Value} (hg : o.guard = none) (hd : o.dst = some t) (ht : t < c.n) (ho : o.op = .binOp op ty x y ty') (hx : opd s.fr x = .t (.v u1)) (hy : opd s.fr y = .t (.v u2)) (hv : BinIs P op u1 u2 v) (hone : v.oneCell' = true)
    (kk : WO P c ops rest ⟨(t, .t (.v v)) :: s.fr, s.M⟩ Q) : WO P c ops (o :: rest) s Q := by
  refine WO_val hg hd ht _ (fun a' w F β fb mb ow hi => ?_) kk
  refine ⟨v, ?_, .t (.v hone .nil) .done⟩
  have e1 := eval_v hi hx
  have e2 := eval_v hi hy
  simp only [execOp, ho, e1, e2]
  have := hv ty x y w
  simp only [Sem.run_bind] at this ⊢
  revert this
  cases h : (eqGuard op ty x y u1 u2).run P w <;> simp_all [Result.andThen]
theorem QL_binW {Q : St → Prop} {t ty ty' : Nat} {op : BinOp} {x y : Operand} {u1 u2 v : Value} (hg : o.guard = none) (hd : o.dst = some t) (ht : t < c.n) (ho : o.op = .binOp op ty x y ty') (hx : opd s.fr x = .t (.v u1)) (hy : opd s.fr y = .t (.v u2)) (hv : BinIs P op u1 u2 v) (hone : v.oneCell' = true)
    (kk : QL P c ops rest ⟨(t, .t (.v v)) :: s.fr, s.M⟩ Q) : QL P c ops (o :: rest) s Q :=
  ⟨t, _, hd, fun s' ha Q h => WO_binW hg hd ht ho (by rw [ha.opd (by rw [ho]; simp [Op.operands])]; exact hx) (by rw [ha.opd (by rw [ho]; simp [Op.operands])]; exact hy) hv hone h, kk⟩
theorem binAdd {k : IntKind} {a b : Int} : BinIs P .add (.int k a) (.int k b) (.int k (k.wrap (a + b))) := fun ty ox oy w => by
  simp [eqGuard, binOp, Op.intArith]
theorem binShr {k k2 : IntKind} {a b : Int} (hb : ¬ b < 0) : BinIs P .shr (.int k a) (.int k2 b) (.int k (a.fdiv (2 ^ min b.toNat k.bits))) := fun ty ox oy w => by
  simp [eqGuard, binOp, Op.shift, hb]
theorem binAnd {k : IntKind} {a b : Int} : BinIs P .and (.int k a) (.int k b) (.int k (k.wrap ((BitVec.ofInt k.bits a &&& BitVec.ofInt k.bits b).toNat : Nat))) := fun ty ox oy w => by
  simp [eqGuard, binOp, Op.intBits]
theorem WO_convId {src dst t : Nat} {x : Operand} {td : TypeDesc} {k k0 : IntKind} {n m : Int} (hg : o.guard = none) (hd : o.dst = some t) (ht : t < c.n) (ho : o.op = .convert src dst x)
    (h1 : P.underlying src = some td) (h2 : P.underlying dst = some (.int k)) (hx : opd s.fr x = .t (.v (.int k0 n))) (hw : k.wrap n = m)
    (kk : WO P c ops rest ⟨(t, .t (.v (.int k m))) :: s.fr, s.M⟩ Q) : WO P c ops (o :: rest) s Q := by
  subst hw; exact WO_conv hg hd ht ho h1 h2 hx kk
theorem QL_convId {Q : St → Prop} {src dst t : Nat} {x : Operand} {td : TypeDesc} {k k0 : IntKind} {n m : Int} (hg : o.guard = none) (hd : o.dst = some t) (ht : t < c.n) (ho : o.op = .convert src dst x)
    (h1 : P.underlying src = some td) (h2 : P.underlying dst = some (.int k)) (hx : opd s.fr x = .t (.v (.int k0 n))) (hw : k.wrap n = m)
    (kk : QL P c ops rest ⟨(t, .t (.v (.int k m))) :: s.fr, s.M⟩ Q) : QL P c ops (o :: rest) s Q :=
  ⟨t, _, hd, fun s' ha Q h => WO_convId hg hd ht ho h1 h2 (by rw [ha.opd (by rw [ho]; simp [Op.operands])]; exact hx) hw h, kk⟩
end
end Go.Eng
end

section
/- Regions of open order that write, with a tail in order. -/
set_option linter.unusedVariables false
set_option linter.unusedSimpArgs false
namespace Go.Eng
open Go.RowKit

section
variable {P : Program} {c : Ctx} {s : St} {Q : Exit → St → Prop}
end
end Go.Eng
end

section
/- A struct that is read, of which some cells are not told. -/
set_option linter.unusedVariables false
set_option linter.unusedSimpArgs false
namespace Go.Eng
open Go.RowKit

section
variable {P : Program} {c : Ctx} {s : St} {Q : Exit → St → Prop} {ops : Array Oper} {rest : List Oper} {o : Oper}

end
end Go.Eng
end

section
/- Functions that are lent memory and answer what is then only read. -/
set_option linter.unusedVariables false
set_option linter.unusedSimpArgs false
namespace Go.Eng
open Go.RowKit

/-- As Proc; but the answer may be read only. -/
def ProcF (P : Program) (f : FuncId) (ds : List D) (rv : List Value) (rt : List T) (ks : List Blk) (r : D) (ks' : List Blk) : Prop :=
  Callable P f ∧ ∀ (w : World) (F : Nat → Prop) (args : Array Value) (bs : List Nat), (∀ b, F b → b < w.heap.size) → RelD w F nowhere args.toList ds [] → RelL w F rv rt → RelMs w ks bs → bs.Nodup → (∀ b, b ∈ bs → b < w.heap.size ∧ ¬ F b) →
    Calls P f args w fun e w' => ∃ v F' br bs', e = .returned v ∧ (∀ b, F b → F' b) ∧ (∀ b, F' b → F b ∨ b ∈ bs ∨ w.heap.size ≤ b) ∧ (∀ b, F' b → b < w'.heap.size) ∧ RelD w' F' nowhere [v] [r] br ∧ RelMs w' ks' bs' ∧ (br ++ bs').Nodup ∧ (∀ b, b ∈ br ++ bs' → ¬ F' b ∧ (b ∈ bs ∨ (w.heap.size ≤ b ∧ b < w'.heap.size))) ∧
      w'.os = w.os ∧ w'.tape = w.tape ∧ w'.output = w.output ∧ w.heap.size ≤ w'.heap.size ∧ ∀ b, b < w.heap.size → b ∉ bs → w'.heap[b]? = w.heap[b]?

section
variable {P : Program} {c : Ctx} {s : St} {Q : Exit → St → Prop} {ops : Array Oper} {rest : List Oper} {o : Oper}

/-- How such a body must end. -/
def EndsPF (Γ : Tys) (fn : Func) (ids : List Nat) (r : D) (ks' : List Blk) : Exit → St → Prop
  | .normal, s | .ret, s => ∃ ds' ys, RetOk Γ s fn.results.toList ds' ys ∧ tupD ds' = r ∧ ys.Nodup ∧ D.closed.closedL ds' = true ∧ LookMs s.M ids ks' ∧ ∀ id, id ∈ ids → Sum.inr id ∉ ys
  | _, _ => False
theorem ProcF.intro {Γ : Tys} (hΓ : Γ.ok P) {f : FuncId} {fn : Func} {code : Code} (hf : P.funcs[f]? = some fn) (hb : fn.body = some code) (hname : (fn.name == "runtime.NumGoroutine") = false) {N : Nat} {ds : List D} {rv : List Value} {rt : List T} {ks : List Blk} {r : D} {ks' : List Blk} (ids : List Nat) (rid : Nat) (fr : List (Nat × D)) (M : List (Nat × Blk))
    (hN : ds.length + (fn.ntmps - ds.length) = N) (hfr : (List.range ds.length).zip ds = fr) (hM : ids.zip ks ++ [(rid, .ro rv rt)] = M) (hids : ids.length = ks.length) (hnd : ids.Nodup) (hrid : rid ∉ ids) (hsh : ks.all Blk.shut = true)
    (h : ∀ w0 G F0, W P ⟨w0, G, F0, N⟩ code ⟨fr, M⟩ (EndsPF Γ fn ids r ks')) : ProcF P f ds rv rt ks r ks' := by
  classical
  subst hfr hM
  refine ⟨⟨fn, hf, by rw [hb]; rfl, hname⟩, ?_⟩
  intro w F args bs hF hargs hrd hms hbn hblt
  have hlen := hargs.length
  simp only [Array.length_toList] at hlen
  obtain ⟨mb0, hmb, rfl⟩ := relMs_split hids hnd hms
  have hshut : ∀ p, p ∈ ids.zip ks → p.2.shut = true := fun p hp => by
    rw [List.all_eq_true] at hsh
    exact hsh p.2 (List.of_mem_zip (a := p.1) (b := p.2) hp).2
  have hin : ∀ {i b}, i ∈ ids → b ∈ mb0 i → b ∈ ids.flatMap mb0 := fun hi hb => List.mem_flatMap.2 ⟨_, hi, hb⟩
  refine calls_of_wp hf hb ?_
  have h0 : Is ⟨w, fun b => b ∈ ids.flatMap mb0, F, N⟩ ⟨(List.range ds.length).zip ds, ids.zip ks ++ [(rid, .ro rv rt)]⟩ { tmps := args ++ Array.replicate (fn.ntmps - args.size) undef, defers := [] } w := by
    refine ⟨F, fun _ => none, fun _ => [], fun i => if i ∈ ids then mb0 i else [], fun b => if h : ∃ i, i ∈ ids ∧ b ∈ mb0 i then some (.inr h.choose) else none, ?_⟩
    have hlook : ∀ (l : List D) (k t : Nat), look ((List.range' k l.length).zip l) (k + t) = (l[t]?).getD .top := by
      intro l
      induction l with
      | nil => intro k t; simp [look]
      | cons d l ih =>
        intro k t
        rw [List.length_cons, List.range'_succ, List.zip_cons_cons]
        simp only [look]
        cases t with
        | zero => simp
        | succ t =>
          rw [if_neg (by omega), show k + (t + 1) = k + 1 + t from by omega, ih]
          simp
    have hl0 : ∀ t, look ((List.range ds.length).zip ds) t = (ds[t]?).getD .top := fun t => by
      have := hlook ds 0 t
      simpa [List.range_eq_range'] using this
    exact {
      fr := fun t => by
        rw [hl0]
        cases hd : ds[t]? with
        | none => exact .top .done
        | some d =>
          have hlt := (List.getElem?_eq_some_iff.1 hd).1
          obtain ⟨v, h1, h2⟩ := hargs.get0 t hd
          have hlt2 : t < args.size := by rw [hlen]; exact hlt
          have hv : (args ++ Array.replicate (fn.ntmps - args.size) undef).getD t undef = v := by
            rw [Array.getD_eq_getD_getElem?, Array.getElem?_append_left hlt2]
            have : args[t]? = some v := by simpa using h1
            rw [this]; rfl
          rw [hv]
          exact h2
      mem := fun i => by
        by_cases hi : i ∈ ids
        · obtain ⟨k, h1, h2⟩ := lookM_zip (M := [(rid, .ro rv rt)]) hids hi
          rw [h1]
          simp only [if_pos hi]
          exact (hmb _ h2).shut (hshut _ h2)
        · rw [lookM_zip' hi]
          simp only [lookM, if_neg hi]
          by_cases hr : rid = i
          · rw [if_pos hr]; exact ⟨hrd, rfl⟩
          · rw [if_neg hr]; trivial
      ofr := by simp
      omem := fun i b hb => by
        split at hb
        · rename_i hi
          have hex : ∃ i, i ∈ ids ∧ b ∈ mb0 i := ⟨i, hi, hb⟩
          rw [dif_pos hex]
          have := hex.choose_spec
          rw [flat_uniq hbn this.1 hi this.2 hb]
        · cases hb
      nfr := by simp
      nmem := fun i => by
        split
        · rename_i hi; exact flat_nodup_at hbn hi
        · simp
      own := fun b hb => by
        split at hb
        · rename_i hex
          obtain ⟨h1, h2⟩ := hex.choose_spec
          have := hblt b (hin h1 h2)
          exact ⟨this.2, this.1, .inr (hin h1 h2)⟩
        · exact absurd rfl hb
      fin := hF
      f0 := fun _ h => h
      fnew := fun _ h => .inl h
      f0in := fun b h => ⟨hF b h, fun h2 => (hblt b h2).2 h⟩
      gin := fun b h => (hblt b h).1
      os := rfl
      tape := rfl
      output := rfl
      size := Nat.le_refl _
      keep := fun _ _ _ => rfl
      defers := rfl
      tmps := by simp [hlen, hN] }
  refine Code.wp_mono ?_ (h w _ F _ _ h0)
  rintro e a' w' ⟨s', ⟨F', β, fb, mb, ow, hi⟩, hq⟩
  have key : (∃ ds' ys, RetOk Γ s' fn.results.toList ds' ys ∧ tupD ds' = r ∧ ys.Nodup ∧ D.closed.closedL ds' = true ∧ LookMs s'.M ids ks' ∧ ∀ id, id ∈ ids → Sum.inr id ∉ ys) → a'.defers = [] ∧ ∃ v, (results fn a'.tmps).run P w' = .ok v w' ∧
      ∃ v' F'' br bs', Ending.returned v = .returned v' ∧ (∀ b, F b → F'' b) ∧ (∀ b, F'' b → F b ∨ b ∈ ids.flatMap mb0 ∨ w.heap.size ≤ b) ∧ (∀ b, F'' b → b < w'.heap.size) ∧ RelD w' F'' nowhere [v'] [r] br ∧ RelMs w' ks' bs' ∧ (br ++ bs').Nodup ∧ (∀ b, b ∈ br ++ bs' → ¬ F'' b ∧ (b ∈ ids.flatMap mb0 ∨ (w.heap.size ≤ b ∧ b < w'.heap.size))) ∧
      w'.os = w.os ∧ w'.tape = w.tape ∧ w'.output = w.output ∧ w.heap.size ≤ w'.heap.size ∧ ∀ b, b < w.heap.size → b ∉ ids.flatMap mb0 → w'.heap[b]? = w.heap[b]? := by
    rintro ⟨ds', ys, h1, hr, h2, h3, h4, h5⟩
    obtain ⟨vs, br, q1, q2, q3, q4⟩ := ret_vals hΓ hi h1 h2
    have q5 := q2.closed (β' := nowhere) h3
    have hres := results_run (P := P) fn a'.tmps q1
    have hfn : (ids.flatMap mb).Nodup := flat_nodup hnd (fun i _ => hi.nmem i) fun i j b _ _ h6 h7 => by
      have e1 := hi.omem i b h6
      rw [hi.omem j b h7] at e1
      cases e1; rfl
    refine ⟨hi.defers, _, hres, _, F', br, ids.flatMap mb, rfl, hi.f0, fun b hb => ?_, hi.fin, ?_, relMs_of h4.len fun p hp => ?_, List.nodup_append.2 ⟨q3, hfn, fun p hp q hq e => ?_⟩, fun b hb => ?_, hi.os, hi.tape, hi.output, hi.size, fun b hb hn => hi.keep b hb hn⟩
    · rcases hi.fnew b hb with h | h | h
      · exact .inl h
      · exact .inr (.inr h)
      · exact .inr (.inl h)
    · rw [← hr]
      have hl := q5.length
      match vs, ds', hl, q5 with
      | [], [], _, q5 => cases q5; exact RelD.tup (arr := #[]) (l := []) .done .done
      | [v], [d], _, q5 => exact q5
      | v :: v2 :: vs, d :: d2 :: ds', _, q5 => simpa [tupD] using RelD.tup (arr := (v :: v2 :: vs).toArray) q5 .done
    · obtain ⟨g1, g2⟩ := h4.at p hp
      have := hi.mem p.1
      rw [g1] at this
      exact this.shut g2
    · subst e
      obtain ⟨y, g1, g2⟩ := q4 p hp
      obtain ⟨i, hii, hpi⟩ := List.mem_flatMap.1 hq
      rw [hi.omem i p hpi] at g1
      cases g1
      exact h5 i hii g2
    · have : ow b ≠ none := by
        rcases List.mem_append.1 hb with hb | hb
        · obtain ⟨y, g1, _⟩ := q4 b hb; rw [g1]; simp
        · obtain ⟨i, hii, hpi⟩ := List.mem_flatMap.1 hb; rw [hi.omem i b hpi]; simp
      obtain ⟨g1, g2, g3⟩ := hi.own b this
      exact ⟨g1, g3.symm.imp (fun h => h) fun h => ⟨h, g2⟩⟩
  cases e with
  | normal => exact key hq
  | ret => exact key hq
  | _ => exact hq.elim

/-- What is handed over: told values, or places. -/
inductive ResQ (s : St) : List D → List D → Prop
  | done : ResQ s [] []
  | t {x ds es} : ResQ s ds es → ResQ s (.t x :: ds) (.t x :: es)
  | nil {ds es} (n : Nat) : ResQ s ds es → ResQ s (.nil :: ds) (.t (.list n []) :: es)
  | pin {id i off b n cc ds es} (pid : Nat) : lookM s.M pid = some (.pin id b n cc) → ResQ s ds es → ResQ s (.ref id i off :: ds) (.t (.v (.pointer (some ⟨b, i * n + off, none⟩))) :: es)
theorem ResQ.pin0 {id b n cc ds es} (pid : Nat) (h : lookM s.M pid = some (.pin id b n cc)) (k : ResQ s ds es) : ResQ s (.ref id 0 0 :: ds) (.t (.v (.pointer (some ⟨b, 0, none⟩))) :: es) := by
  have := ResQ.pin (i := 0) (off := 0) pid h k
  rwa [Nat.zero_mul] at this
theorem ResQ.sound {a : Act} {w : World} {F β fb mb ow} (hi : Conc c s a w F β fb mb ow) {ds es : List D} (h : ResQ s ds es) : ∀ {vs bs}, RelD w F β vs ds bs → RelD w F nowhere vs es [] := by
  induction h with
  | done => intro vs bs hr; cases hr; exact .done
  | t _ ih =>
    intro vs bs hr
    cases hr with
    | t h1 h2 => exact .t h1 (ih h2)
    | tagg h1 h2 => exact .tagg h1 (ih h2)
  | nil n _ ih =>
    intro vs bs hr
    cases hr with
    | nil h2 => exact .t (.none .nil) (ih h2)
  | @pin id i off b n cc ds es pid hM _ ih =>
    intro vs bs hr
    have hm := hi.mem pid
    rw [hM] at hm
    cases hr with
    | ref q1 q2 =>
      have := hm.1
      rw [this] at q1
      cases q1
      exact .t (.v rfl .nil) (ih q2)

end
end Go.Eng
end

section
/- A list that has a name is from now on only read; what is read, read by what is known of a cell. -/
set_option linter.unusedVariables false
set_option linter.unusedSimpArgs false
namespace Go.Eng
open Go.RowKit

section
variable {P : Program} {c : Ctx} {s : St} {Q : Exit → St → Prop} {ops : Array Oper} {rest : List Oper} {o : Oper}

end
end Go.Eng
end

section
/- Structs of two whole numbers, compared with themselves. -/
set_option linter.unusedVariables false
set_option linter.unusedSimpArgs false
namespace Go.Eng
open Go.RowKit

section
variable {P : Program} {c : Ctx} {s : St} {Q : Exit → St → Prop} {ops : Array Oper} {rest : List Oper} {o : Oper}

theorem QG_quoN {Q : St → List Dl → Prop} {M0 : List (Nat × Blk)} {acc : List Dl} {t ty ty' : Nat} {x y : Operand} {a b m : Int} (hg : o.guard = none) (hd : o.dst = some t) (ht : t < c.n) (ho : o.op = .binOp .quo ty x y ty') (hx : opd s.fr x = .t (.v (.int .i64 a))) (hy : opd s.fr y = .t (.v (.int .i64 b)))
    (hb : b ≠ 0) (hw : IntKind.i64.wrap (a.tdiv b) = m) (kk : QG P c ops M0 rest ⟨(t, .t (.v (.int .i64 m))) :: s.fr, s.M⟩ (acc ++ [pl t (.t (.v (.int .i64 m)))]) Q) : QG P c ops M0 (o :: rest) s acc Q := by
  subst hw
  exact ⟨pl t _, hd, fun s' ha _ Q h => WO_quo hg hd ht ho (by rw [ha.opd (by rw [ho]; simp [Op.operands])]; exact hx) (by rw [ha.opd (by rw [ho]; simp [Op.operands])]; exact hy) hb h, kk⟩
end
end Go.Eng
end

section
/- Runs of operations in order, cut in two: where ways meet. -/
set_option linter.unusedVariables false
set_option linter.unusedSimpArgs false
namespace Go.Eng
open Go.RowKit

section
variable {P : Program} {c : Ctx} {s : St} {Q : Exit → St → Prop} {ops : Array Oper} {rest : List Oper} {o : Oper}

end
end Go.Eng
end

section
/- Functions whose answer is one of many: what is told of it is a property; the rules for their calls. -/
set_option linter.unusedVariables false
set_option linter.unusedSimpArgs false
namespace Go.Eng
open Go.RowKit

/-- A function that reads what it is given, and answers new memory: what some x with a property says. -/
def PureX {α : Type} (P : Program) (f : FuncId) (ds : List D) (r : α → D) (p : α → Prop) : Prop :=
  ∀ (w : World) (F : Nat → Prop) (args : Array Value), (∀ b, F b → b < w.heap.size) → RelD w F (fun _ => none) args.toList ds [] →
    Calls P f args w fun e w' => ∃ x v F' bs, p x ∧ e = .returned v ∧ Below w.heap.size w w' ∧ (∀ b, F b → F' b) ∧ (∀ b, F' b → F b ∨ (w.heap.size ≤ b ∧ b < w'.heap.size)) ∧
      RelD w' F' (fun _ => none) [v] [r x] bs ∧ bs.Nodup ∧ ∀ b, b ∈ bs → w.heap.size ≤ b ∧ b < w'.heap.size ∧ ¬ F' b
def FunX {α : Type} (P : Program) (f : FuncId) (ds : List D) (r : α → D) (p : α → Prop) : Prop := Callable P f ∧ PureX P f ds r p
section
variable {P : Program} {c : Ctx} {ops : Array Oper} {rest : List Oper} {s : St} {Q : Exit → St → Prop} {o : Oper}

/-- How a body must end then. -/
def EndsX {α : Type} (Γ : Tys) (fn : Func) (ds : α → List D) (p : α → Prop) (e : Exit) (s : St) : Prop := ∃ x, p x ∧ Ends Γ fn (ds x) e s
theorem EndsX.of {α : Type} {Γ : Tys} {fn : Func} {ds : α → List D} {p : α → Prop} {e : Exit} (x : α) (hx : p x) (h : Ends Γ fn (ds x) e s) : EndsX Γ fn ds p e s := ⟨x, hx, h⟩

theorem FunX.intro {α : Type} {p : α → Prop} {Γ : Tys} (hΓ : Γ.ok P) {f : FuncId} {fn : Func} {code : Code} (hf : P.funcs[f]? = some fn) (hb : fn.body = some code) (hname : (fn.name == "runtime.NumGoroutine") = false) {N : Nat} {ds : List D} {rs : α → List D} (hN : ds.length + (fn.ntmps - ds.length) = N)
    (h : ∀ w0 G F0, W P ⟨w0, G, F0, N⟩ code ⟨(List.range ds.length).zip ds, []⟩ (EndsX Γ fn rs p)) : FunX P f ds (fun x => tupD (rs x)) p := by
  refine ⟨⟨fn, hf, by rw [hb]; rfl, hname⟩, ?_⟩
  intro w F args hF hargs
  have hlen := hargs.length
  simp only [Array.length_toList] at hlen
  refine calls_of_wp hf hb ?_
  have h0 : Is ⟨w, fun _ => False, F, N⟩ ⟨(List.range ds.length).zip ds, []⟩ { tmps := args ++ Array.replicate (fn.ntmps - args.size) undef, defers := [] } w := by
    refine ⟨F, fun _ => none, fun _ => [], fun _ => [], fun _ => none, ?_⟩
    have hlook : ∀ (l : List D) (k t : Nat), look ((List.range' k l.length).zip l) (k + t) = (l[t]?).getD .top := by
      intro l
      induction l with
      | nil => intro k t; simp [look]
      | cons d l ih =>
        intro k t
        rw [List.length_cons, List.range'_succ, List.zip_cons_cons]
        simp only [look]
        cases t with
        | zero => simp
        | succ t =>
          rw [if_neg (by omega), show k + (t + 1) = k + 1 + t from by omega, ih]
          simp
    have hl0 : ∀ t, look ((List.range ds.length).zip ds) t = (ds[t]?).getD .top := fun t => by
      have := hlook ds 0 t
      simpa [List.range_eq_range'] using this
    exact {
      fr := fun t => by
        rw [hl0]
        cases hd : ds[t]? with
        | none => exact .top .done
        | some d =>
          have hlt := (List.getElem?_eq_some_iff.1 hd).1
          obtain ⟨v, h1, h2⟩ := hargs.get0 t hd
          have hlt2 : t < args.size := by rw [hlen]; exact hlt
          have hv : (args ++ Array.replicate (fn.ntmps - args.size) undef).getD t undef = v := by
            rw [Array.getD_eq_getD_getElem?, Array.getElem?_append_left hlt2]
            have : args[t]? = some v := by simpa using h1
            rw [this]; rfl
          rw [hv]
          exact h2
      mem := fun id => rfl
      ofr := by simp
      omem := by simp
      nfr := by simp
      nmem := by simp
      own := by simp
      fin := hF
      f0 := fun _ h => h
      fnew := fun _ h => .inl h
      f0in := fun b h => ⟨hF b h, by simp⟩
      gin := by simp
      os := rfl
      tape := rfl
      output := rfl
      size := Nat.le_refl _
      keep := fun _ _ _ => rfl
      defers := rfl
      tmps := by simp [hlen, hN] }
  refine Code.wp_mono ?_ (h w (fun _ => False) F _ _ h0)
  rintro e a' w' ⟨s', ⟨F', β, fb, mb, ow, hi⟩, hq⟩
  have key : ∀ x, p x → ∀ ys, RetOk Γ s' fn.results.toList (rs x) ys → ys.Nodup → D.closed.closedL (rs x) = true → a'.defers = [] ∧ ∃ v, (results fn a'.tmps).run P w' = .ok v w' ∧
      ∃ x v' F'' bs, p x ∧ Ending.returned v = .returned v' ∧ Below w.heap.size w w' ∧ (∀ b, F b → F'' b) ∧ (∀ b, F'' b → F b ∨ (w.heap.size ≤ b ∧ b < w'.heap.size)) ∧
      RelD w' F'' (fun _ => none) [v'] [tupD (rs x)] bs ∧ bs.Nodup ∧ ∀ b, b ∈ bs → w.heap.size ≤ b ∧ b < w'.heap.size ∧ ¬ F'' b := by
    intro x hx ys h1 h2 h3
    obtain ⟨vs, bs, q1, q2, q3, q4⟩ := ret_vals hΓ hi h1 h2
    have q5 := q2.closed (β' := fun _ => none) h3
    have hres := results_run (P := P) fn a'.tmps q1
    refine ⟨hi.defers, _, hres, x, _, F', bs, hx, rfl, ⟨hi.os, hi.tape, hi.output, hi.size, fun b hb => hi.keep b hb (by simp)⟩, hi.f0, fun b hb => ?_, ?_, q3, fun b hb => ?_⟩
    · rcases hi.fnew b hb with h | h | h
      · exact .inl h
      · exact .inr ⟨h, hi.fin b hb⟩
      · exact h.elim
    · have hl := q5.length
      generalize rs x = rs' at hl q5
      match vs, rs', hl, q5 with
      | [], [], _, q5 => cases q5; exact RelD.tup (arr := #[]) (l := []) .done .done
      | [v], [d], _, q5 => exact q5
      | v :: v2 :: vs, d :: d2 :: ds', _, q5 => simpa [tupD] using RelD.tup (arr := (v :: v2 :: vs).toArray) q5 .done
    · obtain ⟨y, h5, _⟩ := q4 b hb
      obtain ⟨h6, h7, h8⟩ := hi.own b (by rw [h5]; simp)
      exact ⟨h8.resolve_right (by simp), h7, h6⟩
  cases e with
  | normal => obtain ⟨x, hx, ys, h1, h2, h3⟩ := hq; exact key x hx ys h1 h2 h3
  | ret => obtain ⟨x, hx, ys, h1, h2, h3⟩ := hq; exact key x hx ys h1 h2 h3
  | _ => obtain ⟨x, hx, hq⟩ := hq; exact hq.elim


theorem FunX.begin {α : Type} {p : α → Prop} {Γ : Tys} (hΓ : Γ.ok P) {f : FuncId} {fn : Func} {code : Code} (hf : P.funcs[f]? = some fn) (hb : fn.body = some code) (hname : (fn.name == "runtime.NumGoroutine") = false) {N : Nat} {ds : List D} {rs : α → List D} (fr : List (Nat × D)) (hN : ds.length + (fn.ntmps - ds.length) = N)
    (hfr : (List.range ds.length).zip ds = fr)
    (h : ∀ w0 G F0, W P ⟨w0, G, F0, N⟩ code ⟨fr, []⟩ (EndsX Γ fn rs p)) : FunX P f ds (fun x => tupD (rs x)) p := by
  subst hfr
  exact FunX.intro hΓ hf hb hname hN h

end
end Go.Eng
end

section
/- An answer that is owned may be taken as one that is only read. -/
set_option linter.unusedVariables false
set_option linter.unusedSimpArgs false
namespace Go.Eng
open Go.RowKit

theorem frz_rel {w : World} {F : Nat → Prop} {β : Place} {v : Value} {d d' : D} {bs : List Nat} (h : frz d = some d') (hr : RelD w F β [v] [d] bs) : RelD w (fun b => F b ∨ b ∈ bs) β [v] [d'] [] := by
  unfold frz at h
  split at h
  · cases h
    cases hr with
    | own q1 q2 => cases q2; exact .t (q1.rel fun b hb => .inr (by simpa using hb)) .done
  · split at h
    · rename_i ts hts
      cases h
      cases hr with
      | agg h0 q1 q2 => cases q2; exact .tagg ((frzL_rel q1 hts h0).mono (w := w) (w' := w) (fun b hb => by simpa using hb) fun _ _ => rfl) .done
    · cases h
  · cases h
/-- What of it is owned, as data that is only read. -/
def frzC : D → Option D
  | .t x => some (.t x)
  | .agg l => (frzL l).map fun ts => .agg (ts.map .t)
  | d => frz d
def frzCs : List D → Option (List D)
  | [] => some []
  | d :: ds => match frzC d with
    | some x => match frzCs ds with
      | some xs => some (x :: xs)
      | none => none
    | none => none
def frzR : D → Option D
  | .tup l => (frzCs l).map .tup
  | d => frzC d
theorem frzC_rel {w : World} {F : Nat → Prop} {β : Place} {v : Value} {d d' : D} {bs : List Nat} (h : frzC d = some d') (hr : RelD w F β [v] [d] bs) : RelD w (fun b => F b ∨ b ∈ bs) β [v] [d'] [] := by
  unfold frzC at h
  split at h
  · cases h
    have hb := hr.free1 rfl
    subst hb
    exact hr.mono (w := w) (w' := w) (fun _ h => .inl h) (fun _ _ => rfl) (fun _ _ => rfl) fun _ => rfl
  · rename_i l
    cases hl : frzL l with
    | none => rw [hl] at h; cases h
    | some ts =>
      rw [hl] at h
      cases h
      cases hr with
      | agg h0 q1 q2 =>
        cases q2
        exact .agg h0 (relD_ts ((frzL_rel q1 hl h0).mono (w := w) (w' := w) (fun b hb => by simpa using hb) fun _ _ => rfl)) .done
  · exact frz_rel h hr
theorem frzCs_rel {w : World} {F : Nat → Prop} {β : Place} : ∀ {ds ds' : List D} {vs : List Value} {bs : List Nat}, frzCs ds = some ds' → RelD w F β vs ds bs → RelD w (fun b => F b ∨ b ∈ bs) β vs ds' []
  | [], ds', vs, bs, h, hr => by
    cases h
    cases hr
    exact .done
  | d :: ds, ds', vs, bs, h, hr => by
    obtain ⟨v, vs', rfl⟩ : ∃ v vs', vs = v :: vs' := by
      have := hr.length
      cases vs with
      | nil => simp at this
      | cons v vs => exact ⟨v, vs, rfl⟩
    obtain ⟨b1, b2, h1, h2, rfl⟩ := hr.cons
    unfold frzCs at h
    split at h
    · rename_i x hx
      split at h
      · rename_i xs hxs
        cases h
        have e1 := (frzC_rel hx h1).mono (w := w) (w' := w) (F' := fun b => F b ∨ b ∈ b1 ++ b2) (β' := β) (fun b hb => by rcases hb with hb | hb; exact .inl hb; exact .inr (by simp [hb])) (fun _ _ => rfl) (fun _ _ => rfl) fun _ => rfl
        have e2 := (frzCs_rel hxs h2).mono (w := w) (w' := w) (F' := fun b => F b ∨ b ∈ b1 ++ b2) (β' := β) (fun b hb => by rcases hb with hb | hb; exact .inl hb; exact .inr (by simp [hb])) (fun _ _ => rfl) (fun _ _ => rfl) fun _ => rfl
        exact RelD.cons' e1 e2
      · cases h
    · cases h
theorem frzR_rel {w : World} {F : Nat → Prop} {β : Place} {v : Value} {d d' : D} {bs : List Nat} (h : frzR d = some d') (hr : RelD w F β [v] [d] bs) : RelD w (fun b => F b ∨ b ∈ bs) β [v] [d'] [] := by
  unfold frzR at h
  split at h
  · rename_i l
    cases hl : frzCs l with
    | none => rw [hl] at h; cases h
    | some l' =>
      rw [hl] at h
      cases h
      cases hr with
      | tup q1 q2 =>
        cases q2
        exact .tup ((frzCs_rel hl q1).mono (w := w) (w' := w) (fun b hb => by simpa using hb) (fun _ _ => rfl) (fun _ _ => rfl) fun _ => rfl) .done
  · exact frzC_rel h hr
theorem Fun.frz {P : Program} {f : FuncId} {ds : List D} {r r' : D} (h : Fun P f ds r) (hr : frzR r = some r') : Fun P f ds r' := by
  refine ⟨h.1, fun w F args hF hargs => (h.2 w F args hF hargs).mono ?_⟩
  rintro e w' ⟨v, F', bs, rfl, h1, h2, h3, h4, h5, h6⟩
  refine ⟨v, fun b => F' b ∨ b ∈ bs, [], rfl, h1, fun b hb => .inl (h2 b hb), fun b hb => ?_, frzR_rel hr h4, by simp, by simp⟩
  rcases hb with hb | hb
  · exact h3 b hb
  · have := h6 b hb; exact .inr ⟨this.1, this.2.1⟩
/-- What is told of an answer, told otherwise. -/
theorem FunX.imp {α γ : Type} {P : Program} {f : FuncId} {ds : List D} {r : α → D} {p : α → Prop} {r' : γ → D} {p' : γ → Prop} (h : FunX P f ds r p) (hi : ∀ x, p x → ∃ y, p' y ∧ r' y = r x) : FunX P f ds r' p' := by
  refine ⟨h.1, fun w F args hF hargs => (h.2 w F args hF hargs).mono ?_⟩
  rintro e w' ⟨x, v, F', bs, hx, rfl, h1, h2, h3, h4, h5, h6⟩
  obtain ⟨y, hy, e⟩ := hi x hx
  exact ⟨y, v, F', bs, hy, rfl, h1, h2, h3, by rw [e]; exact h4, h5, h6⟩
end Go.Eng
end

section
/- Texts: what is known of them, and the operations on them. -/
set_option linter.unusedVariables false
set_option linter.unusedSimpArgs false
namespace Go.Eng
open Go.RowKit

/-- A text, by its bytes. -/
abbrev T.str (l : List UInt8) : T := .v (.string ⟨⟨l⟩⟩)
abbrev T.byte (b : UInt8) : T := .v (.int .u8 (b.toNat : Int))
def T.text (l : List UInt8) : T := .list 1 (l.map T.byte)

section
variable {P : Program} {c : Ctx} {s : St} {Q : Exit → St → Prop} {ops : Array Oper} {rest : List Oper} {o : Oper} {M0 : List (Nat × Blk)} {acc : List Dl}

theorem binStrAdd {a b : List UInt8} (h : a.length + b.length ≤ 9223372036854775807) : BinIs P .add (.string ⟨⟨a⟩⟩) (.string ⟨⟨b⟩⟩) (.string ⟨⟨a ++ b⟩⟩) := fun ty ox oy w => by
  have h1 : ¬ ((((⟨⟨a⟩⟩ : ByteArray).size + (⟨⟨b⟩⟩ : ByteArray).size : Nat) : Int) > IntKind.i64.max) := by
    have e1 : (⟨⟨a⟩⟩ : ByteArray).size = a.length := rfl
    have e2 : (⟨⟨b⟩⟩ : ByteArray).size = b.length := rfl
    have e3 : IntKind.i64.max = 9223372036854775807 := by decide
    rw [e1, e2, e3]
    omega
  have h2 : ((⟨⟨a⟩⟩ : ByteArray) ++ (⟨⟨b⟩⟩ : ByteArray)) = ⟨⟨a ++ b⟩⟩ := by
    apply ByteArray.ext
    simp
  simp only [eqGuard, binOp, Op.stringOp, if_neg h1, h2]
  simp
theorem strBeq {a b : List UInt8} : ((⟨⟨a⟩⟩ : ByteArray).toList == (⟨⟨b⟩⟩ : ByteArray).toList) = decide (a = b) := by
  rw [ByteArray.toList_eq, ByteArray.toList_eq, Bool.eq_iff_iff, beq_iff_eq, decide_eq_true_eq]
theorem binStrNe {a b : List UInt8} : BinIs P .neq (.string ⟨⟨a⟩⟩) (.string ⟨⟨b⟩⟩) (.bool (!decide (a = b))) := fun ty ox oy w => by
  simp only [eqGuard, binOp, Op.stringOp, strBeq]
  simp
theorem QG_binW {Q : St → List Dl → Prop} {t ty ty' : Nat} {op : BinOp} {x y : Operand} {u1 u2 v : Value} (hg : o.guard = none) (hd : o.dst = some t) (ht : t < c.n) (ho : o.op = .binOp op ty x y ty') (hx : opd s.fr x = .t (.v u1)) (hy : opd s.fr y = .t (.v u2)) (hv : BinIs P op u1 u2 v) (hone : v.oneCell' = true)
    (kk : QG P c ops M0 rest ⟨(t, .t (.v v)) :: s.fr, s.M⟩ (acc ++ [pl t (.t (.v v))]) Q) : QG P c ops M0 (o :: rest) s acc Q :=
  ⟨pl t _, hd, fun s' ha _ Q h => WO_binW hg hd ht ho (by rw [ha.opd (by rw [ho]; simp [Op.operands])]; exact hx) (by rw [ha.opd (by rw [ho]; simp [Op.operands])]; exact hy) hv hone h, kk⟩

/-- The length of a text. -/
theorem WO_strLen {t ty : Nat} {x : Operand} {l : List UInt8} (hg : o.guard = none) (hd : o.dst = some t) (ht : t < c.n) (ho : o.op = .call { callee := .builtin .len, args := #[x], argTypes := #[ty] })
    (h1 : P.underlying ty = some .string) (hx : opd s.fr x = .t (T.str l))
    (k : WO P c ops rest ⟨(t, .t (.int l.length)) :: s.fr, s.M⟩ Q) : WO P c ops (o :: rest) s Q := by
  refine WO_val hg hd ht _ (fun a w F β fb mb ow hi => ⟨.int .i64 l.length, ?_, .t (.v rfl .nil) .done⟩) k
  have e := eval_v hi hx
  simp [execOp, ho, resolve, e, invoke, builtin, Builtin.len_, run_underlying h1, goInt]
  try rfl
/-- Bytes, as a text. -/
theorem run_bytesText {w : World} {F : Nat → Prop} {src dst e : TypeId} {v : Value} {l : List UInt8} (hs : P.underlying src = some (.slice e)) (he : P.underlying e = some (.int .u8)) (hd : P.underlying dst = some .string) (h : RelL w F [v] [T.text l]) :
    (convert src dst v).run P w = .ok (.string ⟨⟨l⟩⟩) w := by
  generalize hy : T.text l = y at h
  cases h with
  | v p1 p2 => cases hy
  | @none a cp n _ _ p =>
    have e0 := (T.list.inj hy).2
    have : l = [] := List.map_eq_nil_iff.1 e0
    subst this
    cases a with
    | none => simp [convert, run_underlying hs, run_underlying hd, run_underlying he, Conv.bytesToString]; rfl
    | some ad => exact run_convert_bytes_back w src dst e ad cp [] hs he hd (fun j hj => absurd hj (Nat.not_lt_zero j))
  | @list b o' cap n cs xs arr e' fz _ _ p1 p2 p3 p4 p5 p6 p7 =>
    obtain ⟨rfl, rfl⟩ := T.list.inj hy
    have hfl : (l.map T.byte).flatMap T.cells = l.map T.byte := by
      clear p1 p2 p3 p4 p5 p6 p7 hy
      induction l with
      | nil => rfl
      | cons x l ih => rw [List.map_cons, List.flatMap_cons, ih]; rfl
    rw [hfl] at p6
    have hcs : cs = l.map fun b => Value.int .u8 (b.toNat : Int) := by
      clear p1 p2 p3 p4 p5 hy hfl
      induction l generalizing cs with
      | nil => cases p6; rfl
      | cons x l ih =>
        cases cs with
        | nil => cases p6
        | cons c0 cs =>
          obtain ⟨q1, q2⟩ := p6.cons
          rw [relL_one q1, ih q2]
          rfl
    subst hcs
    rw [List.length_map] at p5 ⊢
    refine run_convert_bytes_back w src dst e ⟨b, o', none⟩ cap l hs he hd (fun j hj => ?_)
    rw [add_none, cell_of p2, p3 j (by simpa using hj)]
    simp [List.getElem?_eq_getElem hj]
theorem WO_bytesText {src dst e t : Nat} {x : Operand} {l : List UInt8} (hg : o.guard = none) (hd : o.dst = some t) (ht : t < c.n) (ho : o.op = .convert src dst x)
    (h1 : P.underlying src = some (.slice e)) (h2 : P.underlying e = some (.int .u8)) (h3 : P.underlying dst = some .string) (hx : ResL s [opd s.fr x] [.t (T.text l)])
    (k : WO P c ops rest ⟨(t, .t (T.str l)) :: s.fr, s.M⟩ Q) : WO P c ops (o :: rest) s Q := by
  refine WO_val hg hd ht _ (fun a w F β fb mb ow hi => ⟨.string ⟨⟨l⟩⟩, ?_, .t (.v rfl .nil) .done⟩) k
  obtain ⟨bs, hr, h4⟩ := hi.opd x
  have hall := hx.sound hi hr fun b hb => by
    rcases h4 with rfl | ⟨u, _, rfl⟩
    · cases hb
    · exact (hi.own b (by rw [hi.ofr u b hb]; simp)).2.1
  simp only [execOp, ho, Sem.run_bind]
  generalize a.eval x = xv at hall ⊢
  cases hall with
  | t q1 q2 => simp [run_bytesText h1 h2 h3 q1]
end
end Go.Eng
end

section
/- Texts, in a region of open order. -/
set_option linter.unusedVariables false
namespace Go.Eng
open Go.RowKit
section
variable {P : Program} {c : Ctx} {s : St} {ops : Array Oper} {rest : List Oper} {o : Oper} {M0 : List (Nat × Blk)} {acc : List Dl}
end
theorem binILss {P : Program} {k : IntKind} {a b : Int} : BinIs P .lss (.int k a) (.int k b) (.bool (decide (a < b))) := fun ty ox oy w => by
  simp [eqGuard, binOp, Op.intCmp]
theorem binIGtr {P : Program} {k : IntKind} {a b : Int} : BinIs P .gtr (.int k a) (.int k b) (.bool (decide (b < a))) := fun ty ox oy w => by
  simp [eqGuard, binOp, Op.intCmp]
end Go.Eng
end

section
/- Functions that read variables of the program's that are laid: what lies in them is told by a property of the world. -/
set_option linter.unusedVariables false
set_option linter.unusedSimpArgs false
namespace Go.Eng
open Go.RowKit

/-- It goes on holding while nothing of what lies there is written. -/
def Stable (Λ : World → (Nat → Prop) → Prop) : Prop := ∀ w w' F F', Λ w F → Below w.heap.size w w' → (∀ b, F b → F' b) → Λ w' F'

def PureL (P : Program) (Λ : World → (Nat → Prop) → Prop) (f : FuncId) (ds : List D) (r : D) : Prop :=
  ∀ (w : World) (F : Nat → Prop) (args : Array Value), Λ w F → (∀ b, F b → b < w.heap.size) → RelD w F (fun _ => none) args.toList ds [] →
    Calls P f args w fun e w' => ∃ v F' bs, e = .returned v ∧ Below w.heap.size w w' ∧ (∀ b, F b → F' b) ∧ (∀ b, F' b → F b ∨ (w.heap.size ≤ b ∧ b < w'.heap.size)) ∧
      RelD w' F' (fun _ => none) [v] [r] bs ∧ bs.Nodup ∧ ∀ b, b ∈ bs → w.heap.size ≤ b ∧ b < w'.heap.size ∧ ¬ F' b
def FunL (P : Program) (Λ : World → (Nat → Prop) → Prop) (f : FuncId) (ds : List D) (r : D) : Prop := Callable P f ∧ PureL P Λ f ds r
theorem Fun.L {P : Program} {Λ : World → (Nat → Prop) → Prop} {f : FuncId} {ds : List D} {r : D} (h : Fun P f ds r) : FunL P Λ f ds r := ⟨h.1, fun w F args _ h1 h2 => h.2 w F args h1 h2⟩

/-- The same, where what is answered is one of many. -/
def PureLX {α : Type} (P : Program) (Λ : World → (Nat → Prop) → Prop) (f : FuncId) (ds : List D) (r : α → D) (p : α → Prop) : Prop :=
  ∀ (w : World) (F : Nat → Prop) (args : Array Value), Λ w F → (∀ b, F b → b < w.heap.size) → RelD w F (fun _ => none) args.toList ds [] →
    Calls P f args w fun e w' => ∃ x v F' bs, p x ∧ e = .returned v ∧ Below w.heap.size w w' ∧ (∀ b, F b → F' b) ∧ (∀ b, F' b → F b ∨ (w.heap.size ≤ b ∧ b < w'.heap.size)) ∧
      RelD w' F' (fun _ => none) [v] [r x] bs ∧ bs.Nodup ∧ ∀ b, b ∈ bs → w.heap.size ≤ b ∧ b < w'.heap.size ∧ ¬ F' b
def FunLX {α : Type} (P : Program) (Λ : World → (Nat → Prop) → Prop) (f : FuncId) (ds : List D) (r : α → D) (p : α → Prop) : Prop := Callable P f ∧ PureLX P Λ f ds r p

/-- It holds all through the call. -/
structure Keeps (Λ : World → (Nat → Prop) → Prop) (c : Ctx) : Prop where
  g : ∀ b, ¬ c.G b
  k : ∀ w F, Below c.w0.heap.size c.w0 w → (∀ b, c.F0 b → F b) → Λ w F

section
variable {P : Program} {Λ : World → (Nat → Prop) → Prop} {c : Ctx} {s : St} {ops : Array Oper} {rest : List Oper} {o : Oper}
theorem Keeps.at {a : Act} {w : World} {F F' : Nat → Prop} {β : Place} {fb mb : Nat → List Nat} {ow : Nat → Option (Nat ⊕ Nat)} (h : Keeps Λ c) (hi : Conc c s a w F β fb mb ow) (hF : ∀ b, c.F0 b → F' b) : Λ w F' :=
  h.k w F' ⟨hi.os, hi.tape, hi.output, hi.size, fun b hb => hi.keep b hb (h.g b)⟩ hF
end
section
variable {P : Program} {Λ : World → (Nat → Prop) → Prop}

theorem FunL.intro (hst : Stable Λ) {Γ : Tys} (hΓ : Γ.ok P) {f : FuncId} {fn : Func} {code : Code} (hf : P.funcs[f]? = some fn) (hb : fn.body = some code) (hname : (fn.name == "runtime.NumGoroutine") = false) {N : Nat} {ds rs : List D} (hN : ds.length + (fn.ntmps - ds.length) = N)
    (h : ∀ w0 G F0, Keeps Λ ⟨w0, G, F0, N⟩ → W P ⟨w0, G, F0, N⟩ code ⟨(List.range ds.length).zip ds, []⟩ (Ends Γ fn rs)) : FunL P Λ f ds (tupD rs) := by
  refine ⟨⟨fn, hf, by rw [hb]; rfl, hname⟩, ?_⟩
  intro w F args hΛ hF hargs
  have hlen := hargs.length
  simp only [Array.length_toList] at hlen
  refine calls_of_wp hf hb ?_
  have h0 : Is ⟨w, fun _ => False, F, N⟩ ⟨(List.range ds.length).zip ds, []⟩ { tmps := args ++ Array.replicate (fn.ntmps - args.size) undef, defers := [] } w := by
    refine ⟨F, fun _ => none, fun _ => [], fun _ => [], fun _ => none, ?_⟩
    have hlook : ∀ (l : List D) (k t : Nat), look ((List.range' k l.length).zip l) (k + t) = (l[t]?).getD .top := by
      intro l
      induction l with
      | nil => intro k t; simp [look]
      | cons d l ih =>
        intro k t
        rw [List.length_cons, List.range'_succ, List.zip_cons_cons]
        simp only [look]
        cases t with
        | zero => simp
        | succ t =>
          rw [if_neg (by omega), show k + (t + 1) = k + 1 + t from by omega, ih]
          simp
    have hl0 : ∀ t, look ((List.range ds.length).zip ds) t = (ds[t]?).getD .top := fun t => by
      have := hlook ds 0 t
      simpa [List.range_eq_range'] using this
    exact {
      fr := fun t => by
        rw [hl0]
        cases hd : ds[t]? with
        | none => exact .top .done
        | some d =>
          have hlt := (List.getElem?_eq_some_iff.1 hd).1
          obtain ⟨v, h1, h2⟩ := hargs.get0 t hd
          have hlt2 : t < args.size := by rw [hlen]; exact hlt
          have hv : (args ++ Array.replicate (fn.ntmps - args.size) undef).getD t undef = v := by
            rw [Array.getD_eq_getD_getElem?, Array.getElem?_append_left hlt2]
            have : args[t]? = some v := by simpa using h1
            rw [this]; rfl
          rw [hv]
          exact h2
      mem := fun id => rfl
      ofr := by simp
      omem := by simp
      nfr := by simp
      nmem := by simp
      own := by simp
      fin := hF
      f0 := fun _ h => h
      fnew := fun _ h => .inl h
      f0in := fun b h => ⟨hF b h, by simp⟩
      gin := by simp
      os := rfl
      tape := rfl
      output := rfl
      size := Nat.le_refl _
      keep := fun _ _ _ => rfl
      defers := rfl
      tmps := by simp [hlen, hN] }
  refine Code.wp_mono ?_ (h w (fun _ => False) F ⟨fun _ h => h, fun w' F' h1 h2 => hst w w' F F' hΛ h1 h2⟩ _ _ h0)
  rintro e a' w' ⟨s', ⟨F', β, fb, mb, ow, hi⟩, hq⟩
  have key : ∀ ys, RetOk Γ s' fn.results.toList rs ys → ys.Nodup → D.closed.closedL rs = true → a'.defers = [] ∧ ∃ v, (results fn a'.tmps).run P w' = .ok v w' ∧
      ∃ v' F'' bs, Ending.returned v = .returned v' ∧ Below w.heap.size w w' ∧ (∀ b, F b → F'' b) ∧ (∀ b, F'' b → F b ∨ (w.heap.size ≤ b ∧ b < w'.heap.size)) ∧
      RelD w' F'' (fun _ => none) [v'] [tupD rs] bs ∧ bs.Nodup ∧ ∀ b, b ∈ bs → w.heap.size ≤ b ∧ b < w'.heap.size ∧ ¬ F'' b := by
    intro ys h1 h2 h3
    obtain ⟨vs, bs, q1, q2, q3, q4⟩ := ret_vals hΓ hi h1 h2
    have q5 := q2.closed (β' := fun _ => none) h3
    have hres := results_run (P := P) fn a'.tmps q1
    refine ⟨hi.defers, _, hres, _, F', bs, rfl, ⟨hi.os, hi.tape, hi.output, hi.size, fun b hb => hi.keep b hb (by simp)⟩, hi.f0, fun b hb => ?_, ?_, q3, fun b hb => ?_⟩
    · rcases hi.fnew b hb with h | h | h
      · exact .inl h
      · exact .inr ⟨h, hi.fin b hb⟩
      · exact h.elim
    · have hl := q5.length
      match vs, rs, hl, q5 with
      | [], [], _, q5 => cases q5; exact RelD.tup (arr := #[]) (l := []) .done .done
      | [v], [d], _, q5 => exact q5
      | v :: v2 :: vs, d :: d2 :: ds', _, q5 => simpa [tupD] using RelD.tup (arr := (v :: v2 :: vs).toArray) q5 .done
    · obtain ⟨y, h5, _⟩ := q4 b hb
      obtain ⟨h6, h7, h8⟩ := hi.own b (by rw [h5]; simp)
      exact ⟨h8.resolve_right (by simp), h7, h6⟩
  cases e with
  | normal => obtain ⟨ys, h1, h2, h3⟩ := hq; exact key ys h1 h2 h3
  | ret => obtain ⟨ys, h1, h2, h3⟩ := hq; exact key ys h1 h2 h3
  | _ => exact hq.elim
theorem FunL.begin (hst : Stable Λ) {Γ : Tys} (hΓ : Γ.ok P) {f : FuncId} {fn : Func} {code : Code} (hf : P.funcs[f]? = some fn) (hb : fn.body = some code) (hname : (fn.name == "runtime.NumGoroutine") = false) {N : Nat} {ds rs : List D} (fr : List (Nat × D)) (hN : ds.length + (fn.ntmps - ds.length) = N)
    (hfr : (List.range ds.length).zip ds = fr)
    (h : ∀ w0 G F0, Keeps Λ ⟨w0, G, F0, N⟩ → W P ⟨w0, G, F0, N⟩ code ⟨fr, []⟩ (Ends Γ fn rs)) : FunL P Λ f ds (tupD rs) := by
  subst hfr
  exact FunL.intro hst hΓ hf hb hname hN h
end
section
variable {P : Program} {Λ : World → (Nat → Prop) → Prop} {c : Ctx} {s : St} {Q : Exit → St → Prop} {ops : Array Oper} {rest : List Oper} {o : Oper}

theorem WO_callL {t : Nat} {fo : Operand} {args : Array Operand} {tys : Array TypeId} {f : FuncId} {caps es : List D} {r : D} (hg : o.guard = none) (hd : o.dst = some t) (ht : t < c.n)
    (ho : o.op = .call { callee := .value fo, args := args, argTypes := tys }) (hf : opd s.fr fo = .clo f caps) (hes : ResL s (args.toList.map (opd s.fr) ++ caps) es) (hL : Keeps Λ c) (hc : FunL P Λ f es r) (hn : r.noImm = true)
    (k : WO P c ops rest ⟨(t, r) :: s.fr, s.M⟩ Q) : WO P c ops (o :: rest) s Q := by
  rintro a w ⟨F, β, fb, mb, ow, hi⟩
  obtain ⟨bf, hrf, h1⟩ := hi.opd fo
  rw [hf] at hrf
  obtain ⟨arr, bs', hv, hr1, rfl⟩ := relD_append' hrf
  obtain ⟨bs, hr2, h2⟩ := relD_ops hi args.toList
  have hall := hr2.append hr1
  have hsound := hes.sound hi hall fun b hb => by
    rcases List.mem_append.1 hb with hb | hb
    · exact h2 b hb
    · rcases h1 with rfl | ⟨u, _, rfl⟩
      · cases hb
      · exact (hi.own b (by rw [hi.ofr u b hb]; simp)).2.1
  have hrun : (execOp a.eval o).run P w = .ok (.enter f (args.map a.eval ++ arr)) w := by
    simp [execOp, ho, resolve, hv, Deferred.ofValue, invoke, run_callFunc hc.1]
  refine wpList_plain hg fun K hK => ?_
  unfold Oper.wp
  rw [hrun, Oper.upon_enter]
  refine (hc.2 w (fun b => b < w.heap.size) (args.map a.eval ++ arr) (hL.at hi fun b h => hi.fin b (hi.f0 b h)) (fun b h => h) (by simpa using hsound)).mono ?_
  rintro e w' ⟨v, F', bs2, rfl, hb, _, _, hr, hnd, hbs⟩
  dsimp only
  rw [hd]
  refine hK _ _ (k _ _ ⟨F, β, _, mb, _, hi.called ht hb (fun _ h => h) (fun _ h => .inl h) (hr.noImm (by simp [D.noImm.noImmL, hn])) hnd fun b h => ?_⟩)
  obtain ⟨h3, h4, h5⟩ := hbs b h
  exact ⟨h3, h4, fun h6 => by have := hi.fin b h6; omega⟩
/-! ### Whole functions -/
theorem callLB {t : Nat} {fo : Operand} {args : Array Operand} {tys : Array TypeId} {f : FuncId} {caps es : List D} {cs : List (Nat × Nat)} (hL : Keeps Λ c) (h : ∃ r : D, FunL P Λ f es r ∧ r.noImm = true ∧ WO P c ops rest ⟨(t, r) :: s.fr, s.M⟩ Q)
    (hg : o.guard = none := by exact rfl) (hd : o.dst = some t := by exact rfl) (ht : t < c.n := by exact lt_of rfl) (ho : o.op = .call { callee := .value fo, args := args, argTypes := tys } := by exact rfl) (hf : opd s.fr fo = .clo f caps := by exact rfl)
    (hes : resFL s (args.toList.map (opd s.fr) ++ caps) = some (es, cs) := by exact rfl) (hcs : AllEq cs := by repeat (first | exact AllEq.nil' | refine AllEq.cons' (by first | rfl | (simp; done) | (simp; omega) | omega) ?_)) : WO P c ops (o :: rest) s Q := by
  obtain ⟨r, hc, hn, k⟩ := h
  exact WO_callL hg hd ht ho hf (resFL_res hes hcs) hL hc hn k
end
section
variable {P : Program} {Λ : World → (Nat → Prop) → Prop} {c : Ctx} {s : St} {Q : St → Prop} {ops : Array Oper} {rest : List Oper} {o : Oper}

theorem QL_callL {t : Nat} {fo : Operand} {args : Array Operand} {tys : Array TypeId} {f : FuncId} {caps es : List D} {r : D} (hg : o.guard = none) (hd : o.dst = some t) (ht : t < c.n)
    (ho : o.op = .call { callee := .value fo, args := args, argTypes := tys }) (hf : opd s.fr fo = .clo f caps) (hes : ResL s (args.toList.map (opd s.fr) ++ caps) es) (hL : Keeps Λ c) (hc : FunL P Λ f es r) (hn : r.noImm = true)
    (k : QL P c ops rest ⟨(t, r) :: s.fr, s.M⟩ Q) : QL P c ops (o :: rest) s Q :=
  ⟨t, _, hd, fun s' ha Q h => by
    have e1 : opd s'.fr fo = opd s.fr fo := ha.opd (by rw [ho]; simp [Op.operands, Call.operands])
    have e2 : args.toList.map (opd s'.fr) = args.toList.map (opd s.fr) := ha.opds fun x hx => by
      rw [ho]
      simp only [Op.operands, Call.operands, Array.mem_append]
      exact .inr (by simpa using hx)
    exact WO_callL hg hd ht ho (by rw [e1]; exact hf) (by rw [e2]; exact hes.mem ha.1) hL hc hn h, k⟩
theorem callLBQ {t : Nat} {fo : Operand} {args : Array Operand} {tys : Array TypeId} {f : FuncId} {caps es : List D} {cs : List (Nat × Nat)} (hL : Keeps Λ c) (h : ∃ r : D, FunL P Λ f es r ∧ r.noImm = true ∧ QL P c ops rest ⟨(t, r) :: s.fr, s.M⟩ Q)
    (hg : o.guard = none := by exact rfl) (hd : o.dst = some t := by exact rfl) (ht : t < c.n := by exact lt_of rfl) (ho : o.op = .call { callee := .value fo, args := args, argTypes := tys } := by exact rfl) (hf : opd s.fr fo = .clo f caps := by exact rfl)
    (hes : resFL s (args.toList.map (opd s.fr) ++ caps) = some (es, cs) := by exact rfl) (hcs : AllEq cs := by repeat (first | exact AllEq.nil' | refine AllEq.cons' (by first | rfl | (simp; done) | (simp; omega) | omega) ?_)) : QL P c ops (o :: rest) s Q := by
  obtain ⟨r, hc, hn, k⟩ := h
  exact QL_callL hg hd ht ho hf (resFL_res hes hcs) hL hc hn k
end
section
variable {P : Program} {Λ : World → (Nat → Prop) → Prop} {c : Ctx} {s : St} {Q : St → List Dl → Prop} {M0 : List (Nat × Blk)} {acc : List Dl} {ops : Array Oper} {rest : List Oper} {o : Oper}

end
end Go.Eng
end

section
/- Laid variables that hold a row of texts: their parts read, and a part of the row handed on. -/
set_option linter.unusedVariables false
set_option linter.unusedSimpArgs false
namespace Go.Eng
open Go.RowKit

/-- What lies in a variable of the program's, for good. -/
def LiesAt (Λ : World → (Nat → Prop) → Prop) (g : Nat) (vs : List Value) : Prop := ∀ w F, Λ w F → F g ∧ ∃ arr e fz, w.heap[g]? = some (.cells arr e fz) ∧ arr.toList = vs

section
variable {P : Program} {Λ : World → (Nat → Prop) → Prop} {c : Ctx} {s : St} {Q : Exit → St → Prop} {ops : Array Oper} {rest : List Oper} {o : Oper} {M0 : List (Nat × Blk)} {acc : List Dl}

theorem WO_gIdx {Γ : Tys} (hΓ : Γ.ok P) {ty e t g len : Nat} {ix : Operand} {te : TI} {i : Int} (hg : o.guard = none) (hd : o.dst = some t) (ht : t < c.n) (ho : o.op = .indexAddr ty (.global g) ix)
    (h1 : P.underlying ty = some (.array len e)) (h3 : tyOf Γ e = some te) (hix : opd s.fr ix = .t (.int i)) (h5 : 0 ≤ i) (h6 : i < len)
    (k : WO P c ops rest ⟨(t, .t (.v (.pointer (some ⟨g, i.toNat * te.size, none⟩)))) :: s.fr, s.M⟩ Q) : WO P c ops (o :: rest) s Q := by
  refine WO_val hg hd ht _ (fun a w F β fb mb ow hi => ?_) k
  refine ⟨.pointer (some ⟨g, 0 + i.toNat * te.size, none⟩), ?_, by rw [Nat.zero_add]; exact .t (.v rfl .nil) .done⟩
  have e2 := eval_v hi hix
  have eg : a.eval (.global g) = .pointer (some ⟨g, 0, none⟩) := rfl
  simp only [execOp, ho, e2, eg, Instr.indexAt, Instr.sureAddr, asIntOf, Sem.run_bind, run_underlying h1, Result.andThen_ok, Sem.run_pure, Sem.run_ite, run_sizeOf (hΓ.get h3), add_none]
  rw [if_pos ⟨h5, h6⟩]
  rfl
theorem WO_gLoad (hL : Keeps Λ c) {vs : List Value} {Γ : Tys} (hΓ : Γ.ok P) {ty t g j : Nat} {x : Operand} {ti : TI} {v : Value} (hv : LiesAt Λ g vs) (hg : o.guard = none) (hd : o.dst = some t) (ht : t < c.n) (ho : o.op = .load ty x)
    (h1 : tyOf Γ ty = some ti) (h2 : ti.kind.isAgg = false) (hx : opd s.fr x = .t (.v (.pointer (some ⟨g, j, none⟩)))) (hj : vs[j]? = some v) (hone : v.oneCell' = true)
    (k : WO P c ops rest ⟨(t, .t (.v v)) :: s.fr, s.M⟩ Q) : WO P c ops (o :: rest) s Q := by
  refine WO_val hg hd ht _ (fun a w F β fb mb ow hi => ?_) k
  obtain ⟨_, arr, e, fz, q1, q2⟩ := hv _ _ (hL.at hi hi.f0)
  have q3 : arr[j]? = some v := by rw [← q2] at hj; simpa using hj
  obtain ⟨u, r1, r2⟩ := run_load_T (hΓ.get h1) (o := j) (off := 0) (cs := [v]) (cells := [.v v]) (d := .t (.v v)) (β := β) q1 (fun k hk => by
    have : k = 0 := by simpa using hk
    subst this
    simpa using q3) (RelL.v (F := F) hone .nil) (by simp [partT, h2])
  refine ⟨u, ?_, r2⟩
  simp only [execOp, ho, eval_v hi hx, Sem.run_bind]
  have r3 := r1
  rw [Nat.add_zero] at r3
  rw [r3]
  rfl
end
section
variable {P : Program} {Λ : World → (Nat → Prop) → Prop} {c : Ctx} {s : St} {ops : Array Oper} {rest : List Oper} {o : Oper} {M0 : List (Nat × Blk)} {acc : List Dl}
theorem QL_gIdx {Q : St → Prop} {Γ : Tys} (hΓ : Γ.ok P) {ty e t g len : Nat} {ix : Operand} {te : TI} {i : Int} (hg : o.guard = none) (hd : o.dst = some t) (ht : t < c.n) (ho : o.op = .indexAddr ty (.global g) ix)
    (h1 : P.underlying ty = some (.array len e)) (h3 : tyOf Γ e = some te) (hix : opd s.fr ix = .t (.int i)) (h5 : 0 ≤ i) (h6 : i < len)
    (k : QL P c ops rest ⟨(t, .t (.v (.pointer (some ⟨g, i.toNat * te.size, none⟩)))) :: s.fr, s.M⟩ Q) : QL P c ops (o :: rest) s Q :=
  ⟨t, _, hd, fun s' ha Q h => WO_gIdx hΓ hg hd ht ho h1 h3 (by rw [ha.opd (by rw [ho]; simp [Op.operands])]; exact hix) h5 h6 h, k⟩
theorem QL_gLoad {Q : St → Prop} (hL : Keeps Λ c) {vs : List Value} {Γ : Tys} (hΓ : Γ.ok P) {ty t g j : Nat} {x : Operand} {ti : TI} {v : Value} (hv : LiesAt Λ g vs) (hg : o.guard = none) (hd : o.dst = some t) (ht : t < c.n) (ho : o.op = .load ty x)
    (h1 : tyOf Γ ty = some ti) (h2 : ti.kind.isAgg = false) (hx : opd s.fr x = .t (.v (.pointer (some ⟨g, j, none⟩)))) (hj : vs[j]? = some v) (hone : v.oneCell' = true)
    (k : QL P c ops rest ⟨(t, .t (.v v)) :: s.fr, s.M⟩ Q) : QL P c ops (o :: rest) s Q :=
  ⟨t, _, hd, fun s' ha Q h => WO_gLoad hL hΓ hv hg hd ht ho h1 h2 (by rw [ha.opd (by rw [ho]; simp [Op.operands])]; exact hx) hj hone h, k⟩
end
end Go.Eng
end

section
/- Guards in regions of open order that make memory or write; library functions, known by what they answer; an error asked whether it is nil. -/
set_option linter.unusedVariables false
namespace Go.Eng
open Go.RowKit
section
variable {P : Program} {c : Ctx} {s : St} {ops : Array Oper} {rest : List Oper} {o : Oper} {M0 : List (Nat × Blk)} {acc : List Dl} {Q : St → List Dl → Prop}
theorem AgreeG.guard {s' : St} {fr : List (Nat × D)} (h : AgreeG ops o fr M0 s') : AgreeG ops { o with guard := none } fr M0 s' :=
  ⟨h.1, fun u hu => h.2 u (by unfold Oper.looksAt at hu ⊢; simp only [List.append_nil] at hu; exact List.mem_append_left _ hu)⟩
end
section
variable {P : Program} {Λ : World → (Nat → Prop) → Prop}
theorem relD_plain {w : World} {F : Nat → Prop} : ∀ {vs ws : List Value}, RelD w F (fun _ => none) ws (vs.map fun v => D.t (.v v)) [] → ws = vs
  | [], ws, h => by cases h; rfl
  | v :: vs, ws, h => by
    cases ws with
    | nil => cases h
    | cons a ws =>
      obtain ⟨b1, b2, h1, h2, h3⟩ := RelD.cons h
      obtain ⟨rfl, rfl⟩ := List.append_eq_nil_iff.1 h3.symm
      rw [relD_t h1, relD_plain h2]
/-- A function of plain values that is known by what it answers. -/
theorem FunL.plain {f : FuncId} {vs : List Value} {u : Value} {r : D} (hc : Callable P f) (h : ∀ w F, Λ w F → Calls P f vs.toArray w fun e w' => e = .returned u ∧ Below w.heap.size w w') (hr : ∀ (w : World) (F : Nat → Prop), RelD w F (fun _ => none) [u] [r] []) :
    FunL P Λ f (vs.map fun v => .t (.v v)) r := by
  refine ⟨hc, fun w F args hΛ hF hargs => ?_⟩
  have he := relD_plain hargs
  have ha : args = vs.toArray := by rw [← he]
  subst ha
  refine (h w F hΛ).mono ?_
  rintro e w' ⟨rfl, hb⟩
  exact ⟨u, F, [], rfl, hb, fun _ h => h, fun _ h => .inl h, hr _ _, by simp, by simp⟩
theorem FunLX.plain {α : Type} {p : α → Prop} {f : FuncId} {vs : List Value} {u : α → Value} {r : α → D} (hc : Callable P f) (h : ∀ w F, Λ w F → Calls P f vs.toArray w fun e w' => ∃ x, p x ∧ e = .returned (u x) ∧ Below w.heap.size w w') (hr : ∀ (x : α) (w : World) (F : Nat → Prop), p x → RelD w F (fun _ => none) [u x] [r x] []) :
    FunLX P Λ f (vs.map fun v => .t (.v v)) r p := by
  refine ⟨hc, fun w F args hΛ hF hargs => ?_⟩
  have he := relD_plain hargs
  have ha : args = vs.toArray := by rw [← he]
  subst ha
  refine (h w F hΛ).mono ?_
  rintro e w' ⟨x, hx, rfl, hb⟩
  exact ⟨x, u x, F, [], hx, rfl, hb, fun _ h => h, fun _ h => .inl h, hr _ _ _ hx, by simp, by simp⟩
end
section
variable {P : Program} {c : Ctx} {s : St} {ops : Array Oper} {rest : List Oper} {o : Oper} {Q : Exit → St → Prop}
end
end Go.Eng
end

section
/- Rows over laid variables: from a law's walk to its row. -/
set_option linter.unusedVariables false
set_option linter.unusedSimpArgs false
namespace Go.Eng
open Go.ChangeShapes Go.WideShapes Go.ChangeAt Go.RowKit

/-- The builder with a further condition, the world's shape kept. -/
theorem returnsInHanded_both {H : Type} {enc : TypeId × Value → H} {a : Assume} {C : Checked} {os : Os} {f : FuncId} {fn : Func} {s : ChangeSpec} {conds : List PathCond} {apart fresh handsOn again : Bool} {X : World → Array Value → Prop}
    (hX : ∀ (w w' : World) (args : Array Value), w.heap = w'.heap → X w args → X w' args)
    (own : ownKnob C.prog.godebug = none) (started : os.Started) (noInit : C.prog.inits.idxOf? f = none) (hfn : C.prog.funcs[f]? = some fn)
    (witness : ∃ (w : World) (tape : Tape) (i : Input), w.os = os ∧ (w.forCall tape i).Shaped C.prog ∧ i.vars = [] ∧ Input.okWide C.prog (w.forCall tape i) .any w.heap.size f i ∧
      ((s.pre enc C.prog fn conds apart (w.forCall tape i).memory i.args ∧ X (w.forCall tape i).memory i.args) ∧ sizedMet enc C.prog fn (OpenSpec.ofChange s) apart (w.forCall tape i).memory i.args) ∧ a.holds C.prog (lone (Frame.enter C.prog f i.args .normal) [] (w.forCall tape i)))
    (contract : ∀ (W : World) (base : Nat) (args : Array Value) (ds gs : List (DataW H)) (before : List MemPlace),
      (∀ (j : Nat) t v, fn.params[j]? = some t → args[j]? = some v → Value.okWide C.prog W .any base t v) →
      DataW.Whole enc C.prog fn.params.toList s.vars apart W args.toList ds gs before → W.ShapedOpen C.prog → X W args →
      Calls C.prog f args W fun e W' => ∃ v, e = .returned v ∧ s.post enc C.prog fn apart fresh handsOn again W args v W') :
    ReturnsInHanded a C os f .any (fun w args => (s.pre enc C.prog fn conds apart w args ∧ X w args) ∧ sizedMet enc C.prog fn (OpenSpec.ofChange s) apart w args) (s.post enc C.prog fn apart fresh handsOn again) := by
  refine returnsInHanded_of_calls own started noInit witness ?_
  intro w tape i _ hsh _ hok hpre hholds
  obtain ⟨_, _, _, fn', hfn', _, _, _, _, hval⟩ := hok
  have e : fn' = fn := Option.some.inj (hfn'.symm.trans hfn)
  subst e
  obtain ⟨⟨⟨ds, gs, before, hw, hc⟩, hx⟩, hz⟩ := hpre
  have hw' := DataW.Whole.of_heap (w' := w.forCall tape i) (by rfl) hw
  refine (contract (w.forCall tape i) w.heap.size i.args ds gs before hval hw' hsh (hX _ _ _ (by rfl) hx)).mono fun e W' ⟨v, he, hp⟩ => ?_
  subst he
  exact ChangeSpec.post_blind hp

theorem trodVars_len {H : Type} {enc : TypeId × Value → H} {P : Program} {w : World} {sp : Nat → Bool} : ∀ {ns : List String} {gs : List (DataW H)} {ps : List MemPlace}, DataW.TrodVars enc P w sp ns gs ps → gs.length = ns.length
  | [], [], _, _ => rfl
  | [], _ :: _, _, h => h.elim
  | _ :: _, [], _, h => h.elim
  | n :: ns, g :: gs, ps, h => by
    obtain ⟨_, _, _, _, _, _, _, _, _, _, h5, _⟩ := h
    simp [trodVars_len h5]

/-- A law that answers yes of whatever plain data, where variables lie as they are laid: its row's contract. -/
theorem law_callsL {Λ : World → (Nat → Prop) → Prop} {H : Type} {enc : TypeId × Value → H} {P : Program} {f : FuncId} {fn : Func} {s : ChangeSpec} (hl : laidOutB P = true) {S : List TypeId} (hS : plainB P S = true)
    (hts : fn.params.toList.all (fun t => S.contains t && P.readableRec t && decide (t < P.types.size)) = true) (hv : varsRowed P s.vars = true) {tb : TypeId} (hr : fn.resultTypes = #[tb]) (hb : P.underlying tb = some .bool)
    (hs : ∀ ds gs : List (DataW H), ds.length = fn.params.toList.length → gs.length = s.vars.length → s.fn H (ds ++ gs) = { results := [.lit (.bool true)], args := ds, vars := gs })
    (hf : ∀ xs : List T, RdL P fn.params.toList xs → FunL P Λ f (xs.map .t) (.t (.bool true)))
    {W : World} {base : Nat} {args : Array Value} {ds gs : List (DataW H)} {before : List MemPlace} (hval : ∀ (j : Nat) t v, fn.params[j]? = some t → args[j]? = some v → Value.okWide P W .any base t v)
    (hW : DataW.Whole enc P fn.params.toList s.vars false W args.toList ds gs before) (hΛ : Λ W (fun b => b < W.heap.size)) :
    Calls P f args W fun e W' => ∃ v, e = .returned v ∧ s.post enc P fn false true false false W args v W' := by
  have hW' := hW
  obtain ⟨p, q, hA, hV, rfl, hfz, hnd⟩ := hW
  rw [List.all_eq_true] at hts
  have hts' : ∀ t, t ∈ fn.params.toList → t ∈ S ∧ P.readableRec t = true ∧ t < P.types.size := fun t ht => by
    have := hts t ht
    simp only [Bool.and_eq_true, decide_eq_true_eq, List.contains_iff_mem] at this
    exact ⟨this.1.1, this.1.2, this.2⟩
  obtain ⟨xs, hx, hrel⟩ := TrodAll_rel hS hA (fun j t v ht hv' => okWide_plain hS (hts' t (List.mem_of_getElem? ht)).1 (hval j t v (by simpa using ht) (by simpa using hv'))) (fun t ht => (hts' t ht).1)
  obtain ⟨hc, hp⟩ := hf xs hx
  refine (hp W _ args hΛ (fun b h => h) hrel).mono fun e W' ⟨v, F', bs, he, hbe, hF, hF2, hv', hnd', hbs⟩ => ?_
  have e1 := relD_t hv'
  subst e1
  have e2 := hs ds gs (trodAll_len hA) (trodVars_len hV)
  refine ⟨_, he, ds, gs, p ++ q, [], p, q, hW', ?_, ?_, ?_, hbe.frame _, fun h => by cases h⟩
  · rw [e2, hr]
    exact trodAll_mk1 (shut_bool hb true)
  · rw [e2]
    exact TrodAll_again hl hbe hA (fun t ht => (hts' t ht).2) (fun x hx => hW'.lt x (List.mem_append_left _ hx))
  · rw [e2]
    exact Below.trodVars hl hbe hv hV

/-- An array of texts as a row lists it. -/
def strsData {H : Type} (ls : List (List UInt8)) : DataW H := .agg (ls.map fun l => .lit (.string l))
theorem cells_of_strs {H : Type} {enc : TypeId × Value → H} {P : Program} {w : World} {base : Nat} {sp : Nat → Bool} {held : Bool} {fuel : Nat} {t e : TypeId} {n : Nat} {cs : List Value} {ls : List (List UInt8)} {p : List MemPlace}
    (ht : P.underlying t = some (.array n e)) (he : P.underlying e = some .string) (hce : P.cellsOf e = 1) (hct : P.cellsOf t = n)
    (h : DataW.trod enc P w base sp held fuel t cs = some (strsData ls, p)) : cs = ls.map fun l => Value.string ⟨⟨l⟩⟩ := by
  cases fuel with
  | zero => simp [DataW.trod] at h
  | succ fuel =>
    simp only [DataW.trod, ht, hce, hct, Nat.mul_one] at h
    split at h
    · rename_i hl
      obtain ⟨xs, hm, hx⟩ := Option.map_eq_some_iff.1 h
      have hxs : xs.map (·.1) = ls.map fun l => (DataW.lit (.string l) : DataW H) := by
        have := congrArg Prod.fst hx
        simpa [strsData] using this
      have hxl : xs.length = n := by simpa using Lib.mapM_length hm
      have hzl : ls.length = n := by
        have := congrArg List.length hxs
        simp at this
        omega
      apply List.ext_getElem?
      intro i
      by_cases hi : i < n
      · obtain ⟨b, hb, hf⟩ := Lib.mapM_at hm i i (by simp [hi])
        obtain ⟨z, hc, rfl, _⟩ := DataW.trod_string he hf
        have h1 : cs[i]? = some (.string z) := by
          have := congrArg (·[0]?) hc
          simpa [List.getElem?_take, List.getElem?_drop] using this
        have h2 : (xs.map (·.1))[i]? = some (DataW.lit (.string z.data.toList) : DataW H) := by simp [hb]
        rw [hxs] at h2
        simp only [List.getElem?_map, Option.map_eq_some_iff, DataW.lit.injEq, Lit.string.injEq] at h2
        obtain ⟨z', hz', e2⟩ := h2
        subst e2
        simp [h1, hz']
      · rw [List.getElem?_eq_none (by omega), List.getElem?_eq_none (by simp; omega)]
    · cases h
end Go.Eng
end

section
/- A text appended to a row of bytes of the call's own: whose the new row is. -/
set_option linter.unusedVariables false
set_option linter.unusedSimpArgs false
namespace Go.Eng
open Go.RowKit Go.Lib

section
variable {P : Program} {w : World}
theorem append_exact (t u ty e : TypeId) (i : TypeInfo) (ht : P.underlying t = some (.slice e)) (hu : P.underlying u = some .string) (hi : P.info? e = some i) (hz : i.zero = some (.int .u8 0))
    (hsize : i.size = 1) (hby : i.bytes = 1)
    (v : Value) (n : Nat) (xs : List Value) (hown : w.ownsRow 0 e 1 v n xs) (s : ByteArray)
    (h63 : n + s.size ≤ maxLen) (hbytes : n + s.size ≤ 140737488355328) :
    ∃ v' w', (Builtin.append_ #[t, u] ty #[v, .string s]).run P w = .ok v' w' ∧ w'.ownsRow 0 e 1 v' (n + s.size) (xs ++ strCells s) ∧ w.grownBy w' v.ownBlock ∧
      ∀ g', v'.ownBlock = some g' → v.ownBlock = some g' ∨ w.heap.size ≤ g' := by
  rcases hown.2 with ⟨rfl, rfl⟩ | ⟨g, cap, cur, rfl, hbg, hg, hnc, hcm, hcs, htake⟩
  · obtain ⟨v', w', h1, h2, h3, h4⟩ := run_append_own_string (P := P) w w.heap.size t u ty e i ht hu hi hz hsize hby (.slice none 0 0) 0 xs ⟨hown.1, .inl ⟨rfl, rfl⟩⟩ s h63 hbytes (Nat.le_refl _)
    refine ⟨v', w', h1, ⟨h2.1, ?_⟩, h3, fun g' hg' => .inr ?_⟩
    · rcases h2.2 with h5 | ⟨g, cap, cur, q1, q2, q3⟩
      · exact .inl h5
      · exact .inr ⟨g, cap, cur, q1, Nat.zero_le _, q3⟩
    · rcases h2.2 with ⟨h5, _⟩ | ⟨g, cap, cur, q1, q2, q3⟩
      · subst h5; cases hg'
      · subst q1
        have : g = g' := Option.some.inj hg'
        omega
  · have hsmall : n + s.size ≤ 9223372036854775807 := by simp only [maxLen] at h63; omega
    have hxl : xs.length = n := by simpa using hown.1
    have hlen : (xs ++ strCells s).length = (n + s.size) * 1 := by rw [List.length_append, hxl, strCells_length, Nat.mul_one]
    by_cases hroom : n + s.size ≤ cap
    · have hcs' : cur.size = cap := by simpa using hcs
      have hr := run_append_room_stringF (P := P) w t u ty e i ht hu hi hsize g n cap cur (0, 0) hg (Nat.zero_le _) s hroom (by omega)
      refine ⟨_, _, hr, ⟨hlen, .inr ⟨g, cap, _, rfl, Nat.zero_le _, setRow_heap w g cur _ e _ hg, hroom, hcm, ?_, ?_⟩⟩, ⟨rfl, rfl, rfl, by simp, fun k _ hk => setRow_other w g k _ (fun e => hk (by simp [Value.ownBlock, e]))⟩, fun g' hg' => .inl hg'⟩
      · simp only [List.size_toArray, List.length_append, List.length_take, List.length_drop, Array.length_toList, strCells_length]
        omega
      · have ht' : cur.toList.take n = xs := by simpa using htake
        rw [ht', ← hlen]
        exact List.take_left
    · have hownF := World.ownsRowF_of hown
      have holds : ∀ j u, xs[j]? = some u → w.cell? ((⟨g, 0, none⟩ : Addr).add j) = some u := hownF.cells (g := g) rfl
      have hr := run_append_grow_string (P := P) w t u ty e i (.int .u8 0) ht hu hi hz ⟨g, 0, none⟩ n cap xs (by rw [hsize]; simpa using hxl) holds s (by omega) (by omega) (by rw [hby]; exact growslice_fits (by omega) (by omega))
      have hge := grownCap_ge w (n + s.size) cap e
      have hcm2 : grownCap w (n + s.size) cap e ≤ maxLen := grownCap_le_maxLen w (n + s.size) cap e h63
      refine ⟨_, _, hr, ⟨hlen, .inr ⟨w.heap.size, _, _, rfl, Nat.zero_le _, heap_alloc_new w.drew _, hge, hcm2, ?_, ?_⟩⟩, ⟨rfl, rfl, rfl, by simp, fun k hk _ => heap_alloc_old w.drew _ hk⟩, fun g' hg' => .inr ?_⟩
      · have hz1 : (Value.int IntKind.u8 0).cells.size = 1 := rfl
        simp only [Array.size_append, List.size_toArray, size_zeroCells, hz1, hxl, strCells_length]
        omega
      · simp only [Array.toList_append, List.append_assoc]
        rw [← List.append_assoc, ← hlen]
        exact List.take_left
      · have : w.heap.size = g' := Option.some.inj hg'
        omega
theorem wpList_append_exact {ops : Array Oper} {rest : List Oper} {o : Oper} {a : Act} {Q : Exit → Act → World → Prop} (hgd : o.guard = none) (sl x : Operand) (t u : TypeId)
    (ho : o.op = .call { callee := .builtin .append, args := #[sl, x], argTypes := #[t, u] })
    (e : TypeId) (i : TypeInfo) (ht : P.underlying t = some (.slice e)) (hu : P.underlying u = some .string) (hi : P.info? e = some i) (hz : i.zero = some (.int .u8 0))
    (hsize : i.size = 1) (hby : i.bytes = 1)
    (v : Value) (n : Nat) (xs : List Value) (hs : a.eval sl = v) (hown : w.ownsRow 0 e 1 v n xs) (s : ByteArray) (hx : a.eval x = .string s)
    (h63 : n + s.size ≤ maxLen) (hbytes : n + s.size ≤ 140737488355328)
    (h : ∀ v' w', w'.ownsRow 0 e 1 v' (n + s.size) (xs ++ strCells s) → w.grownBy w' v.ownBlock → (∀ g', v'.ownBlock = some g' → v.ownBlock = some g' ∨ w.heap.size ≤ g') → wpList P ops Q rest (a.put o.dst v') w') : wpList P ops Q (o :: rest) a w := by
  refine wpList_plain hgd fun K hK => ?_
  obtain ⟨v', w', hr, h2, h3, h4⟩ := append_exact (P := P) (w := w) t u o.type e i ht hu hi hz hsize hby v n xs hown s h63 hbytes
  unfold Oper.wp execOp
  simp only [ho, resolve, invoke, builtin, Sem.run_bind, Sem.run_pure, Result.andThen_ok, List.map_toArray, List.map_cons, List.map_nil, hs, hx, hr]
  exact hK _ _ (h v' w' h2 h3 h4)
end
end Go.Eng
end

section
/- A builder of texts of the call's own: its writers, exactly. -/
set_option linter.unusedVariables false
set_option linter.unusedSimpArgs false
namespace Go.Proofs
open Go.Shelf Go.RowKit Go.Lib
variable {P : Program} {ρ : Ren}

/-- The builder's variable and its row. -/
def BldAt (T e b : Nat) (p v : Value) (l : List UInt8) (w : World) : Prop :=
  w.heap[b]? = some (.cells #[p, v] T (0, 0)) ∧ (p = .pointer none ∨ p = .pointer (some ⟨b, 0, none⟩)) ∧ w.ownsRow 0 e 1 v l.length (byteCells l) ∧ v.ownBlock ≠ some b
/-- What stands behind a writer's call. -/
structure BldKept (b : Nat) (v v' : Value) (w w' : World) : Prop where
  os : w'.os = w.os
  tape : w'.tape = w.tape
  output : w'.output = w.output
  size : w.heap.size ≤ w'.heap.size
  block : ∀ k, k < w.heap.size → k ≠ b → v.ownBlock ≠ some k → w'.heap[k]? = w.heap[k]?
  row : ∀ g, v'.ownBlock = some g → v.ownBlock = some g ∨ (w.heap.size ≤ g ∧ g < w'.heap.size)

set_option maxHeartbeats 2000000
set_option maxRecDepth 100000
end Go.Proofs
end

section
/- A builder of texts of the call's own, lent to its writers. -/
set_option linter.unusedVariables false
set_option linter.unusedSimpArgs false
namespace Go.Eng
open Go.RowKit Go.Lib Go.Shelf Go.Proofs

section
variable {P : Program} {ρ : Ren}
theorem bld_of {w : World} {F : Nat → Prop} {β : Place} {id T e b : Nat} {l : List UInt8} {bs : List Nat} (h : RelB w F β id (.bld T e b l) bs) (hnd : bs.Nodup) : ∃ p v, BldAt T e b p v l w ∧ bs = b :: v.ownBlock.toList := by
  obtain ⟨p, v, row, h1, h2, h3, rfl⟩ := h
  rcases h3 with ⟨rfl, rfl, rfl⟩ | ⟨g, cap, cur, rfl, q2, q3, q4, q5, q6, rfl⟩
  · exact ⟨p, _, ⟨h1, h2, ⟨rfl, .inl ⟨rfl, rfl⟩⟩, by simp [Value.ownBlock]⟩, rfl⟩
  · refine ⟨p, _, ⟨h1, h2, ⟨by simp [byteCells], .inr ⟨g, cap, cur, rfl, Nat.zero_le _, q2, q3, q4, by omega, ?_⟩⟩, ?_⟩, rfl⟩
    · rw [Nat.mul_one, q6]; rfl
    · intro e
      have : g = b := Option.some.inj e
      subst this
      simp at hnd
theorem bld_to {w : World} {F : Nat → Prop} {β : Place} {id T e b : Nat} {p v : Value} {l : List UInt8} (h : BldAt T e b p v l w) : RelB w F β id (.bld T e b l) (b :: v.ownBlock.toList) := by
  obtain ⟨h1, h2, h3, h4⟩ := h
  refine ⟨p, v, _, h1, h2, ?_, rfl⟩
  rcases h3.2 with ⟨rfl, h5⟩ | ⟨g, cap, cur, rfl, _, q2, q3, q4, q5, q6⟩
  · exact .inl ⟨rfl, List.length_eq_zero_iff.1 h5, rfl⟩
  · refine .inr ⟨g, cap, cur, rfl, q2, q3, q4, by omega, ?_, rfl⟩
    rw [Nat.mul_one] at q6
    rw [q6]; rfl
end
section
variable {P : Program} {c : Ctx} {s : St} {Q : Exit → St → Prop} {ops : Array Oper} {rest : List Oper} {o : Oper}
/-- A new builder. -/
theorem WO_bldNew {Γ : Tys} (hΓ : Γ.ok P) {t T : Nat} (e : Nat) {ti : TI} (hg : o.guard = none) (hd : o.dst = some t) (ht : t < c.n) (ho : o.op = .alloc T) (h1 : tyOf Γ T = some ti) (h2 : ti.zero = [.pointer none, .slice none 0 0])
    (k : ∀ b, WO P c ops rest ⟨(t, .t (.v (.pointer (some ⟨b, 0, none⟩)))) :: killF t s.fr, (t, .bld T e b []) :: killM t s.M⟩ Q) : WO P c ops (o :: rest) s Q := by
  rintro a w ⟨F, β, fb, mb, ow, hi⟩
  obtain ⟨⟨i, z, q1, q2, q3, q4, q5⟩, _⟩ := hΓ.get h1
  refine wpList_plain hg fun K hK => ?_
  unfold Oper.wp
  have hrun : (execOp a.eval o).run P w = .ok (.value (.pointer (some ⟨w.heap.size, 0, none⟩))) (w.alloc (.cells z.cells T)) := by
    simp [execOp, ho, Instr.alloc, zeroValue, typeInfo, q1, q4, run_new_var]
  rw [hrun, Oper.upon_value, hd]
  refine hK _ _ (k w.heap.size _ _ ?_)
  have hz : z.cells = #[.pointer none, .slice none 0 0] := by
    rw [← Array.toArray_toList (xs := z.cells), q5, h2]
  rw [hz]
  have hβ : ∀ id, id ≠ t → (fun id => if id = t then none else β id) id = β id := fun id h => by simp [h]
  have hold : ∀ b, b < w.heap.size → (w.alloc (.cells #[.pointer none, .slice none 0 0] T)).heap[b]? = w.heap[b]? := fun b hb => Below.heap_alloc w _ b hb
  have key : Is c ⟨(t, .t (.v (.pointer (some ⟨w.heap.size, 0, none⟩)))) :: eat (.const .nilIface) .nil (killF t s.fr), (t, .bld T e w.heap.size []) :: killM t s.M⟩ (a.put (some t) (.pointer (some ⟨w.heap.size, 0, none⟩))) (w.alloc (.cells #[.pointer none, .slice none 0 0] T)) := by
    refine hi.renew t (Anew.kill hβ) (eats (.const .nilIface) .nil) [w.heap.size] (.bld T e w.heap.size []) (some (t, .pointer (some ⟨w.heap.size, 0, none⟩), .t (.v (.pointer (some ⟨w.heap.size, 0, none⟩))))) rfl ?_ rfl rfl rfl (by simp)
      (fun b hb _ => hold b hb) ?_ (by simp [lookM]) ?_ ?_ ?_ ?_
    · rintro t' v d h
      cases h
      exact ⟨ht, .t (.v rfl .nil) .done, by simp [look]⟩
    · intro u hu
      have hut := hu _ _ _ rfl
      simp only [look, if_neg (Ne.symm hut)]
      rcases look_eat (.const .nilIface) .nil (killF t s.fr) u with ⟨h1, h2⟩ | h1
      · exact .inl ⟨by rw [h1, look_killF], h2⟩
      · exact .inr h1
    · exact ⟨_, _, [], heap_alloc_new w _, .inl rfl, .inl ⟨rfl, rfl, rfl⟩, rfl⟩
    · simp
    · intro b hb
      rw [List.mem_singleton.1 hb]
      exact .inl ⟨Nat.le_refl _, by simp⟩
    · intro id hid
      simp only [lookM, if_neg (Ne.symm hid)]
      rw [look_killM]
      exact .inr ⟨(by rintro ⟨_, u, _, h⟩; cases h), rfl⟩
  simpa [eat, D.free] using key
end
end Go.Eng
end

section
/- Bytes as a text, in a region of open order. -/
set_option linter.unusedVariables false
namespace Go.Eng
open Go.RowKit
section
variable {P : Program} {c : Ctx} {s : St} {ops : Array Oper} {rest : List Oper} {o : Oper} {M0 : List (Nat × Blk)} {acc : List Dl}
theorem QG_bytesText {Q : St → List Dl → Prop} {src dst e t : Nat} {x : Operand} {l : List UInt8} (hg : o.guard = none) (hd : o.dst = some t) (ht : t < c.n) (ho : o.op = .convert src dst x)
    (h1 : P.underlying src = some (.slice e)) (h2 : P.underlying e = some (.int .u8)) (h3 : P.underlying dst = some .string) (hx : ResL ⟨s.fr, M0⟩ [opd s.fr x] [.t (T.text l)])
    (k : QG P c ops M0 rest ⟨(t, .t (T.str l)) :: s.fr, s.M⟩ (acc ++ [pl t (.t (T.str l))]) Q) : QG P c ops M0 (o :: rest) s acc Q :=
  ⟨pl t _, hd, fun s' ha _ Q h => by
    have e1 : opd s'.fr x = opd s.fr x := ha.opd (by rw [ho]; simp [Op.operands])
    exact WO_bytesText hg hd ht ho h1 h2 h3 (by rw [e1]; exact hx.up ha.1) h, k⟩
theorem QG_convId {Q : St → List Dl → Prop} {src dst t : Nat} {x : Operand} {td : TypeDesc} {k k0 : IntKind} {n m : Int} (hg : o.guard = none) (hd : o.dst = some t) (ht : t < c.n) (ho : o.op = .convert src dst x)
    (h1 : P.underlying src = some td) (h2 : P.underlying dst = some (.int k)) (hx : opd s.fr x = .t (.v (.int k0 n))) (hw : k.wrap n = m)
    (kk : QG P c ops M0 rest ⟨(t, .t (.v (.int k m))) :: s.fr, s.M⟩ (acc ++ [pl t (.t (.v (.int k m)))]) Q) : QG P c ops M0 (o :: rest) s acc Q :=
  ⟨pl t _, hd, fun s' ha _ Q h => WO_convId hg hd ht ho h1 h2 (by rw [ha.opd (by rw [ho]; simp [Op.operands])]; exact hx) hw h, kk⟩
end
end Go.Eng
end

section
/- Cells appended to a row of the call's own: whose the new row is. -/
set_option linter.unusedVariables false
set_option linter.unusedSimpArgs false
namespace Go.Eng
open Go.RowKit Go.Lib

section
variable {P : Program} {w : World}
theorem append_exactC (t ty e : TypeId) (i : TypeInfo) (z : Value) (ht : P.underlying t = some (.slice e)) (hi : P.info? e = some i) (hz : i.zero = some z)
    (hsize : i.size = 1) (hby : i.bytes = 1) (hzs : z.cells.size = 1)
    (v : Value) (n : Nat) (xs : List Value) (hown : w.ownsRow 0 e 1 v n xs)
    (a : Addr) (m c : Nat) (news : List Value) (hl : news.length = m * 1) (hnews : ∀ j u, news[j]? = some u → w.cell? (a.add j) = some u) (h1 : ∀ u ∈ news, u.oneCell' = true)
    (h63 : n + m ≤ maxLen) (hbytes : n + m ≤ 140737488355328) :
    ∃ v' w', (Builtin.append_ #[t, t] ty #[v, .slice (some a) m c]).run P w = .ok v' w' ∧ w'.ownsRow 0 e 1 v' (n + m) (xs ++ news) ∧ w.grownBy w' v.ownBlock ∧
      ∀ g', v'.ownBlock = some g' → v.ownBlock = some g' ∨ w.heap.size ≤ g' := by
  rcases hown.2 with ⟨rfl, rfl⟩ | ⟨g, cap, cur, rfl, hbg, hg, hnc, hcm, hcs, htake⟩
  · obtain ⟨v', w', r1, h2, r3, r4⟩ := run_append_own (P := P) w w.heap.size t ty e i z 1 1 ht hi hz hsize hby hzs (by decide) (.slice none 0 0) 0 xs ⟨hown.1, .inl ⟨rfl, rfl⟩⟩ a m c news hl hnews h1 h63 (by omega) (Nat.le_refl _)
    refine ⟨v', w', r1, ⟨h2.1, ?_⟩, r3, fun g' hg' => .inr ?_⟩
    · rcases h2.2 with h5 | ⟨g, cap, cur, q1, q2, q3⟩
      · exact .inl h5
      · exact .inr ⟨g, cap, cur, q1, Nat.zero_le _, q3⟩
    · rcases h2.2 with ⟨h5, _⟩ | ⟨g, cap, cur, q1, q2, q3⟩
      · subst h5; cases hg'
      · subst q1
        have : g = g' := Option.some.inj hg'
        omega
  · have hsmall : n + m ≤ 9223372036854775807 := by simp only [maxLen] at h63; omega
    have hxl : xs.length = n := by simpa using hown.1
    have hnl : news.length = m := by omega
    have hlen : (xs ++ news).length = (n + m) * 1 := by rw [List.length_append, hxl, hnl, Nat.mul_one]
    by_cases hroom : n + m ≤ cap
    · have hcs' : cur.size = cap := by simpa using hcs
      have hr := run_append_room (P := P) w t ty e i ht hi g n cap cur hg a m c news (by rw [hsize]; exact hl) hnews h1 hroom (by rw [hsize]; omega)
      rw [hsize, Nat.mul_one] at hr
      refine ⟨_, _, hr, ⟨hlen, .inr ⟨g, cap, _, rfl, Nat.zero_le _, setRow_heap w g cur _ e _ hg, hroom, hcm, ?_, ?_⟩⟩, ⟨rfl, rfl, rfl, by simp, fun k _ hk => setRow_other w g k _ (fun e => hk (by simp [Value.ownBlock, e]))⟩, fun g' hg' => .inl hg'⟩
      · simp only [List.size_toArray, List.length_append, List.length_take, List.length_drop, Array.length_toList]
        omega
      · have ht' : cur.toList.take n = xs := by simpa using htake
        rw [ht', ← hlen]
        exact List.take_left
    · have hownF := World.ownsRowF_of hown
      have holds : ∀ j u, xs[j]? = some u → w.cell? ((⟨g, 0, none⟩ : Addr).add j) = some u := hownF.cells (g := g) rfl
      have hr := run_append_grow (P := P) w t ty e i z ht hi hz ⟨g, 0, none⟩ n cap xs (by rw [hsize]; simpa using hxl) holds a m c news (by rw [hsize]; exact hl) hnews (by omega) (by omega) (by rw [hby]; exact growslice_fits (by omega) (by omega))
      have hge := grownCap_ge w (n + m) cap e
      have hcm2 : grownCap w (n + m) cap e ≤ maxLen := grownCap_le_maxLen w (n + m) cap e h63
      refine ⟨_, _, hr, ⟨hlen, .inr ⟨w.heap.size, _, _, rfl, Nat.zero_le _, heap_alloc_new w.drew _, hge, hcm2, ?_, ?_⟩⟩, ⟨rfl, rfl, rfl, by simp, fun k hk _ => heap_alloc_old w.drew _ hk⟩, fun g' hg' => .inr ?_⟩
      · simp only [Array.size_append, List.size_toArray, size_zeroCells, hzs, hxl, hnl]
        omega
      · simp only [Array.toList_append, List.append_assoc]
        rw [← List.append_assoc, ← hlen]
        exact List.take_left
      · have : w.heap.size = g' := Option.some.inj hg'
        omega
theorem wpList_append_exactC {ops : Array Oper} {rest : List Oper} {o : Oper} {a : Act} {Q : Exit → Act → World → Prop} (hgd : o.guard = none) (sl x : Operand) (t : TypeId)
    (ho : o.op = .call { callee := .builtin .append, args := #[sl, x], argTypes := #[t, t] })
    (e : TypeId) (i : TypeInfo) (z : Value) (ht : P.underlying t = some (.slice e)) (hi : P.info? e = some i) (hz : i.zero = some z)
    (hsize : i.size = 1) (hby : i.bytes = 1) (hzs : z.cells.size = 1)
    (v : Value) (n : Nat) (xs : List Value) (hs : a.eval sl = v) (hown : w.ownsRow 0 e 1 v n xs)
    (ad : Addr) (m c : Nat) (news : List Value) (hx : a.eval x = .slice (some ad) m c) (hl : news.length = m * 1) (hnews : ∀ j u, news[j]? = some u → w.cell? (ad.add j) = some u) (h1 : ∀ u ∈ news, u.oneCell' = true)
    (h63 : n + m ≤ maxLen) (hbytes : n + m ≤ 140737488355328)
    (h : ∀ v' w', w'.ownsRow 0 e 1 v' (n + m) (xs ++ news) → w.grownBy w' v.ownBlock → (∀ g', v'.ownBlock = some g' → v.ownBlock = some g' ∨ w.heap.size ≤ g') → wpList P ops Q rest (a.put o.dst v') w') : wpList P ops Q (o :: rest) a w := by
  refine wpList_plain hgd fun K hK => ?_
  obtain ⟨v', w', hr, h2, h3, h4⟩ := append_exactC (P := P) (w := w) t o.type e i z ht hi hz hsize hby hzs v n xs hown ad m c news hl hnews h1 h63 hbytes
  unfold Oper.wp execOp
  simp only [ho, resolve, invoke, builtin, Sem.run_bind, Sem.run_pure, Result.andThen_ok, List.map_toArray, List.map_cons, List.map_nil, hs, hx, hr]
  exact hK _ _ (h v' w' h2 h3 h4)
end
end Go.Eng
end
