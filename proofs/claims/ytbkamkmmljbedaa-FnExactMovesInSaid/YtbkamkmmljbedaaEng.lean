/- An abstract machine for Go code that reads plain data and builds new memory, and the rules by which its runs are shown to be runs of the model. -/
import Derived.WalkKit
set_option linter.unusedVariables false
set_option linter.unusedSimpArgs false
namespace Go.Eng
open Go.RowKit

/-- Plain data as a tree: a value of one cell; the elements of a slice, each of so many cells; the cells of a struct. -/
inductive T where
  | v (x : Value)
  | list (n : Nat) (l : List T)
  | agg (l : List T)

def T.cells : T → List T
  | .agg l => l
  | x => [x]

abbrev T.int (n : Int) : T := .v (.int .i64 n)
abbrev T.bool (b : Bool) : T := .v (.bool b)
def T.ints (l : List Int) : T := .list 1 (l.map T.int)

/-- Cells that read as data, in blocks of F. -/
inductive RelL (w : World) (F : Nat → Prop) : List Value → List T → Prop
  | nil : RelL w F [] []
  | v {x vs ts} : x.oneCell' = true → RelL w F vs ts → RelL w F (x :: vs) (.v x :: ts)
  | none {a c n vs ts} : RelL w F vs ts → RelL w F (.slice a 0 c :: vs) (.list n [] :: ts)
  | list {b o cap n cs xs arr e fz vs ts} : F b → w.heap[b]? = some (.cells arr e fz) → (∀ k, k < cs.length → arr[o + k]? = cs[k]?) →
      (∀ x, x ∈ xs → (T.cells x).length = n) → xs.length ≤ cap → RelL w F cs (xs.flatMap T.cells) → RelL w F vs ts →
      RelL w F (.slice (some ⟨b, o, Option.none⟩) xs.length cap :: vs) (.list n xs :: ts)

/-- Cells that own their data: each slice lies at the head of a block of its own. -/
inductive OwnL (w : World) : List Value → List T → List Nat → Prop
  | nil : OwnL w [] [] []
  | v {x vs ts bs} : x.oneCell' = true → OwnL w vs ts bs → OwnL w (x :: vs) (.v x :: ts) bs
  | none {a n vs ts bs} : OwnL w vs ts bs → OwnL w (.slice a 0 0 :: vs) (.list n [] :: ts) bs
  | list {b cap n cs xs arr e vs ts bs bs'} : w.heap[b]? = some (.cells arr e (0, 0)) → arr.size = cap * n → arr.toList.take (xs.length * n) = cs →
      (∀ x, x ∈ xs → (T.cells x).length = n) → xs.length ≤ cap → cap ≤ maxLen → OwnL w cs (xs.flatMap T.cells) bs → OwnL w vs ts bs' →
      OwnL w (.slice (some ⟨b, 0, Option.none⟩) xs.length cap :: vs) (.list n xs :: ts) (b :: bs ++ bs')

/-- What a temporary, or a cell of a variable, is known to hold. -/
inductive D where
  | t (x : T)
  | nil
  | agg (l : List D)
  | ref (id i off : Nat)
  | sl (id off len : Nat)
  | rp (x : T) (off : Nat)
  | clo (f : FuncId) (l : List D)
  | tup (l : List D)
  | own (x : T)
  | top

/-- An id's place: its block, cells an element, elements that there is room for. -/
abbrev Place := Nat → Option (Nat × Nat × Nat)

inductive RelD (w : World) (F : Nat → Prop) (β : Place) : List Value → List D → List Nat → Prop
  | done : RelD w F β [] [] []
  | t {x y vs ds bs} : RelL w F [x] [y] → RelD w F β vs ds bs → RelD w F β (x :: vs) (.t y :: ds) bs
  | tagg {arr l vs ds bs} : RelL w F arr.toList l → RelD w F β vs ds bs → RelD w F β (.agg arr :: vs) (.t (.agg l) :: ds) bs
  | nil {vs ds bs} : RelD w F β vs ds bs → RelD w F β (.slice none 0 0 :: vs) (.nil :: ds) bs
  | agg {arr l vs ds bs bs'} : arr.toList.all (·.oneCell') = true → RelD w F β arr.toList l bs → RelD w F β vs ds bs' → RelD w F β (.agg arr :: vs) (.agg l :: ds) (bs ++ bs')
  | ref {id i off b n c vs ds bs} : β id = some (b, n, c) → RelD w F β vs ds bs → RelD w F β (.pointer (some ⟨b, i * n + off, none⟩) :: vs) (.ref id i off :: ds) bs
  | sl {id off len a b n c k vs ds bs} : β id = some (b, n, c) → len ≤ k → off + k = c → (k ≠ 0 → a = some ⟨b, off * n, none⟩) → RelD w F β vs ds bs →
      RelD w F β (.slice a len k :: vs) (.sl id off len :: ds) bs
  | slnil {id a vs ds bs} : β id = none → RelD w F β vs ds bs → RelD w F β (.slice a 0 0 :: vs) (.sl id 0 0 :: ds) bs
  | rp {x b o off arr e fz cs vs ds bs} : F b → w.heap[b]? = some (.cells arr e fz) → (∀ k, k < cs.length → arr[o + k]? = cs[k]?) → RelL w F cs (T.cells x) →
      RelD w F β vs ds bs → RelD w F β (.pointer (some ⟨b, o + off, none⟩) :: vs) (.rp x off :: ds) bs
  | clo {f arr l vs ds bs bs'} : RelD w F β arr.toList l bs → RelD w F β vs ds bs' → RelD w F β (.func (.func f) #[] arr :: vs) (.clo f l :: ds) (bs ++ bs')
  | tup {arr l vs ds bs bs'} : RelD w F β arr.toList l bs → RelD w F β vs ds bs' → RelD w F β (.tuple arr :: vs) (.tup l :: ds) (bs ++ bs')
  | own {x y vs ds bs bs'} : OwnL w [x] [y] bs → RelD w F β vs ds bs' → RelD w F β (x :: vs) (.own y :: ds) (bs ++ bs')
  | top {x vs ds bs} : RelD w F β vs ds bs → RelD w F β (x :: vs) (.top :: ds) bs

/-- Memory of the call's own: a slice's elements (with all that they lead to); a variable's cells. -/
inductive Blk where
  | L (n : Nat) (xs : List T)
  | box (cells : List D)
  | raw (b sz : Nat) (vs : List Value) (ts : List T)
  | rawV (vs : List Value) (ts : List T)
  | ro (vs : List Value) (ts : List T)

def RelB (w : World) (F : Nat → Prop) (β : Place) (id : Nat) : Blk → List Nat → Prop
  | .L n xs, bs => (β id = none ∧ xs = [] ∧ bs = []) ∨ ∃ b cap arr e bs', β id = some (b, n, cap) ∧ w.heap[b]? = some (.cells arr e (0, 0)) ∧ arr.size = cap * n ∧
      (∀ x, x ∈ xs → (T.cells x).length = n) ∧ xs.length ≤ cap ∧ cap ≤ maxLen ∧ OwnL w (arr.toList.take (xs.length * n)) (xs.flatMap T.cells) bs' ∧ bs = b :: bs'
  | .box cells, bs => ∃ b arr e bs', β id = some (b, cells.length, 1) ∧ w.heap[b]? = some (.cells arr e (0, 0)) ∧ RelD w F β arr.toList cells bs' ∧ arr.toList.all (·.oneCell') = true ∧ bs = b :: bs'
  | .raw b sz vs ts, bs => ∃ arr e bs', w.heap[b]? = some (.cells arr e (0, 0)) ∧ arr.size = sz ∧ arr.toList.take vs.length = vs ∧ OwnL w vs ts bs' ∧ bs = b :: bs'
  | .rawV vs ts, bs => OwnL w vs ts bs
  | .ro vs ts, bs => RelL w F vs ts ∧ bs = []

structure St where
  fr : List (Nat × D)
  M : List (Nat × Blk)

def look : List (Nat × D) → Nat → D
  | [], _ => .top
  | (k, d) :: l, t => if k = t then d else look l t

def lookM : List (Nat × Blk) → Nat → Option Blk
  | [], _ => none
  | (k, d) :: l, t => if k = t then some d else lookM l t

/-- The world that the call began in; the blocks that it was given to write; how many temporaries it has. -/
structure Ctx where
  w0 : World
  G : Nat → Prop
  F0 : Nat → Prop
  n : Nat

/-- A run's state is as the abstract one says. -/
structure Conc (c : Ctx) (s : St) (a : Act) (w : World) (F : Nat → Prop) (β : Place) (fb mb : Nat → List Nat) (owner : Nat → Option (Nat ⊕ Nat)) : Prop where
  fr : ∀ t, RelD w F β [a.tmps.getD t undef] [look s.fr t] (fb t)
  mem : ∀ id, match lookM s.M id with | some k => RelB w F β id k (mb id) | none => mb id = []
  ofr : ∀ t b, b ∈ fb t → owner b = some (.inl t)
  omem : ∀ id b, b ∈ mb id → owner b = some (.inr id)
  nfr : ∀ t, (fb t).Nodup
  nmem : ∀ id, (mb id).Nodup
  own : ∀ b, owner b ≠ none → ¬ F b ∧ b < w.heap.size ∧ (c.w0.heap.size ≤ b ∨ c.G b)
  fin : ∀ b, F b → b < w.heap.size
  f0 : ∀ b, c.F0 b → F b
  fnew : ∀ b, F b → c.F0 b ∨ c.w0.heap.size ≤ b ∨ c.G b
  f0in : ∀ b, c.F0 b → b < c.w0.heap.size ∧ ¬ c.G b
  gin : ∀ b, c.G b → b < c.w0.heap.size
  os : w.os = c.w0.os
  tape : w.tape = c.w0.tape
  output : w.output = c.w0.output
  size : c.w0.heap.size ≤ w.heap.size
  keep : ∀ b, b < c.w0.heap.size → ¬ c.G b → w.heap[b]? = c.w0.heap[b]?
  defers : a.defers = []
  tmps : a.tmps.size = c.n

def Is (c : Ctx) (s : St) (a : Act) (w : World) : Prop := ∃ F β fb mb owner, Conc c s a w F β fb mb owner

def lift (c : Ctx) (Q : Exit → St → Prop) : Exit → Act → World → Prop := fun e a w => ∃ s, Is c s a w ∧ Q e s

def W (P : Program) (c : Ctx) (code : Code) (s : St) (Q : Exit → St → Prop) : Prop := ∀ a w, Is c s a w → code.wp P (lift c Q) a w

def WO (P : Program) (c : Ctx) (ops : Array Oper) (l : List Oper) (s : St) (Q : Exit → St → Prop) : Prop := ∀ a w, Is c s a w → wpList P ops (lift c Q) l a w

/-- A function that reads what it is given, and answers new memory. -/
def Pure (P : Program) (f : FuncId) (ds : List D) (r : D) : Prop :=
  ∀ (w : World) (F : Nat → Prop) (args : Array Value), (∀ b, F b → b < w.heap.size) → RelD w F (fun _ => none) args.toList ds [] →
    Calls P f args w fun e w' => ∃ v F' bs, e = .returned v ∧ Below w.heap.size w w' ∧ (∀ b, F b → F' b) ∧ (∀ b, F' b → F b ∨ (w.heap.size ≤ b ∧ b < w'.heap.size)) ∧
      RelD w' F' (fun _ => none) [v] [r] bs ∧ bs.Nodup ∧ ∀ b, b ∈ bs → w.heap.size ≤ b ∧ b < w'.heap.size ∧ ¬ F' b

/-! ### The relations as the world goes on -/

theorem RelL.mono {w w' : World} {F F' : Nat → Prop} (hF : ∀ b, F b → F' b) (hw : ∀ b, F b → w'.heap[b]? = w.heap[b]?) {vs ts} (h : RelL w F vs ts) : RelL w' F' vs ts := by
  induction h with
  | nil => exact .nil
  | v hx _ ih => exact .v hx ih
  | none _ ih => exact .none ih
  | list hb hh hc hn hl _ _ ih1 ih2 => exact .list (hF _ hb) ((hw _ hb).trans hh) hc hn hl ih1 ih2

theorem OwnL.mono {w w' : World} {vs ts bs} (h : OwnL w vs ts bs) (hw : ∀ b, b ∈ bs → w'.heap[b]? = w.heap[b]?) : OwnL w' vs ts bs := by
  induction h with
  | nil => exact .nil
  | v hx _ ih => exact .v hx (ih hw)
  | none _ ih => exact .none (ih hw)
  | list hh ha ht hn hl hm _ _ ih1 ih2 =>
    exact .list ((hw _ (by simp)).trans hh) ha ht hn hl hm (ih1 fun b hb => hw b (by simp [hb])) (ih2 fun b hb => hw b (by simp [hb]))

theorem RelD.mono {w w' : World} {F F' : Nat → Prop} {β β' : Place} (hF : ∀ b, F b → F' b) (hw : ∀ b, F b → w'.heap[b]? = w.heap[b]?)
    {vs ds bs} (h : RelD w F β vs ds bs) (hb : ∀ b, b ∈ bs → w'.heap[b]? = w.heap[b]?) (hβ : ∀ id, β' id = β id) : RelD w' F' β' vs ds bs := by
  induction h with
  | done => exact .done
  | t hx _ ih => exact .t (hx.mono hF hw) (ih hb)
  | tagg hx _ ih => exact .tagg (hx.mono hF hw) (ih hb)
  | nil _ ih => exact .nil (ih hb)
  | agg h1 _ _ ih1 ih2 => exact .agg h1 (ih1 fun b h => hb b (by simp [h])) (ih2 fun b h => hb b (by simp [h]))
  | ref h1 _ ih => exact .ref ((hβ _).trans h1) (ih hb)
  | sl h1 h2 h3 h4 _ ih => exact .sl ((hβ _).trans h1) h2 h3 h4 (ih hb)
  | slnil h1 _ ih => exact .slnil ((hβ _).trans h1) (ih hb)
  | rp h1 h2 h3 h4 _ ih => exact .rp (hF _ h1) ((hw _ h1).trans h2) h3 (h4.mono hF hw) (ih hb)
  | clo _ _ ih1 ih2 => exact .clo (ih1 fun b h => hb b (by simp [h])) (ih2 fun b h => hb b (by simp [h]))
  | tup _ _ ih1 ih2 => exact .tup (ih1 fun b h => hb b (by simp [h])) (ih2 fun b h => hb b (by simp [h]))
  | own h1 _ ih => exact .own (h1.mono fun b h => hb b (by simp [h])) (ih fun b h => hb b (by simp [h]))
  | top _ ih => exact .top (ih hb)

/-! ### The rules of the code's structure -/
section
variable {P : Program} {c : Ctx} {s : St} {Q : Exit → St → Prop}

def Le (c : Ctx) (s s' : St) : Prop := ∀ a w, Is c s a w → Is c s' a w

theorem Le.refl {s : St} : Le c s s := fun _ _ h => h
theorem Le.trans {s s' s'' : St} (h : Le c s s') (h' : Le c s' s'') : Le c s s'' := fun a w hh => h' a w (h a w hh)

theorem W_le {code : Code} {s' : St} (h : Le c s s') (k : W P c code s' Q) : W P c code s Q := fun a w hh => k a w (h a w hh)
theorem WO_le {ops : Array Oper} {l : List Oper} {s' : St} (h : Le c s s') (k : WO P c ops l s' Q) : WO P c ops l s Q := fun a w hh => k a w (h a w hh)

theorem W_mono {code : Code} {Q' : Exit → St → Prop} (k : W P c code s Q') (h : ∀ e s, Q' e s → Q e s) : W P c code s Q :=
  fun a w hh => Code.wp_mono (fun _ _ _ ⟨s', h1, h2⟩ => ⟨s', h1, h _ _ h2⟩) (k a w hh)

def thenQ (P : Program) (c : Ctx) (y : Code) (Q : Exit → St → Prop) : Exit → St → Prop
  | .normal, s => W P c y s Q
  | e, s => Q e s

def inBlk (id : Nat) (Q : Exit → St → Prop) : Exit → St → Prop
  | .exit id', s => if id' = id then Q .normal s else Q (.exit id') s
  | e, s => Q e s

theorem W_seq {x y : Code} (h : W P c x s (thenQ P c y Q)) : W P c (.seq x y) s Q := by
  intro a w hi
  refine wp_seq (Code.wp_mono ?_ (h a w hi))
  rintro e a' w' ⟨s', h1, h2⟩
  cases e with
  | normal => exact h2 a' w' h1
  | _ => exact ⟨s', h1, h2⟩

theorem W_block {id : Nat} {x : Code} (h : W P c x s (inBlk id Q)) : W P c (.block id x) s Q := by
  intro a w hi
  refine wp_block (Code.wp_mono ?_ (h a w hi))
  rintro e a' w' ⟨s', h1, h2⟩
  cases e with
  | exit id' =>
    simp only [inBlk, Exit.inBlock] at *
    split
    · rename_i hid; rw [if_pos hid] at h2; exact ⟨s', h1, h2⟩
    · rename_i hid; rw [if_neg hid] at h2; exact ⟨s', h1, h2⟩
  | _ => exact ⟨s', h1, h2⟩

theorem W_skip (h : Q .normal s) : W P c .skip s Q := fun _ _ hi => wp_skip ⟨s, hi, h⟩
theorem W_exit {id : Nat} (h : Q (.exit id) s) : W P c (.exit id) s Q := fun _ _ hi => wp_exit ⟨s, hi, h⟩
theorem W_ret (h : Q .ret s) : W P c .ret s Q := fun _ _ hi => wp_ret ⟨s, hi, h⟩

/-- An operand as it is known. -/
def opd (fr : List (Nat × D)) : Operand → D
  | .tmp t => look fr t
  | .const v => match v with
    | .slice none 0 0 => .nil
    | .agg _ => .top
    | .tuple _ => .top
    | v => .t (.v v)
  | .func f => .clo f []
  | .global _ => .top

theorem relL_one {w : World} {F : Nat → Prop} {x : Value} {y : Value} (h : RelL w F [x] [.v y]) : x = y := by
  cases h; rfl

theorem relD_t {w : World} {F : Nat → Prop} {β : Place} {x y : Value} {bs : List Nat} (h : RelD w F β [x] [.t (.v y)] bs) : x = y := by
  cases h with
  | t h _ => exact relL_one h

theorem Conc.opd {a : Act} {w : World} {F β fb mb ow} (h : Conc c s a w F β fb mb ow) (x : Operand) :
    ∃ bs, RelD w F β [a.eval x] [opd s.fr x] bs ∧ (bs = [] ∨ ∃ t, x = .tmp t ∧ bs = fb t) := by
  cases x with
  | tmp t => exact ⟨fb t, h.fr t, .inr ⟨t, rfl, rfl⟩⟩
  | const v =>
    refine ⟨[], ?_, .inl rfl⟩
    simp only [Eng.opd, Act.eval]
    split
    · exact .nil .done
    · exact .top .done
    · exact .top .done
    · rename_i h1 h2 h3
      refine .t (.v ?_ .nil) .done
      cases v <;> first | rfl | exact (h2 _ rfl).elim | exact (h3 _ rfl).elim
  | global g => exact ⟨[], .top .done, .inl rfl⟩
  | func f => exact ⟨[], .clo (arr := #[]) (l := []) .done .done, .inl rfl⟩

theorem W_cond {x : Operand} {y z : Code} {b : Bool} (h : opd s.fr x = .t (.bool b)) (ht : b = true → W P c y s Q) (hf : b = false → W P c z s Q) : W P c (.cond x y z) s Q := by
  rintro a w ⟨F, β, fb, mb, ow, hi⟩
  obtain ⟨bs, hr, _⟩ := hi.opd x
  rw [h] at hr
  have he := relD_t hr
  exact wp_cond_split he (fun hb => ht hb a w ⟨F, β, fb, mb, ow, hi⟩) (fun hb => hf hb a w ⟨F, β, fb, mb, ow, hi⟩)

theorem W_loop {α : Type} {body : Code} (S : α → St) (μ : α → Nat) (x0 : α) (h0 : Le c s (S x0))
    (round : ∀ x, W P c body (S x) (fun e s' => match e with | .normal => ∃ x', Le c s' (S x') ∧ μ x' < μ x | e => Q e s')) : W P c (.loop body) s Q := by
  intro a w hi b k cs
  have key : ∀ n x, μ x = n → ∀ a w, Is c (S x) a w →
      ∃ e a' w', lift c Q e a' w' ∧ Arrives P (lone (b.at a (.code body :: .inLoop body :: k)) cs w) b k cs e a' w' := by
    intro n
    induction n using Nat.strongRecOn with
    | _ n ih =>
      intro x hn a w hI
      obtain ⟨e, a₁, w₁, ⟨s', h1, hq⟩, harr⟩ := round x a w hI b (.inLoop body :: k) cs
      cases e with
      | normal =>
        obtain ⟨x', hle, hlt⟩ := hq
        obtain ⟨e₂, a₂, w₂, hq₂, harr₂⟩ := ih (μ x') (hn ▸ hlt) x' rfl a₁ w₁ (hle _ _ h1)
        exact ⟨e₂, a₂, w₂, hq₂, .of_steps (Steps.trans harr (.one step_inLoop)) harr₂⟩
      | exit id => exact ⟨_, a₁, w₁, ⟨s', h1, hq⟩, .pass (x := .inLoop body) rfl (fun _ _ => .inl (by simp)) harr⟩
      | goto l => exact ⟨_, a₁, w₁, ⟨s', h1, hq⟩, .pass (x := .inLoop body) rfl (fun _ _ => .inl (by simp)) harr⟩
      | ret => exact ⟨_, a₁, w₁, ⟨s', h1, hq⟩, .pass (x := .inLoop body) rfl (fun _ _ => .inl (by simp)) harr⟩
      | panic ch => exact ⟨_, a₁, w₁, ⟨s', h1, hq⟩, .pass (x := .inLoop body) rfl (fun _ _ => .inl (by simp)) harr⟩
      | outgrown => exact ⟨_, a₁, w₁, ⟨s', h1, hq⟩, .pass (x := .inLoop body) rfl (fun _ _ => .inl (by simp)) harr⟩
  obtain ⟨e, a', w', hq, harr⟩ := key _ x0 rfl a w (h0 _ _ hi)
  exact ⟨e, a', w', hq, .of_steps (.one step_loop) harr⟩

theorem W_region {id : Nat} {l : List Oper} (h : WO P c l.toArray l s Q) : W P c (.region id l.toArray false) s Q :=
  fun a w hi => wp_region_lit (h a w hi)

theorem WO_nil {ops : Array Oper} (h : Q .normal s) : WO P c ops [] s Q := fun _ _ hi => ⟨s, hi, h⟩

/-- What is forgotten. -/
def Sub : List (Nat × D) → List (Nat × D) → Prop
  | [], _ => True
  | (k, d) :: l, fr => look fr k = d ∧ Sub l fr

def SubM : List (Nat × Blk) → List (Nat × Blk) → Prop
  | [], _ => True
  | (k, d) :: l, M => lookM M k = some d ∧ SubM l M

theorem Sub.spec : ∀ {l fr : List (Nat × D)}, Sub l fr → ∀ t, look l t = look fr t ∨ look l t = .top
  | [], _, _, _ => .inr rfl
  | (k, d) :: l, fr, h, t => by
    simp only [look]
    split
    · rename_i e; subst e; exact .inl h.1.symm
    · exact Sub.spec h.2 t

theorem SubM.spec : ∀ {l M : List (Nat × Blk)}, SubM l M → ∀ t, lookM l t = lookM M t ∨ lookM l t = none
  | [], _, _, _ => .inr rfl
  | (k, d) :: l, M, h, t => by
    simp only [lookM]
    split
    · rename_i e; subst e; exact .inl h.1.symm
    · exact SubM.spec h.2 t

theorem Le.of {s' : St} (h1 : ∀ t, look s'.fr t = look s.fr t ∨ look s'.fr t = .top) (h2 : ∀ t, lookM s'.M t = lookM s.M t ∨ lookM s'.M t = none) : Le c s s' := by
  rintro a w ⟨F, β, fb, mb, ow, hi⟩
  classical
  refine ⟨F, β, fun t => if look s'.fr t = look s.fr t then fb t else [], fun t => if lookM s'.M t = lookM s.M t then mb t else [], ow, ?_⟩
  refine { hi with fr := fun t => ?_, mem := fun t => ?_, ofr := fun t b hb => ?_, omem := fun t b hb => ?_, nfr := fun t => ?_, nmem := fun t => ?_ }
  · split
    · rename_i e; rw [e]; exact hi.fr t
    · rename_i e; rw [(h1 t).resolve_left e]; exact .top .done
  · by_cases e : lookM s'.M t = lookM s.M t
    · rw [if_pos e, e]; exact hi.mem t
    · rw [if_neg e, (h2 t).resolve_left e]
  · split at hb
    · exact hi.ofr t b hb
    · cases hb
  · split at hb
    · exact hi.omem t b hb
    · cases hb
  · split
    · exact hi.nfr t
    · simp
  · split
    · exact hi.nmem t
    · simp

theorem Le.sub {s' : St} (h1 : Sub s'.fr s.fr) (h2 : SubM s'.M s.M) : Le c s s' := Le.of h1.spec h2.spec

end

/-! ### Operations that yield a value and leave memory alone -/
section
variable {P : Program} {c : Ctx} {s : St} {Q : Exit → St → Prop} {ops : Array Oper} {rest : List Oper} {o : Oper}

theorem getD_put (a : Act) (t u : Nat) (v : Value) (h : t < a.tmps.size) : (a.put (some t) v).tmps.getD u undef = if t = u then v else a.tmps.getD u undef := by
  by_cases e : t = u
  · subst e
    simp [Act.put, h]
  · simp [Act.put, e, Array.getElem?_setIfInBounds_ne e]

theorem size_put (a : Act) (t : Option Nat) (v : Value) : (a.put t v).tmps.size = a.tmps.size := by cases t <;> simp [Act.put]
theorem defers_put (a : Act) (t : Option Nat) (v : Value) : (a.put t v).defers = a.defers := by cases t <;> rfl

/-- A temporary is set to what owns nothing. -/
theorem Conc.put {a : Act} {w : World} {F β fb mb ow} (hi : Conc c s a w F β fb mb ow) {t : Nat} (ht : t < c.n) {v : Value} {d : D} (hv : RelD w F β [v] [d] []) :
    Conc c ⟨(t, d) :: s.fr, s.M⟩ (a.put (some t) v) w F β (fun u => if t = u then [] else fb u) mb ow :=
  { hi with
    fr := fun u => by
      rw [getD_put _ _ _ _ (by rw [hi.tmps]; exact ht)]
      simp only [look]
      split
      · exact hv
      · exact hi.fr u
    ofr := fun u b hb => by
      split at hb
      · cases hb
      · exact hi.ofr u b hb
    nfr := fun u => by
      split
      · simp
      · exact hi.nfr u
    defers := (defers_put a _ v).trans hi.defers
    tmps := (size_put a _ v).trans hi.tmps }

theorem WO_val {t : Nat} (hg : o.guard = none) (hd : o.dst = some t) (ht : t < c.n) (d : D)
    (h : ∀ a w F β fb mb ow, Conc c s a w F β fb mb ow → ∃ v, (execOp a.eval o).run P w = .ok (.value v) w ∧ RelD w F β [v] [d] [])
    (k : WO P c ops rest ⟨(t, d) :: s.fr, s.M⟩ Q) : WO P c ops (o :: rest) s Q := by
  rintro a w ⟨F, β, fb, mb, ow, hi⟩
  obtain ⟨v, hr, hv⟩ := h a w F β fb mb ow hi
  refine wpList_plain hg fun K hK => ?_
  unfold Oper.wp
  rw [hr, Oper.upon_value, hd]
  exact hK _ _ (k _ _ ⟨F, β, _, mb, ow, hi.put ht hv⟩)

/-- Nothing is owned there. -/
def D.free : D → Bool
  | .t _ | .nil | .ref _ _ _ | .sl _ _ _ | .rp _ _ | .top => true
  | .own _ => false
  | .agg l | .clo _ l | .tup l => freeL l
where freeL : List D → Bool
  | [] => true
  | d :: l => d.free && freeL l

theorem RelD.free {w : World} {F : Nat → Prop} {β : Place} {vs ds bs} (h : RelD w F β vs ds bs) (hf : D.free.freeL ds = true) : bs = [] := by
  induction h with
  | done => rfl
  | agg _ _ _ ih1 ih2 | clo _ _ ih1 ih2 | tup _ _ ih1 ih2 =>
    simp only [D.free.freeL, D.free, Bool.and_eq_true] at hf
    rw [ih1 hf.1, ih2 hf.2]; rfl
  | own => simp [D.free.freeL, D.free] at hf
  | t _ _ ih | tagg _ _ ih | nil _ ih | ref _ _ ih | sl _ _ _ _ _ ih | slnil _ _ ih | rp _ _ _ _ _ ih | top _ ih =>
    simp only [D.free.freeL, Bool.and_eq_true] at hf
    exact ih hf.2

theorem RelD.free1 {w : World} {F : Nat → Prop} {β : Place} {v d bs} (h : RelD w F β [v] [d] bs) (hf : d.free = true) : bs = [] :=
  h.free (by simp [D.free.freeL, hf])

/-- What is known of a copy. -/
def D.dup (d : D) : D := if d.free then d else .top

theorem RelD.dup {w : World} {F : Nat → Prop} {β : Place} {v d bs} (h : RelD w F β [v] [d] bs) : RelD w F β [v] [d.dup] [] := by
  unfold D.dup
  split
  · rename_i hf; have := h.free1 hf; subst this; exact h
  · exact .top .done


/-- What is known of a type: is it a bool, a text, a pointer, of one cell else; a struct (the places of its fields); a slice (of what)? -/
inductive TK where
  | one
  | bool
  | str
  | ptr
  | agg (offs : List Nat)
  | slice (e : Nat)

structure TI where
  kind : TK
  size : Nat
  bytes : Nat
  zero : List Value

def TI.ok (P : Program) (t : Nat) (x : TI) : Prop :=
  (∃ i z, P.info? t = some i ∧ i.size = x.size ∧ i.bytes = x.bytes ∧ i.zero = some z ∧ z.cells.toList = x.zero) ∧
  match x.kind with
  | .one => x.size = 1 ∧ ∃ d, P.underlying t = some d ∧ (match d with | .struct _ => False | .array _ _ => False | _ => True)
  | .bool => x.size = 1 ∧ P.underlying t = some .bool
  | .str => x.size = 1 ∧ P.underlying t = some .string
  | .ptr => x.size = 1 ∧ ∃ e, P.underlying t = some (.pointer e)
  | .slice e => x.size = 1 ∧ P.underlying t = some (.slice e)
  | .agg offs => ∃ fs, P.underlying t = some (.struct fs) ∧ fs.toList.map (·.offset) = offs ∧ ∀ f, f ∈ fs.toList → ∃ i, P.info? f.type = some i ∧ i.size ≠ 0

/-- A table of types. -/
abbrev Tys := List (Nat × TI)
def tyOf : Tys → Nat → Option TI
  | [], _ => none
  | (k, x) :: l, t => if k = t then some x else tyOf l t

def Tys.ok (P : Program) : Tys → Prop
  | [] => True
  | (k, x) :: l => x.ok P k ∧ Tys.ok P l

theorem Tys.ok.get {P : Program} : ∀ {Γ : Tys} {t : Nat} {x : TI}, Tys.ok P Γ → tyOf Γ t = some x → x.ok P t
  | (k, y) :: l, t, x, h, e => by
    simp only [tyOf] at e
    split at e
    · rename_i hk; subst hk; cases e; exact h.1
    · exact Tys.ok.get h.2 e

def TK.isAgg : TK → Bool
  | .agg _ => true
  | _ => false

theorem TI.ok.one {P : Program} {t : Nat} {x : TI} (h : x.ok P t) (hk : x.kind.isAgg = false) : x.size = 1 ∧ ∃ d, P.underlying t = some d ∧ (match d with | .struct _ => False | .array _ _ => False | _ => True) := by
  obtain ⟨_, h⟩ := h
  cases hx : x.kind <;> rw [hx] at h hk
  · exact h
  · exact ⟨h.1, _, h.2, trivial⟩
  · exact ⟨h.1, _, h.2, trivial⟩
  · obtain ⟨h1, e, h2⟩ := h; exact ⟨h1, _, h2, trivial⟩
  · simp [TK.isAgg] at hk
  · exact ⟨h.1, _, h.2, trivial⟩

theorem run_isAgg_one {t : Nat} {x : TI} (h : x.ok P t) (hk : x.kind.isAgg = false) (w : World) : (isAgg t).run P w = .ok false w := by
  obtain ⟨_, d, hd, hm⟩ := h.one hk
  unfold isAgg
  simp only [Sem.run_bind, run_underlying hd, Result.andThen_ok]
  cases d <;> first | exact hm.elim | rfl

theorem run_isAgg_agg {t : Nat} {x : TI} (h : x.ok P t) (hk : x.kind.isAgg = true) (w : World) : (isAgg t).run P w = .ok true w := by
  obtain ⟨_, h⟩ := h
  cases hx : x.kind <;> rw [hx] at h hk <;> simp [TK.isAgg] at hk
  obtain ⟨fs, h1, _⟩ := h
  unfold isAgg
  simp only [Sem.run_bind, run_underlying h1, Result.andThen_ok]
  rfl

theorem run_sizeOf {t : Nat} {x : TI} (h : x.ok P t) (w : World) : (sizeOf t).run P w = .ok x.size w := by
  obtain ⟨⟨i, z, h1, h2, h3, h4, h5⟩, _⟩ := h
  simp [sizeOf, typeInfo, h1, h2]

theorem cell_of {w : World} {b o : Nat} {arr : Array Value} {e : TypeId} {fz : Nat × Nat} (h : w.heap[b]? = some (.cells arr e fz)) : w.cell? ⟨b, o, none⟩ = arr[o]? := by
  simp [World.cell?, h]

theorem add_none (b o k : Nat) : (⟨b, o, none⟩ : Addr).add k = ⟨b, o + k, none⟩ := by
  unfold Addr.add; split
  · rename_i h; subst h; rfl
  · rfl

/-- A load of one cell. -/
theorem run_loadVar_one {t : Nat} {x : TI} (h : x.ok P t) (hk : x.kind.isAgg = false) {w : World} {a : Addr} {v : Value} (hc : w.cell? a = some v) : (loadVar t a).run P w = .ok v w := by
  unfold loadVar
  simp [run_isAgg_one h hk, hc]

theorem run_loadVar_agg {t : Nat} {x : TI} (h : x.ok P t) (hk : x.kind.isAgg = true) {w : World} {a : Addr} {cs : List Value} (hl : cs.length = x.size)
    (hc : ∀ j v, cs[j]? = some v → w.cell? (a.add j) = some v) : (loadVar t a).run P w = .ok (.agg cs.toArray) w := by
  unfold loadVar
  simp only [Sem.run_bind, run_isAgg_agg h hk, Result.andThen_ok, if_true, run_sizeOf h]
  rw [← hl, run_loadCells_list w a cs hc]
  rfl

/-! Lists of cells, part by part -/

theorem RelL.length {w : World} {F : Nat → Prop} {vs ts} (h : RelL w F vs ts) : vs.length = ts.length := by
  induction h <;> simp_all

theorem RelL.cons {w : World} {F : Nat → Prop} {v vs t ts} (h : RelL w F (v :: vs) (t :: ts)) : RelL w F [v] [t] ∧ RelL w F vs ts := by
  cases h with
  | v h1 h2 => exact ⟨.v h1 .nil, h2⟩
  | none h => exact ⟨.none .nil, h⟩
  | list h1 h2 h3 h4 h5 h6 h7 => exact ⟨.list h1 h2 h3 h4 h5 h6 .nil, h7⟩

theorem RelL.cons' {w : World} {F : Nat → Prop} {v vs t ts} (h : RelL w F [v] [t]) (k : RelL w F vs ts) : RelL w F (v :: vs) (t :: ts) := by
  cases h with
  | v h1 h2 => exact .v h1 k
  | none h => exact .none k
  | list h1 h2 h3 h4 h5 h6 h7 => exact .list h1 h2 h3 h4 h5 h6 k

theorem RelL.drop {w : World} {F : Nat → Prop} : ∀ {vs ts} (k : Nat), RelL w F vs ts → RelL w F (vs.drop k) (ts.drop k)
  | _, _, 0, h => h
  | [], [], _ + 1, h => by simpa using h
  | [], _ :: _, _, h => by cases h
  | _ :: _, [], _, h => by cases h
  | _ :: _, _ :: _, k + 1, h => RelL.drop k h.cons.2

theorem RelL.take {w : World} {F : Nat → Prop} : ∀ {vs ts} (k : Nat), RelL w F vs ts → RelL w F (vs.take k) (ts.take k)
  | _, _, 0, h => by simpa using RelL.nil
  | [], [], _ + 1, h => by simpa using h
  | [], _ :: _, _, h => by cases h
  | _ :: _, [], _, h => by cases h
  | _ :: _, _ :: _, k + 1, h => RelL.cons' h.cons.1 (RelL.take k h.cons.2)

theorem RelL.get {w : World} {F : Nat → Prop} : ∀ {vs ts} (k : Nat) {t}, RelL w F vs ts → ts[k]? = some t → ∃ v, vs[k]? = some v ∧ RelL w F [v] [t]
  | [], [], _, _, _, e => by simp at e
  | [], _ :: _, _, _, h, _ => by cases h
  | _ :: _, [], _, _, h, _ => by cases h
  | x0 :: _, _ :: _, 0, _, h, e => by simp at e; subst e; exact ⟨x0, rfl, h.cons.1⟩
  | _ :: _, _ :: _, k + 1, _, h, e => by
    obtain ⟨v, h1, h2⟩ := RelL.get k h.cons.2 (by simpa using e)
    exact ⟨v, by simpa using h1, h2⟩

theorem RelL.append {w : World} {F : Nat → Prop} : ∀ {vs ts vs' ts'}, RelL w F vs ts → RelL w F vs' ts' → RelL w F (vs ++ vs') (ts ++ ts')
  | [], [], _, _, _, k => k
  | [], _ :: _, _, _, h, _ => by cases h
  | _ :: _, [], _, _, h, _ => by cases h
  | _ :: _, _ :: _, _, _, h, k => RelL.cons' h.cons.1 (RelL.append h.cons.2 k)

theorem RelD.length {w : World} {F : Nat → Prop} {β vs ds bs} (h : RelD w F β vs ds bs) : vs.length = ds.length := by
  induction h <;> simp_all

theorem RelD.cons {w : World} {F : Nat → Prop} {β v vs d ds bs} (h : RelD w F β (v :: vs) (d :: ds) bs) : ∃ b1 b2, RelD w F β [v] [d] b1 ∧ RelD w F β vs ds b2 ∧ bs = b1 ++ b2 := by
  cases h with
  | t h1 h2 => exact ⟨[], _, .t h1 .done, h2, rfl⟩
  | tagg h1 h2 => exact ⟨[], _, .tagg h1 .done, h2, rfl⟩
  | nil h => exact ⟨[], _, .nil .done, h, rfl⟩
  | agg h0 h1 h2 => exact ⟨_ ++ [], _, .agg h0 h1 .done, h2, by simp⟩
  | ref h1 h2 => exact ⟨[], _, .ref h1 .done, h2, rfl⟩
  | sl h1 h2 h3 h4 h5 => exact ⟨[], _, .sl h1 h2 h3 h4 .done, h5, rfl⟩
  | slnil h1 h2 => exact ⟨[], _, .slnil h1 .done, h2, rfl⟩
  | rp h1 h2 h3 h4 h5 => exact ⟨[], _, .rp h1 h2 h3 h4 .done, h5, rfl⟩
  | clo h1 h2 => exact ⟨_ ++ [], _, .clo h1 .done, h2, by simp⟩
  | tup h1 h2 => exact ⟨_ ++ [], _, .tup h1 .done, h2, by simp⟩
  | own h1 h2 => exact ⟨_ ++ [], _, .own h1 .done, h2, by simp⟩
  | top h => exact ⟨[], _, .top .done, h, rfl⟩

theorem RelD.cons' {w : World} {F : Nat → Prop} {β v vs d ds b1 b2} (h : RelD w F β [v] [d] b1) (k : RelD w F β vs ds b2) : RelD w F β (v :: vs) (d :: ds) (b1 ++ b2) := by
  cases h with
  | t h1 h2 => cases h2; exact .t h1 k
  | tagg h1 h2 => cases h2; exact .tagg h1 k
  | nil h => cases h; exact .nil k
  | agg h0 h1 h2 => cases h2; simpa using RelD.agg h0 h1 k
  | ref h1 h2 => cases h2; exact .ref h1 k
  | sl h1 h2 h3 h4 h5 => cases h5; exact .sl h1 h2 h3 h4 k
  | slnil h1 h2 => cases h2; exact .slnil h1 k
  | rp h1 h2 h3 h4 h5 => cases h5; exact .rp h1 h2 h3 h4 k
  | clo h1 h2 => cases h2; simpa using RelD.clo h1 k
  | tup h1 h2 => cases h2; simpa using RelD.tup h1 k
  | own h1 h2 => cases h2; simpa using RelD.own h1 k
  | top h => cases h; exact .top k

theorem RelD.get {w : World} {F : Nat → Prop} {β} : ∀ {vs ds bs} (k : Nat) {d}, RelD w F β vs ds bs → ds[k]? = some d → ∃ v b, vs[k]? = some v ∧ RelD w F β [v] [d] b
  | [], [], _, _, _, _, e => by simp at e
  | [], _ :: _, _, _, _, h, _ => by cases h
  | _ :: _, [], _, _, _, h, _ => by cases h
  | v :: _, _ :: _, _, 0, _, h, e => by
    simp at e; subst e
    obtain ⟨b1, _, h1, _⟩ := h.cons
    exact ⟨v, b1, rfl, h1⟩
  | _ :: _, _ :: _, _, k + 1, _, h, e => by
    obtain ⟨_, _, _, h2, _⟩ := h.cons
    obtain ⟨v, b, h3, h4⟩ := RelD.get k h2 (by simpa using e)
    exact ⟨v, b, by simpa using h3, h4⟩

/-- The part of a list of cells, where it owns nothing. -/
theorem RelD.part {w : World} {F : Nat → Prop} {β} : ∀ {vs ds bs} (k n : Nat), RelD w F β vs ds bs → D.free.freeL ((ds.drop k).take n) = true → RelD w F β ((vs.drop k).take n) ((ds.drop k).take n) []
  | _, _, _, _, 0, _, _ => by simpa using RelD.done
  | [], [], _, _, _, _, _ => by simpa using RelD.done
  | [], _ :: _, _, _, _, h, _ => by cases h
  | _ :: _, [], _, _, _, h, _ => by cases h
  | _ :: _, _ :: _, _, k + 1, n, h, e => by
    obtain ⟨_, _, _, h2, _⟩ := h.cons
    exact RelD.part k n h2 e
  | _ :: _, _ :: _, _, 0, n + 1, h, e => by
    obtain ⟨b1, _, h1, h2, _⟩ := h.cons
    simp only [List.drop_zero, List.take_succ_cons, D.free.freeL, Bool.and_eq_true] at e
    have := h1.free1 e.1
    subst this
    exact RelD.cons' h1 (RelD.part 0 n h2 e.2)

/-- Integers, as the model reckons. -/
def evInt : BinOp → Int → Int → Option D
  | .add, a, b => some (.t (.int (IntKind.i64.wrap (a + b))))
  | .sub, a, b => some (.t (.int (IntKind.i64.wrap (a - b))))
  | .mul, a, b => some (.t (.int (IntKind.i64.wrap (a * b))))
  | .eql, a, b => some (.t (.bool (decide (a = b))))
  | .neq, a, b => some (.t (.bool (decide (a ≠ b))))
  | .lss, a, b => some (.t (.bool (decide (a < b))))
  | .leq, a, b => some (.t (.bool (decide (a ≤ b))))
  | .gtr, a, b => some (.t (.bool (decide (b < a))))
  | .geq, a, b => some (.t (.bool (decide (b ≤ a))))
  | _, _, _ => none

def evBin (k : Option TK) : BinOp → D → D → Option D
  | op, .t (.v (.int .i64 a)), .t (.v (.int .i64 b)) => evInt op a b
  | .eql, .t (.v (.bool a)), .t (.v (.bool b)) => match k with | some .bool => some (.t (.bool (a == b))) | _ => none
  | .neq, .t (.v (.bool a)), .t (.v (.bool b)) => match k with | some .bool => some (.t (.bool (a != b))) | _ => none
  | _, _, _ => none

theorem run_evInt {op : BinOp} {ty : Nat} {a b : Int} {d : D} {w : World} {F : Nat → Prop} {β : Place}
    (h : evInt op a b = some d) (ox oy : Operand) : ∃ v, ((do eqGuard op ty ox oy (.int .i64 a) (.int .i64 b); binOp op ty (.int .i64 a) (.int .i64 b) : Sem Value)).run P w = .ok v w ∧ RelD w F β [v] [d] [] := by
  cases op <;> simp only [evInt, Option.some.injEq, reduceCtorEq] at h <;> subst h <;>
    first
      | (refine ⟨_, ?_, .t (.v rfl .nil) .done⟩; simp [eqGuard, binOp, Op.intArith, Op.intCmp]; done)
      | (refine ⟨_, ?_, .t (.v rfl .nil) .done⟩; simp [eqGuard, binOp, Op.intArith, Op.intCmp]; rfl)
      | (refine ⟨_, ?_, .t (.v rfl .nil) .done⟩; simp [eqGuard, binOp, Op.intArith, Op.intCmp]; grind)

/-- The length of what is known. -/
def lenD (k : TK) : D → Option D
  | .sl _ _ n => match k with | .slice _ => some (.t (.int n)) | _ => none
  | .t (.list _ l) => match k with | .slice _ => some (.t (.int l.length)) | _ => none
  | .nil => match k with | .slice _ => some (.t (.int 0)) | _ => none
  | .t (.v (.string b)) => match k with | .str => some (.t (.int b.size)) | _ => none
  | _ => none

/-- The cell(s) of a type at a place. -/
def partD (k : TK) (n : Nat) (cells : List D) (off : Nat) : Option D :=
  if k.isAgg then
    if off + n ≤ cells.length then
      if D.free.freeL ((cells.drop off).take n) then some (.agg ((cells.drop off).take n)) else none
    else none
  else match cells[off]? with
    | some d => if d.free then some d else none
    | none => none

def partT (k : TK) (n : Nat) (cells : List T) (off : Nat) : Option D :=
  if k.isAgg then
    if off + n ≤ cells.length then some (.t (.agg ((cells.drop off).take n))) else none
  else match cells[off]? with
    | some (.agg _) => none
    | some x => some (.t x)
    | none => none

/-- The value of an operation that leaves memory alone. -/
def evV (Γ : Tys) (s : St) : Op → Option D
  | .move x => some (opd s.fr x).dup
  | .assign x => some (opd s.fr x).dup
  | .pick x a b => match opd s.fr x with
    | .t (.v (.bool true)) => some (opd s.fr a).dup
    | .t (.v (.bool false)) => some (opd s.fr b).dup
    | _ => none
  | .binOp op ty x y _ => evBin ((tyOf Γ ty).map (·.kind)) op (opd s.fr x) (opd s.fr y)
  | .unOp .not _ x => match opd s.fr x with
    | .t (.v (.bool b)) => some (.t (.bool (!b)))
    | _ => none
  | .unOp .neg _ x => match opd s.fr x with
    | .t (.v (.int .i64 b)) => some (.t (.int (IntKind.i64.wrap (0 - b))))
    | _ => none
  | .fieldAddr ty x k => match tyOf Γ ty with
    | some ti => match ti.kind with
      | .agg offs => match offs[k]?, opd s.fr x with
        | some f, .ref id i off => some (.ref id i (off + f))
        | some f, .rp y off => some (.rp y (off + f))
        | _, _ => none
      | _ => none
    | none => none
  | .load ty x => match tyOf Γ ty with
    | some ti => match opd s.fr x with
      | .rp y off => partT ti.kind ti.size y.cells off
      | .ref id 0 off => match lookM s.M id with
        | some (.box cells) => partD ti.kind ti.size cells off
        | _ => none
      | _ => none
    | none => none
  | .extract x k => match opd s.fr x with
    | .tup l => match l[k]? with
      | some d => some d.dup
      | none => none
    | _ => none
  | .makeFunc (.func f) first captured => match first.toList with
    | [] => some (.clo f (captured.toList.map fun x => (opd s.fr x).dup))
    | _ => none
  | .call ⟨.builtin .len, args, tys⟩ => match args.toList, tys.toList with
    | [x], [ty] => match tyOf Γ ty with
      | some ti => lenD ti.kind (opd s.fr x)
      | none => none
    | _, _ => none
  | .call ⟨.builtin .min, args, _⟩ => match args.toList with
    | [x, y] => match opd s.fr x, opd s.fr y with
      | .t (.v (.int .i64 a)), .t (.v (.int .i64 b)) => some (.t (.int (if b < a then b else a)))
      | _, _ => none
    | _ => none
  | .call ⟨.builtin .max, args, _⟩ => match args.toList with
    | [x, y] => match opd s.fr x, opd s.fr y with
      | .t (.v (.int .i64 a)), .t (.v (.int .i64 b)) => some (.t (.int (if a < b then b else a)))
      | _, _ => none
    | _ => none
  | _ => none

theorem run_evBin {Γ : Tys} (hΓ : Γ.ok P) {op : BinOp} {ty : Nat} {x y : Value} {d1 d2 d : D} {w : World} {F : Nat → Prop} {β : Place} {b1 b2}
    (h1 : RelD w F β [x] [d1] b1) (h2 : RelD w F β [y] [d2] b2)
    (h : evBin ((tyOf Γ ty).map (·.kind)) op d1 d2 = some d) (ox oy : Operand) : ∃ v, ((do eqGuard op ty ox oy x y; binOp op ty x y : Sem Value)).run P w = .ok v w ∧ RelD w F β [v] [d] [] := by
  unfold evBin at h
  split at h
  · have e1 := relD_t h1; have e2 := relD_t h2
    subst e1; subst e2
    exact run_evInt h ox oy
  · have e1 := relD_t h1; have e2 := relD_t h2
    subst e1; subst e2
    split at h
    · rename_i hk
      cases hty : tyOf Γ ty with
      | none => simp [hty] at hk
      | some ti =>
        rw [hty] at hk
        simp only [Option.map_some, Option.some.injEq] at hk
        have := (hΓ.get hty).2
        rw [hk] at this
        cases h
        refine ⟨_, ?_, .t (.v rfl .nil) .done⟩
        simp [eqGuard, binOp, Op.equal, show Op.maxDepth = 9999 + 1 from rfl, run_equalIn_bool' w 9999 ty _ _ this.2]
    · cases h
  · have e1 := relD_t h1; have e2 := relD_t h2
    subst e1; subst e2
    split at h
    · rename_i hk
      cases hty : tyOf Γ ty with
      | none => simp [hty] at hk
      | some ti =>
        rw [hty] at hk
        simp only [Option.map_some, Option.some.injEq] at hk
        have := (hΓ.get hty).2
        rw [hk] at this
        cases h
        refine ⟨_, ?_, .t (.v rfl .nil) .done⟩
        simp [eqGuard, binOp, Op.equal, show Op.maxDepth = 9999 + 1 from rfl, run_equalIn_bool' w 9999 ty _ _ this.2]
        simp [bne]
    · cases h
  · cases h

theorem relT_list {w : World} {F : Nat → Prop} {x : Value} {n : Nat} {l : List T} (h : RelL w F [x] [.list n l]) : ∃ a c, x = .slice a l.length c ∧ l.length ≤ c := by
  cases h with
  | none h => exact ⟨_, _, rfl, Nat.zero_le _⟩
  | list _ _ _ _ h5 => exact ⟨_, _, rfl, h5⟩

theorem run_lenD {ty : Nat} {ti : TI} (ht : ti.ok P ty) {x : Value} {d e : D} {w : World} {F : Nat → Prop} {β : Place} {bs} (h : RelD w F β [x] [d] bs) (he : lenD ti.kind d = some e) (u : Nat) :
    ∃ v, (Builtin.len_ #[ty] u #[x]).run P w = .ok v w ∧ RelD w F β [v] [e] [] := by
  have hs : ∀ {k : Nat}, (match ti.kind with | .slice _ => some (D.t (.int k)) | _ => none) = some e → ∀ a c, (Builtin.len_ #[ty] u #[.slice a k c]).run P w = .ok (.int .i64 k) w ∧ e = .t (.int k) := by
    intro k he a c
    obtain ⟨_, h2⟩ := ht
    cases hk : ti.kind <;> rw [hk] at he h2 <;> simp at he
    subst he
    exact ⟨by simp [Builtin.len_, run_underlying h2.2, goInt], rfl⟩
  unfold lenD at he
  split at he
  · cases h with
    | sl h1 h2 h3 h4 h5 => obtain ⟨h6, rfl⟩ := hs he _ _; exact ⟨_, h6, .t (.v rfl .nil) .done⟩
    | slnil h1 h2 => obtain ⟨h6, rfl⟩ := hs he _ _; exact ⟨_, h6, .t (.v rfl .nil) .done⟩
  · cases h with
    | t h _ =>
      obtain ⟨a, c, rfl, _⟩ := relT_list h
      obtain ⟨h6, rfl⟩ := hs he a c
      exact ⟨_, h6, .t (.v rfl .nil) .done⟩
  · cases h with
    | nil h => obtain ⟨h6, rfl⟩ := hs (k := 0) he _ _; exact ⟨_, h6, .t (.v rfl .nil) .done⟩
  · have e1 := relD_t h
    subst e1
    obtain ⟨_, h2⟩ := ht
    cases hk : ti.kind <;> rw [hk] at he h2 <;> simp at he
    subst he
    refine ⟨_, ?_, .t (.v rfl .nil) .done⟩
    simp [Builtin.len_, run_underlying h2.2, goInt]
  · cases he

theorem run_fieldAt {ty : Nat} {ti : TI} {offs : List Nat} (ht : ti.ok P ty) (hk : ti.kind = .agg offs) {k f : Nat} (hf : offs[k]? = some f) (b o : Nat) (w : World) :
    (Instr.fieldAt ty (.pointer (some ⟨b, o, none⟩)) k).run P w = .ok (.pointer (some ⟨b, o + f, none⟩)) w := by
  obtain ⟨_, h2⟩ := ht
  rw [hk] at h2
  obtain ⟨fs, h3, h4, h5⟩ := h2
  rw [← h4, List.getElem?_map] at hf
  cases hx : fs.toList[k]? with
  | none => simp [hx] at hf
  | some fl =>
    rw [hx] at hf
    simp only [Option.map_some, Option.some.injEq] at hf
    obtain ⟨i, h6, h7⟩ := h5 fl (List.mem_of_getElem? hx)
    have hx' : fs[k]? = some fl := by simpa using hx
    simp [Instr.fieldAt, run_underlying h3, hx', Instr.sureAddr, fieldPlace, sizeOf, typeInfo, h6, h7, add_none, hf]

theorem run_load_part {ty : Nat} {ti : TI} (ht : ti.ok P ty) {b o off : Nat} {arr : Array Value} {e fz} {cs : List Value} {cells : List D} {d : D} {w : World} {F : Nat → Prop} {β : Place} {bs : List Nat}
    (hh : w.heap[b]? = some (.cells arr e fz)) (ha : ∀ k, k < cs.length → arr[o + k]? = cs[k]?) (hone : cs.all (·.oneCell') = true) (hr : RelD w F β cs cells bs) (hp : partD ti.kind ti.size cells off = some d) :
    ∃ v, (Instr.loadAt ty (.pointer (some ⟨b, o + off, none⟩))).run P w = .ok v w ∧ RelD w F β [v] [d] [] := by
  have hlen := hr.length
  unfold partD at hp
  split at hp
  · rename_i hk
    split at hp
    · rename_i hle
      split at hp
      · rename_i hf
        cases hp
        refine ⟨.agg ((cs.drop off).take ti.size).toArray, ?_, by simpa using RelD.agg (arr := ((cs.drop off).take ti.size).toArray) (by rw [List.all_eq_true] at hone ⊢; intro x hx; exact hone x (List.mem_of_mem_drop (List.mem_of_mem_take (by simpa using hx)))) (by simpa using hr.part off ti.size hf) .done⟩
        have hl : ((cs.drop off).take ti.size).length = ti.size := by simp; omega
        unfold Instr.loadAt
        simp only [Sem.run_bind, Instr.sureAddr, Sem.run_pure, Result.andThen_ok]
        refine run_loadVar_agg ht hk hl fun j v hj => ?_
        rw [add_none, cell_of hh, Nat.add_assoc]
        simp only [List.getElem?_take, List.getElem?_drop] at hj
        split at hj
        · rw [ha _ (by have := List.getElem?_eq_some_iff.1 hj; omega)]; exact hj
        · cases hj
      · cases hp
    · cases hp
  · rename_i hk
    split at hp
    · rename_i d' hd
      split at hp
      · rename_i hf
        cases hp
        obtain ⟨v, b', h1, h2⟩ := hr.get off hd
        have := h2.free1 hf
        subst this
        refine ⟨v, ?_, h2⟩
        unfold Instr.loadAt
        simp only [Sem.run_bind, Instr.sureAddr, Sem.run_pure, Result.andThen_ok]
        refine run_loadVar_one ht (by simpa using hk) ?_
        rw [cell_of hh, ha _ (by have := (List.getElem?_eq_some_iff.1 h1).1; omega)]
        exact h1
      · cases hp
    · cases hp

theorem run_load_T {ty : Nat} {ti : TI} (ht : ti.ok P ty) {b o off : Nat} {arr : Array Value} {e fz} {cs : List Value} {cells : List T} {d : D} {w : World} {F : Nat → Prop} {β : Place}
    (hh : w.heap[b]? = some (.cells arr e fz)) (ha : ∀ k, k < cs.length → arr[o + k]? = cs[k]?) (hr : RelL w F cs cells) (hp : partT ti.kind ti.size cells off = some d) :
    ∃ v, (Instr.loadAt ty (.pointer (some ⟨b, o + off, none⟩))).run P w = .ok v w ∧ RelD w F β [v] [d] [] := by
  have hlen := hr.length
  unfold partT at hp
  split at hp
  · rename_i hk
    split at hp
    · rename_i hle
      cases hp
      refine ⟨.agg ((cs.drop off).take ti.size).toArray, ?_, .tagg (by simpa using (hr.drop off).take ti.size) .done⟩
      have hl : ((cs.drop off).take ti.size).length = ti.size := by simp; omega
      unfold Instr.loadAt
      simp only [Sem.run_bind, Instr.sureAddr, Sem.run_pure, Result.andThen_ok]
      refine run_loadVar_agg ht hk hl fun j v hj => ?_
      rw [add_none, cell_of hh, Nat.add_assoc]
      simp only [List.getElem?_take, List.getElem?_drop] at hj
      split at hj
      · rw [ha _ (by have := List.getElem?_eq_some_iff.1 hj; omega)]; exact hj
      · cases hj
    · cases hp
  · rename_i hk
    split at hp
    · cases hp
    · rename_i x hx hd
      cases hp
      obtain ⟨v, h1, h2⟩ := hr.get off hd
      refine ⟨v, ?_, .t h2 .done⟩
      unfold Instr.loadAt
      simp only [Sem.run_bind, Instr.sureAddr, Sem.run_pure, Result.andThen_ok]
      refine run_loadVar_one ht (by simpa using hk) ?_
      rw [cell_of hh, ha _ (by have := (List.getElem?_eq_some_iff.1 h1).1; omega)]
      exact h1
    · cases hp

theorem relD_map {a : Act} {w : World} {F β fb mb ow} (h : Conc c s a w F β fb mb ow) : ∀ l : List Operand, RelD w F β (l.map a.eval) (l.map fun x => (opd s.fr x).dup) []
  | [] => .done
  | x :: l => by
    obtain ⟨bs, hr, _⟩ := h.opd x
    exact RelD.cons' hr.dup (relD_map h l)

theorem evV_sound {Γ : Tys} (hΓ : Γ.ok P) {d : D} (he : evV Γ s o.op = some d) {a : Act} {w : World} {F β fb mb ow} (hi : Conc c s a w F β fb mb ow) :
    ∃ v, (execOp a.eval o).run P w = .ok (.value v) w ∧ RelD w F β [v] [d] [] := by
  unfold evV at he
  unfold execOp
  split at he
  · rename_i x hx
    cases he
    obtain ⟨bs, hr, _⟩ := hi.opd x
    exact ⟨_, by simp [hx], hr.dup⟩
  · rename_i x hx
    cases he
    obtain ⟨bs, hr, _⟩ := hi.opd x
    exact ⟨_, by simp [hx], hr.dup⟩
  · rename_i x y z hx
    obtain ⟨bs, hr, _⟩ := hi.opd x
    split at he
    · rename_i hxx
      rw [hxx] at hr
      have e1 := relD_t hr
      cases he
      obtain ⟨bs', hr', _⟩ := hi.opd y
      exact ⟨_, by simp [hx, e1, asBool], hr'.dup⟩
    · rename_i hxx
      rw [hxx] at hr
      have e1 := relD_t hr
      cases he
      obtain ⟨bs', hr', _⟩ := hi.opd z
      exact ⟨_, by simp [hx, e1, asBool], hr'.dup⟩
    · cases he
  · rename_i op ty x y ty' hx
    obtain ⟨bs, hr, _⟩ := hi.opd x
    obtain ⟨bs', hr', _⟩ := hi.opd y
    obtain ⟨v, h1, h2⟩ := run_evBin hΓ hr hr' he x y
    refine ⟨v, ?_, h2⟩
    rw [hx]
    simp only [Sem.run_bind] at h1 ⊢
    rw [h1]
    rfl
  · rename_i ty x hx
    obtain ⟨bs, hr, _⟩ := hi.opd x
    split at he
    · rename_i hxx
      rw [hxx] at hr
      have e1 := relD_t hr
      cases he
      exact ⟨_, by simp [hx, e1, Op.unary], .t (.v rfl .nil) .done⟩
    · cases he
  · rename_i ty x hx
    obtain ⟨bs, hr, _⟩ := hi.opd x
    split at he
    · rename_i hxx
      rw [hxx] at hr
      have e1 := relD_t hr
      cases he
      exact ⟨_, by simp [hx, e1, Op.unary, Op.intArith], .t (.v rfl .nil) .done⟩
    · cases he
  · rename_i ty x k hx
    obtain ⟨bs, hr, _⟩ := hi.opd x
    split at he
    · rename_i ti hti
      have ht := hΓ.get hti
      split at he
      · rename_i offs hk
        split at he
        · rename_i f id i off hf hxx
          cases he
          rw [hxx] at hr
          generalize hev : a.eval x = xv at hr
          cases hr with
          | ref h1 h2 =>
            refine ⟨_, by simp [hx, hev, run_fieldAt ht hk hf]; rfl, ?_⟩
            rw [Nat.add_assoc]
            exact .ref h1 .done
        · rename_i f y off hf hxx
          cases he
          rw [hxx] at hr
          generalize hev : a.eval x = xv at hr
          cases hr with
          | rp h1 h2 h3 h4 h5 =>
            refine ⟨_, by simp [hx, hev, run_fieldAt ht hk hf]; rfl, ?_⟩
            rw [Nat.add_assoc]
            exact .rp h1 h2 h3 h4 .done
        · cases he
      · cases he
    · cases he
  · rename_i ty x hx
    obtain ⟨bs, hr, _⟩ := hi.opd x
    split at he
    · rename_i ti hti
      have ht := hΓ.get hti
      split at he
      · rename_i y off hxx
        rw [hxx] at hr
        generalize hev : a.eval x = xv at hr
        cases hr with
        | rp h1 h2 h3 h4 h5 =>
          obtain ⟨v, h6, h7⟩ := run_load_T (β := β) ht h2 h3 h4 he
          exact ⟨v, by simp [hx, hev, h6], h7⟩
      · rename_i id off hxx
        rw [hxx] at hr
        split at he
        · rename_i cells hM
          have hm := hi.mem id
          rw [hM] at hm
          obtain ⟨b, arr, e, bs', hb1, hb2, hb3, hb4⟩ := hm
          generalize hev : a.eval x = xv at hr
          cases hr with
          | ref h1 h2 =>
            rw [hb1] at h1
            cases h1
            obtain ⟨v, h6, h7⟩ := run_load_part (o := 0) (off := off) ht hb2 (by simp) hb4.1 hb3 he
            refine ⟨v, ?_, h7⟩
            simp only [Nat.zero_add, Nat.zero_mul] at h6 hev
            simp [hx, hev, h6]
        · cases he
      · cases he
    · cases he
  · rename_i x k hx
    obtain ⟨bs, hr, _⟩ := hi.opd x
    split at he
    · rename_i l hxx
      rw [hxx] at hr
      split at he
      · rename_i d' hd
        cases he
        generalize hev : a.eval x = xv at hr
        cases hr with
        | tup h1 h2 =>
          obtain ⟨v, b, h3, h4⟩ := h1.get k hd
          refine ⟨v, ?_, h4.dup⟩
          have h3' : _ := h3
          rw [Array.getElem?_toList] at h3'
          simp [hx, hev, Instr.extract, h3']
      · cases he
    · cases he
  · rename_i f first captured hx
    split at he
    · rename_i hf
      cases he
      refine ⟨_, by simp [hx, Instr.makeFunc]; rfl, ?_⟩
      have hf' : first = #[] := by simpa using hf
      subst hf'
      have := relD_map hi captured.toList
      simpa using RelD.clo (f := f) (arr := captured.map a.eval) (by simpa using this) .done
    · cases he
  · rename_i args tys hx
    split at he
    · rename_i x ty ha hty
      split at he
      · rename_i ti hti
        have ht := hΓ.get hti
        obtain ⟨bs, hr, _⟩ := hi.opd x
        obtain ⟨v, h1, h2⟩ := run_lenD ht hr he o.type
        refine ⟨v, ?_, h2⟩
        have ea : args = #[x] := by simpa using congrArg List.toArray ha
        have et : tys = #[ty] := by simpa using congrArg List.toArray hty
        subst ea; subst et
        simp [hx, resolve, invoke, builtin, h1]
      · cases he
    · cases he
  · rename_i args tys hx
    split at he
    · rename_i x y ha
      obtain ⟨bs, hr, _⟩ := hi.opd x
      obtain ⟨bs', hr', _⟩ := hi.opd y
      split at he
      · rename_i p q hxx hyy
        rw [hxx] at hr; rw [hyy] at hr'
        have e1 := relD_t hr; have e2 := relD_t hr'
        cases he
        have ea : args = #[x, y] := by simpa using congrArg List.toArray ha
        subst ea
        refine ⟨.int .i64 (if q < p then q else p), ?_, .t (.v rfl .nil) .done⟩
        simp [hx, resolve, invoke, builtin, e1, e2, Builtin.min_, Builtin.min2]
      · cases he
    · cases he
  · rename_i args tys hx
    split at he
    · rename_i x y ha
      obtain ⟨bs, hr, _⟩ := hi.opd x
      obtain ⟨bs', hr', _⟩ := hi.opd y
      split at he
      · rename_i p q hxx hyy
        rw [hxx] at hr; rw [hyy] at hr'
        have e1 := relD_t hr; have e2 := relD_t hr'
        cases he
        have ea : args = #[x, y] := by simpa using congrArg List.toArray ha
        subst ea
        refine ⟨.int .i64 (if p < q then q else p), ?_, .t (.v rfl .nil) .done⟩
        simp [hx, resolve, invoke, builtin, e1, e2, Builtin.max_, Builtin.max2]
      · cases he
    · cases he
  · cases he

/-- One operation that leaves memory alone. -/
theorem WO_ev {Γ : Tys} (hΓ : Γ.ok P) {t : Nat} {d : D} (hg : o.guard = none) (hd : o.dst = some t) (ht : t < c.n) (he : evV Γ s o.op = some d)
    (k : WO P c ops rest ⟨(t, d) :: s.fr, s.M⟩ Q) : WO P c ops (o :: rest) s Q :=
  WO_val hg hd ht d (fun _ _ _ _ _ _ _ hi => evV_sound hΓ he hi) k

/-- A guarded operation: both ways. -/
theorem WO_guard {j d t : Nat} {want b : Bool} (hg : o.guard = some (j, want)) (hj : (ops[j]?).bind (·.dst) = some d) (hl : look s.fr d = .t (.bool b)) (hd : o.dst = some t) (ht : t < c.n)
    (h1 : b = want → WO P c ops ({ o with guard := none } :: rest) ⟨(d, .t (.bool want)) :: s.fr, s.M⟩ Q)
    (h2 : b = (!want) → WO P c ops rest ⟨(t, .tup []) :: (d, .t (.bool (!want))) :: s.fr, s.M⟩ Q) : WO P c ops (o :: rest) s Q := by
  rintro a w ⟨F, β, fb, mb, ow, hi⟩
  have hr := hi.fr d
  rw [hl] at hr
  have e1 := relD_t hr
  have hlt : d < a.tmps.size := by
    rcases Nat.lt_or_ge d a.tmps.size with h | h
    · exact h
    · rw [Array.getD_eq_getD_getElem?, Array.getElem?_eq_none h] at e1
      cases e1
  have hy : yielded ops a.tmps j = some b := by
    unfold yielded
    rw [hj]
    simp only [Option.bind_some]
    rw [Array.getD_eq_getD_getElem?] at e1
    rw [Array.getElem?_eq_getElem hlt] at e1 ⊢
    simp only [Option.getD_some] at e1
    rw [e1]
  have hlit : ∀ x, b = x → Is c ⟨(d, .t (.bool x)) :: s.fr, s.M⟩ a w := fun x hx => by
    subst hx
    refine Le.of (s := s) (s' := ⟨(d, .t (.bool b)) :: s.fr, s.M⟩) (fun t => ?_) (fun t => .inl rfl) a w ⟨F, β, fb, mb, ow, hi⟩
    simp only [look]
    split
    · rename_i e; subst e; exact .inl hl.symm
    · exact .inl rfl
  unfold wpList
  by_cases hb : b = want
  · have hw : Region.wanted o (yielded ops a.tmps) = true := by simp [Region.wanted, hg, hy, hb]
    rw [if_pos hw]
    have := h1 hb a w (hlit _ hb)
    unfold wpList at this
    rw [if_pos (by simp [Region.wanted])] at this
    exact this
  · have hw : ¬ Region.wanted o (yielded ops a.tmps) = true := by simp [Region.wanted, hg, hy, hb]
    rw [if_neg hw, hd]
    have hb' : b = !want := by cases b <;> cases want <;> simp_all
    obtain ⟨F', β', fb', mb', ow', hi'⟩ := hlit _ hb'
    exact h2 hb' _ _ ⟨_, _, _, _, _, hi'.put ht (RelD.tup (arr := #[]) (l := []) .done .done)⟩

/-! ### Places in slices -/

theorem run_indexAt {ty e : Nat} {ti te : TI} (ht : ti.ok P ty) (hk : ti.kind = .slice e) (he : te.ok P e) {b o len cap : Nat} {i : Int} (h0 : 0 ≤ i) (h1 : i < len) (w : World) :
    (Instr.indexAt ty (.slice (some ⟨b, o, none⟩) len cap) (.int .i64 i)).run P w = .ok (.pointer (some ⟨b, o + i.toNat * te.size, none⟩)) w := by
  obtain ⟨_, h2⟩ := ht
  rw [hk] at h2
  simp only [Instr.indexAt, asIntOf, Sem.run_bind, run_underlying h2.2, Result.andThen_ok, Sem.run_pure, Sem.run_ite, run_sizeOf he, add_none]
  rw [if_pos ⟨h0, h1⟩]

/-- Elements that lie one behind the other. -/
theorem flat_get {n : Nat} : ∀ {xs : List T} (hw : ∀ x, x ∈ xs → (T.cells x).length = n) {i : Nat} {y : T}, xs[i]? = some y → ((xs.flatMap T.cells).drop (i * n)).take n = y.cells
  | [], _, _, _, h => by simp at h
  | x :: xs, hw, 0, y, h => by
    simp at h; subst h
    have := hw x (by simp)
    simp only [List.flatMap_cons, Nat.zero_mul, List.drop_zero]
    rw [← this, List.take_left]
  | x :: xs, hw, i + 1, y, h => by
    have hx := hw x (by simp)
    have ih := flat_get (xs := xs) (fun z hz => hw z (by simp [hz])) (i := i) (y := y) (by simpa using h)
    rw [List.flatMap_cons, Nat.succ_mul, Nat.add_comm, ← List.drop_drop]
    conv in (List.drop n _) => rw [← hx, List.drop_left]
    exact ih

theorem flat_length {n : Nat} : ∀ {xs : List T} (hw : ∀ x, x ∈ xs → (T.cells x).length = n), (xs.flatMap T.cells).length = xs.length * n
  | [], _ => by simp
  | x :: xs, hw => by
    rw [List.flatMap_cons, List.length_append, hw x (by simp), flat_length (xs := xs) fun z hz => hw z (by simp [hz]), List.length_cons, Nat.succ_mul, Nat.add_comm]

/-- The place of an element of data that is read. -/
theorem WO_idxT {Γ : Tys} (hΓ : Γ.ok P) {ty e t n : Nat} {x ix : Operand} {ti te : TI} {l : List T} {i : Int} (hg : o.guard = none) (hd : o.dst = some t) (ht : t < c.n) (ho : o.op = .indexAddr ty x ix)
    (h1 : tyOf Γ ty = some ti) (h2 : ti.kind = .slice e) (h3 : tyOf Γ e = some te) (h4 : te.size = n) (hx : opd s.fr x = .t (.list n l)) (hix : opd s.fr ix = .t (.int i))
    (h5 : 0 ≤ i) (y : T) (h6 : l[i.toNat]? = some y)
    (k : WO P c ops rest ⟨(t, .rp y 0) :: s.fr, s.M⟩ Q) : WO P c ops (o :: rest) s Q := by
  refine WO_val hg hd ht (.rp y 0) (fun a w F β fb mb ow hi => ?_) k
  obtain ⟨bs, hr, _⟩ := hi.opd x
  obtain ⟨bs', hr', _⟩ := hi.opd ix
  rw [hx] at hr
  rw [hix] at hr'
  have e2 := relD_t hr'
  have hlt : i.toNat < l.length := (List.getElem?_eq_some_iff.1 h6).1
  generalize hev : a.eval x = xv at hr
  cases hr with
  | t hr _ =>
    cases hr with
    | none _ => simp at hlt
    | list q1 q2 q3 q4 q5 q6 _ =>
      rename_i b o' cap cs arr e' fz _
      refine ⟨.pointer (some ⟨b, o' + i.toNat * te.size + 0, none⟩), ?_, ?_⟩
      · simp only [execOp, ho, hev, e2, Sem.run_bind, run_indexAt (hΓ.get h1) h2 (hΓ.get h3) h5 (show i < l.length by omega), Result.andThen_ok]
        rfl
      · refine .rp (o := o' + i.toNat * te.size) (off := 0) (cs := (cs.drop (i.toNat * n)).take n) q1 q2 (fun k hk => ?_) ?_ .done
        · simp only [List.length_take, List.length_drop] at hk
          rw [h4, Nat.add_assoc, q3 _ (by omega)]
          simp only [List.getElem?_take, List.getElem?_drop]
          rw [if_pos (by omega)]
        · have := (q6.drop (i.toNat * n)).take n
          rwa [flat_get q4 h6] at this

/-- The place of an element of a slice of the call's own. -/
theorem WO_idxS {Γ : Tys} (hΓ : Γ.ok P) {ty e t n id off len : Nat} {x ix : Operand} {ti te : TI} {xs : List T} {i : Int} (hg : o.guard = none) (hd : o.dst = some t) (ht : t < c.n) (ho : o.op = .indexAddr ty x ix)
    (h1 : tyOf Γ ty = some ti) (h2 : ti.kind = .slice e) (h3 : tyOf Γ e = some te) (h4 : te.size = n) (hx : opd s.fr x = .sl id off len) (hM : lookM s.M id = some (.L n xs)) (hix : opd s.fr ix = .t (.int i))
    (h5 : 0 ≤ i) (h6 : i < len)
    (k : WO P c ops rest ⟨(t, .ref id (off + i.toNat) 0) :: s.fr, s.M⟩ Q) : WO P c ops (o :: rest) s Q := by
  refine WO_val hg hd ht (.ref id (off + i.toNat) 0) (fun a w F β fb mb ow hi => ?_) k
  obtain ⟨bs, hr, _⟩ := hi.opd x
  obtain ⟨bs', hr', _⟩ := hi.opd ix
  rw [hx] at hr
  rw [hix] at hr'
  have e2 := relD_t hr'
  have hm := hi.mem id
  rw [hM] at hm
  generalize hev : a.eval x = xv at hr
  cases hr with
  | slnil q1 _ => omega
  | sl q1 q2 q3 q4 _ =>
    rename_i a' b n' c' k'
    rcases hm with ⟨hb, _⟩ | ⟨b1, cap, arr, e', bs1, hb, _⟩
    · rw [hb] at q1; cases q1
    · rw [hb] at q1
      cases q1
      have := q4 (by omega)
      subst this
      refine ⟨_, ?_, .ref hb .done⟩
      simp only [execOp, ho, hev, e2, Sem.run_bind, run_indexAt (hΓ.get h1) h2 (hΓ.get h3) h5 h6, Result.andThen_ok, Sem.run_pure, h4]
      simp [Nat.add_mul]

end

end Go.Eng
