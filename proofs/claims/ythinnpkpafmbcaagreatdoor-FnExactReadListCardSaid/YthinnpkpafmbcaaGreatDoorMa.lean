import Derived.WalkKit
namespace Go.Eng
theorem Nu : type_of% @List.length_append := @List.length_append
theorem Nv : type_of% @Bool.and_eq_true := @Bool.and_eq_true
theorem Nw : type_of% @List.take_of_length_le := @List.take_of_length_le
theorem Nx : type_of% @List.length_cons := @List.length_cons
theorem Ny : type_of% @Array.getD_eq_getD_getElem? := @Array.getD_eq_getD_getElem?
theorem N0 : type_of% @List.length_map := @List.length_map
theorem N1 : type_of% @List.all_eq_true := @List.all_eq_true
theorem N2 : type_of% @Result.andThen_ok := @Result.andThen_ok
theorem N3 : type_of% @List.mem_append := @List.mem_append
theorem N4 : type_of% @List.length_nil := @List.length_nil
theorem N5 : type_of% @List.nodup_append := @List.nodup_append
theorem N6 : type_of% @List.mem_cons := @List.mem_cons
theorem N7 : type_of% @List.nodup_cons := @List.nodup_cons
theorem N8 : type_of% @Sem.run_bind := @Sem.run_bind
theorem N9 : type_of% @List.getElem_mem := @List.getElem_mem
theorem OA : type_of% @List.append_assoc := @List.append_assoc
theorem OB : type_of% @List.getD_eq_getElem?_getD := @List.getD_eq_getElem?_getD
theorem OC : type_of% @Int.le_refl := @Int.le_refl
theorem OD : type_of% @Array.length_toList := @Array.length_toList
theorem OE : type_of% @List.mem_cons_of_mem := @List.mem_cons_of_mem
theorem OG : type_of% @List.mem_cons_self := @List.mem_cons_self
theorem OH : type_of% @List.take_length := @List.take_length
theorem OI : type_of% @List.append_nil := @List.append_nil
theorem OJ : type_of% @Nat.le_refl := @Nat.le_refl
theorem OK : type_of% @Bool.or_eq_false_iff := @Bool.or_eq_false_iff
theorem OL : type_of% @List.eq_nil_of_length_eq_zero := @List.eq_nil_of_length_eq_zero
theorem OM : type_of% @List.flatMap_cons := @List.flatMap_cons
theorem ON : type_of% @Bool.not_eq_true' := @Bool.not_eq_true'
theorem OO : type_of% @List.length_take := @List.length_take
theorem OP : type_of% @List.all_cons := @List.all_cons
theorem OQ : type_of% @Bool.not_eq_true := @Bool.not_eq_true
theorem OS : type_of% @Sem.run_pure := @Sem.run_pure
theorem OT : type_of% @List.length_drop := @List.length_drop
theorem OU : type_of% @Nat.zero_le := @Nat.zero_le
theorem OV : type_of% @List.map_cons := @List.map_cons
theorem OW : type_of% @List.length_pos_iff := @List.length_pos_iff
theorem OX : type_of% @List.mem_of_mem_take := @List.mem_of_mem_take
theorem OY : type_of% @List.nil_append := @List.nil_append
theorem OZ : type_of% @List.mem_range := @List.mem_range
theorem Oa : type_of% @List.mem_flatMap := @List.mem_flatMap
theorem Ob : type_of% @Bool.or_false := @Bool.or_false
theorem Oc : type_of% @List.mem_append_left := @List.mem_append_left
theorem Od : type_of% @Nat.lt_of_lt_of_le := @Nat.lt_of_lt_of_le
theorem Oe : type_of% @List.mem_singleton := @List.mem_singleton
theorem Og : type_of% @Bool.and_false := @Bool.and_false
theorem Oh : type_of% @List.cons_append := @List.cons_append
theorem Oi : type_of% @Bool.false_or := @Bool.false_or
theorem Oj : type_of% @List.any_eq_true := @List.any_eq_true
end Go.Eng
set_option linter.unusedVariables false
set_option linter.unusedSimpArgs false
section
/- An abstract machine for Go code that reads plain data and builds new memory, and the rules by which its runs are shown to be runs of the model. -/
namespace Go.Eng
open Go.RowKit
inductive T where
 | v (x : Value)
 | list (n : Nat) (l : List T)
 | agg (l : List T)
 | sub (l : List T)
def T.cells : T → List T
 | .agg l => l
 | x => [x]
def T.unsub : T → T
 | .sub l => .list 1 l
 | x => x
abbrev T.int (n : Int) : T := .v (.int .i64 n)
abbrev T.bool (b : Bool) : T := .v (.bool b)
def T.ints (l : List Int) : T := .list 1 (l.map T.int)
inductive RelL (w : World) (F : Nat → Prop) : List Value → List T → Prop
 | nil : RelL w F [] []
 | v {x vs ts} : x.oneCell' = true → RelL w F vs ts → RelL w F (x :: vs) (.v x :: ts)
 | none {a c n vs ts} : RelL w F vs ts → RelL w F (.slice a 0 c :: vs) (.list n [] :: ts)
 | list {b o cap n cs xs arr e fz vs ts} : F b → w.heap[b]? = some (.cells arr e fz) → (∀ k, k < cs.length → arr[o + k]? = cs[k]?) →
   (∀ x, x ∈ xs → (T.cells x).length = n) → xs.length ≤ cap → RelL w F cs (xs.flatMap T.cells) → RelL w F vs ts →
   RelL w F (.slice (some ⟨b, o, Option.none⟩) xs.length cap :: vs) (.list n xs :: ts)
 | sub {x xs vs ts} : RelL w F [x] [.list 1 xs] → RelL w F vs ts → RelL w F (x :: vs) (.sub xs :: ts)
inductive OwnL (w : World) : List Value → List T → List Nat → Prop
 | nil : OwnL w [] [] []
 | v {x vs ts bs} : x.oneCell' = true → OwnL w vs ts bs → OwnL w (x :: vs) (.v x :: ts) bs
 | none {a n vs ts bs} : OwnL w vs ts bs → OwnL w (.slice a 0 0 :: vs) (.list n [] :: ts) bs
 | list {b cap n cs xs arr e vs ts bs bs'} : w.heap[b]? = some (.cells arr e (0, 0)) → arr.size = cap * n → arr.toList.take (xs.length * n) = cs →
   (∀ x, x ∈ xs → (T.cells x).length = n) → xs.length ≤ cap → cap ≤ maxLen → OwnL w cs (xs.flatMap T.cells) bs → OwnL w vs ts bs' →
   OwnL w (.slice (some ⟨b, 0, Option.none⟩) xs.length cap :: vs) (.list n xs :: ts) (b :: bs ++ bs')
 | sub {b cap arr e} {a : Option Addr} {pre us : List Value} {xs : List T} {vs ts bs} : w.heap[b]? = some (.cells arr e (0, 0)) → arr.size = pre.length + cap → arr.toList.take (pre.length + us.length) = pre ++ us → xs = us.map T.v → (pre ++ us).all (·.oneCell') = true →
   xs.length ≤ cap → pre.length + cap ≤ maxLen → (cap ≠ 0 → a = some ⟨b, pre.length, Option.none⟩) → OwnL w vs ts bs → OwnL w (.slice a xs.length cap :: vs) (.sub xs :: ts) (b :: bs)
inductive D where
 | t (x : T)
 | nil
 | agg (l : List D)
 | ref (id i off : Nat)
 | sl (id off len : Nat)
 | rp (x : T) (off : Nat)
 | clo (f : FuncId) (l : List D)
 | tup (l : List D)
 | own (x : T)
 | top
abbrev Ag := Nat → Option (Nat × Nat × Nat)
inductive RelD (w : World) (F : Nat → Prop) (β : Ag) : List Value → List D → List Nat → Prop
 | done : RelD w F β [] [] []
 | t {x y vs ds bs} : RelL w F [x] [y] → RelD w F β vs ds bs → RelD w F β (x :: vs) (.t y :: ds) bs
 | tagg {arr l vs ds bs} : RelL w F arr.toList l → RelD w F β vs ds bs → RelD w F β (.agg arr :: vs) (.t (.agg l) :: ds) bs
 | nil {vs ds bs} : RelD w F β vs ds bs → RelD w F β (.slice none 0 0 :: vs) (.nil :: ds) bs
 | agg {arr l vs ds bs bs'} : arr.toList.all (·.oneCell') = true → RelD w F β arr.toList l bs → RelD w F β vs ds bs' → RelD w F β (.agg arr :: vs) (.agg l :: ds) (bs ++ bs')
 | ref {id i off b n c vs ds bs} : β id = some (b, n, c) → RelD w F β vs ds bs → RelD w F β (.pointer (some ⟨b, i * n + off, none⟩) :: vs) (.ref id i off :: ds) bs
 | sl {id off len a b n c k vs ds bs} : β id = some (b, n, c) → len ≤ k → off + k = c → (k ≠ 0 → a = some ⟨b, off * n, none⟩) → RelD w F β vs ds bs →
   RelD w F β (.slice a len k :: vs) (.sl id off len :: ds) bs
 | slnil {id a vs ds bs} : β id = none → RelD w F β vs ds bs → RelD w F β (.slice a 0 0 :: vs) (.sl id 0 0 :: ds) bs
 | rp {x b o off arr e fz cs vs ds bs} : F b → w.heap[b]? = some (.cells arr e fz) → (∀ k, k < cs.length → arr[o + k]? = cs[k]?) → RelL w F cs (T.cells x) →
   RelD w F β vs ds bs → RelD w F β (.pointer (some ⟨b, o + off, none⟩) :: vs) (.rp x off :: ds) bs
 | clo {f arr l vs ds bs bs'} : RelD w F β arr.toList l bs → RelD w F β vs ds bs' → RelD w F β (.func (.func f) #[] arr :: vs) (.clo f l :: ds) (bs ++ bs')
 | tup {arr l vs ds bs bs'} : RelD w F β arr.toList l bs → RelD w F β vs ds bs' → RelD w F β (.tuple arr :: vs) (.tup l :: ds) (bs ++ bs')
 | own {x y vs ds bs bs'} : OwnL w [x] [y] bs → RelD w F β vs ds bs' → RelD w F β (x :: vs) (.own y :: ds) (bs ++ bs')
 | top {x vs ds bs} : RelD w F β vs ds bs → RelD w F β (x :: vs) (.top :: ds) bs
inductive Blk where
 | L (n : Nat) (xs : List T)
 | box (cells : List D)
 | raw (b sz : Nat) (vs : List Value) (ts : List T)
 | rawV (vs : List Value) (ts : List T)
 | ro (vs : List Value) (ts : List T)
 | pin (i b n c : Nat)
 | obox (pv : Value) (cells : List D)
 | bld (T e b : Nat) (l : List UInt8)
 | row (b cap n : Nat) (xs : List T)
def RelB (w : World) (F : Nat → Prop) (β : Ag) (id : Nat) : Blk → List Nat → Prop
 | .L n xs, bs => (β id = none ∧ xs = [] ∧ bs = []) ∨ ∃ b cap arr e bs', β id = some (b, n, cap) ∧ w.heap[b]? = some (.cells arr e (0, 0)) ∧ arr.size = cap * n ∧
   (∀ x, x ∈ xs → (T.cells x).length = n) ∧ xs.length ≤ cap ∧ cap ≤ maxLen ∧ OwnL w (arr.toList.take (xs.length * n)) (xs.flatMap T.cells) bs' ∧ bs = b :: bs'
 | .box cells, bs => ∃ b arr e bs', β id = some (b, cells.length, 1) ∧ w.heap[b]? = some (.cells arr e (0, 0)) ∧ RelD w F β arr.toList cells bs' ∧ arr.toList.all (·.oneCell') = true ∧ bs = b :: bs'
 | .raw b sz vs ts, bs => ∃ arr e bs', w.heap[b]? = some (.cells arr e (0, 0)) ∧ arr.size = sz ∧ arr.toList.take vs.length = vs ∧ OwnL w vs ts bs' ∧ bs = b :: bs'
 | .rawV vs ts, bs => OwnL w vs ts bs
 | .ro vs ts, bs => RelL w F vs ts ∧ bs = []
 | .pin j b n c, bs => β j = some (b, n, c) ∧ bs = []
 | .obox pv cells, bs => (pv = .pointer none ∧ bs = []) ∨ ∃ b arr e bs', pv = .pointer (some ⟨b, 0, none⟩) ∧ w.heap[b]? = some (.cells arr e (0, 0)) ∧ RelD w F (fun _ => none) arr.toList cells bs' ∧ arr.toList.all (·.oneCell') = true ∧ bs = b :: bs'
 | .bld T e b l, bs => ∃ p v row, w.heap[b]? = some (.cells #[p, v] T (0, 0)) ∧ (p = .pointer none ∨ p = .pointer (some ⟨b, 0, none⟩)) ∧
   ((v = .slice none 0 0 ∧ l = [] ∧ row = []) ∨ ∃ g cap cur, v = .slice (some ⟨g, 0, none⟩) l.length cap ∧ w.heap[g]? = some (.cells cur e (0, 0)) ∧ l.length ≤ cap ∧ cap ≤ maxLen ∧ cur.size = cap ∧
    cur.toList.take l.length = l.map (fun x => Value.int .u8 (x.toNat : Int)) ∧ row = [g]) ∧ bs = b :: row
 | .row b cap n xs, bs => ∃ arr e bs', w.heap[b]? = some (.cells arr e (0, 0)) ∧ arr.size = cap * n ∧ (∀ x, x ∈ xs → (T.cells x).length = n) ∧ xs.length ≤ cap ∧ cap ≤ maxLen ∧
   OwnL w (arr.toList.take (xs.length * n)) (xs.flatMap T.cells) bs' ∧ bs = b :: bs'
structure St where
 fr : List (Nat × D)
 M : List (Nat × Blk)
def look : List (Nat × D) → Nat → D
 | [], _ => .top
 | (k, d) :: l, t => if k = t then d else look l t
def lookM : List (Nat × Blk) → Nat → Option Blk
 | [], _ => none
 | (k, d) :: l, t => if k = t then some d else lookM l t
structure Ctx where
 w0 : World
 G : Nat → Prop
 F0 : Nat → Prop
 n : Nat
structure Conc (c : Ctx) (s : St) (a : Act) (w : World) (F : Nat → Prop) (β : Ag) (fb mb : Nat → List Nat) (owner : Nat → Option (Nat ⊕ Nat)) : Prop where
 fr : ∀ t, RelD w F β [a.tmps.getD t undef] [look s.fr t] (fb t)
 mem : ∀ id, match lookM s.M id with | some k => RelB w F β id k (mb id) | none => mb id = []
 ofr : ∀ t b, b ∈ fb t → owner b = some (.inl t)
 omem : ∀ id b, b ∈ mb id → owner b = some (.inr id)
 nfr : ∀ t, (fb t).Nodup
 nmem : ∀ id, (mb id).Nodup
 own : ∀ b, owner b ≠ none → ¬ F b ∧ b < w.heap.size ∧ (c.w0.heap.size ≤ b ∨ c.G b)
 fin : ∀ b, F b → b < w.heap.size
 f0 : ∀ b, c.F0 b → F b
 fnew : ∀ b, F b → c.F0 b ∨ c.w0.heap.size ≤ b ∨ c.G b
 f0in : ∀ b, c.F0 b → b < c.w0.heap.size ∧ ¬ c.G b
 gin : ∀ b, c.G b → b < c.w0.heap.size
 os : w.os = c.w0.os
 tape : w.tape = c.w0.tape
 output : w.output = c.w0.output
 size : c.w0.heap.size ≤ w.heap.size
 keep : ∀ b, b < c.w0.heap.size → ¬ c.G b → w.heap[b]? = c.w0.heap[b]?
 defers : a.defers = []
 tmps : a.tmps.size = c.n
def Is (c : Ctx) (s : St) (a : Act) (w : World) : Prop := ∃ F β fb mb owner, Conc c s a w F β fb mb owner
def Hu (c : Ctx) (Q : Exit → St → Prop) : Exit → Act → World → Prop := fun e a w => ∃ s, Is c s a w ∧ Q e s
def W (P : Program) (c : Ctx) (code : Code) (s : St) (Q : Exit → St → Prop) : Prop := ∀ a w, Is c s a w → code.wp P (Hu c Q) a w
def WO (P : Program) (c : Ctx) (ops : Array Oper) (l : List Oper) (s : St) (Q : Exit → St → Prop) : Prop := ∀ a w, Is c s a w → wpList P ops (Hu c Q) l a w
def Pure (P : Program) (f : FuncId) (ds : List D) (r : D) : Prop :=
 ∀ (w : World) (F : Nat → Prop) (args : Array Value), (∀ b, F b → b < w.heap.size) → RelD w F (fun _ => none) args.toList ds [] →
  Calls P f args w fun e w' => ∃ v F' bs, e = .returned v ∧ Below w.heap.size w w' ∧ (∀ b, F b → F' b) ∧ (∀ b, F' b → F b ∨ (w.heap.size ≤ b ∧ b < w'.heap.size)) ∧
   RelD w' F' (fun _ => none) [v] [r] bs ∧ bs.Nodup ∧ ∀ b, b ∈ bs → w.heap.size ≤ b ∧ b < w'.heap.size ∧ ¬ F' b
/-! ### The relations as the world goes on -/
theorem RelL.mono {w w' : World} {F F' : Nat → Prop} (hF : ∀ b, F b → F' b) (hw : ∀ b, F b → w'.heap[b]? = w.heap[b]?) {vs ts} (h : RelL w F vs ts) : RelL w' F' vs ts := by
 induction h with
 | nil => exact .nil
 | v hx _ ih => exact .v hx ih
 | none _ ih => exact .none ih
 | list hb hh hc hn hl _ _ ih1 ih2 => exact .list (hF _ hb) ((hw _ hb).trans hh) hc hn hl ih1 ih2
 | sub _ _ ih1 ih2 => exact .sub ih1 ih2
theorem OwnL.mono {w w' : World} {vs ts bs} (h : OwnL w vs ts bs) (hw : ∀ b, b ∈ bs → w'.heap[b]? = w.heap[b]?) : OwnL w' vs ts bs := by
 induction h with
 | nil => exact .nil
 | v hx _ ih => exact .v hx (ih hw)
 | none _ ih => exact .none (ih hw)
 | list hh ha ht hn hl hm _ _ ih1 ih2 =>
  exact .list ((hw _ (by simp)).trans hh) ha ht hn hl hm (ih1 fun b hb => hw b (by simp [hb])) (ih2 fun b hb => hw b (by simp [hb]))
 | sub hh h1 h2 h3 h4 h5 h6 h7 _ ih => exact .sub ((hw _ (by simp)).trans hh) h1 h2 h3 h4 h5 h6 h7 (ih fun b hb => hw b (by simp [hb]))
theorem RelD.mono {w w' : World} {F F' : Nat → Prop} {β β' : Ag} (hF : ∀ b, F b → F' b) (hw : ∀ b, F b → w'.heap[b]? = w.heap[b]?)
  {vs ds bs} (h : RelD w F β vs ds bs) (hb : ∀ b, b ∈ bs → w'.heap[b]? = w.heap[b]?) (hβ : ∀ id, β' id = β id) : RelD w' F' β' vs ds bs := by
 induction h with
 | done => exact .done
 | t hx _ ih => exact .t (hx.mono hF hw) (ih hb)
 | tagg hx _ ih => exact .tagg (hx.mono hF hw) (ih hb)
 | nil _ ih => exact .nil (ih hb)
 | agg h1 _ _ ih1 ih2 => exact .agg h1 (ih1 fun b h => hb b (by simp [h])) (ih2 fun b h => hb b (by simp [h]))
 | ref h1 _ ih => exact .ref ((hβ _).trans h1) (ih hb)
 | sl h1 h2 h3 h4 _ ih => exact .sl ((hβ _).trans h1) h2 h3 h4 (ih hb)
 | slnil h1 _ ih => exact .slnil ((hβ _).trans h1) (ih hb)
 | rp h1 h2 h3 h4 _ ih => exact .rp (hF _ h1) ((hw _ h1).trans h2) h3 (h4.mono hF hw) (ih hb)
 | clo _ _ ih1 ih2 => exact .clo (ih1 fun b h => hb b (by simp [h])) (ih2 fun b h => hb b (by simp [h]))
 | tup _ _ ih1 ih2 => exact .tup (ih1 fun b h => hb b (by simp [h])) (ih2 fun b h => hb b (by simp [h]))
 | own h1 _ ih => exact .own (h1.mono fun b h => hb b (by simp [h])) (ih fun b h => hb b (by simp [h]))
 | top _ ih => exact .top (ih hb)
/-! ### The rules of the code's structure -/
section
variable {P : Program} {c : Ctx} {s : St} {Q : Exit → St → Prop}
def Le (c : Ctx) (s s' : St) : Prop := ∀ a w, Is c s a w → Is c s' a w
theorem Le.refl {s : St} : Le c s s := fun _ _ h => h
theorem Le.trans {s s' s'' : St} (h : Le c s s') (h' : Le c s' s'') : Le c s s'' := fun a w hh => h' a w (h a w hh)
theorem Ay {code : Code} {s' : St} (h : Le c s s') (k : W P c code s' Q) : W P c code s Q := fun a w hh => k a w (h a w hh)
theorem AI {ops : Array Oper} {l : List Oper} {s' : St} (h : Le c s s') (k : WO P c ops l s' Q) : WO P c ops l s Q := fun a w hh => k a w (h a w hh)
theorem W_mono {code : Code} {Q' : Exit → St → Prop} (k : W P c code s Q') (h : ∀ e s, Q' e s → Q e s) : W P c code s Q :=
 fun a w hh => Code.wp_mono (fun _ _ _ ⟨s', h1, h2⟩ => ⟨s', h1, h _ _ h2⟩) (k a w hh)
def EF (P : Program) (c : Ctx) (y : Code) (Q : Exit → St → Prop) : Exit → St → Prop
 | .normal, s => W P c y s Q
 | e, s => Q e s
def HU (id : Nat) (Q : Exit → St → Prop) : Exit → St → Prop
 | .exit id', s => if id' = id then Q .normal s else Q (.exit id') s
 | e, s => Q e s
theorem W_seq {x y : Code} (h : W P c x s (EF P c y Q)) : W P c (.seq x y) s Q := by
 intro a w hi;refine wp_seq (Code.wp_mono ?_ (h a w hi))
 rintro e a' w' ⟨s', h1, h2⟩
 cases e with
 | normal => exact h2 a' w' h1
 | _ => exact ⟨s', h1, h2⟩
theorem AD {id : Nat} {x : Code} (h : W P c x s (HU id Q)) : W P c (.block id x) s Q := by
 intro a w hi;refine wp_block (Code.wp_mono ?_ (h a w hi))
 rintro e a' w' ⟨s', h1, h2⟩
 cases e with
 | exit id' =>
  simp only [HU, Exit.inBlock] at *;split
  ·rename_i hid; rw [if_pos hid] at h2; exact ⟨s', h1, h2⟩
  ·rename_i hid; rw [if_neg hid] at h2; exact ⟨s', h1, h2⟩
 | _ => exact ⟨s', h1, h2⟩
theorem AB (h : Q .normal s) : W P c .skip s Q := fun _ _ hi => wp_skip ⟨s, hi, h⟩
theorem AU {id : Nat} (h : Q (.exit id) s) : W P c (.exit id) s Q := fun _ _ hi => wp_exit ⟨s, hi, h⟩
theorem W_ret (h : Q .ret s) : W P c .ret s Q := fun _ _ hi => wp_ret ⟨s, hi, h⟩
def opd (fr : List (Nat × D)) : Operand → D
 | .tmp t => look fr t
 | .const v => match v with
  | .slice none 0 0 => .nil
  | .agg _ => .top
  | .tuple _ => .top
  | v => .t (.v v)
 | .func f => .clo f []
 | .global _ => .top
theorem DW {w : World} {F : Nat → Prop} {x : Value} {y : Value} (h : RelL w F [x] [.v y]) : x = y := by
 cases h; rfl
theorem Am {w : World} {F : Nat → Prop} {β : Ag} {x y : Value} {bs : List Nat} (h : RelD w F β [x] [.t (.v y)] bs) : x = y := by
 cases h with
 | t h _ => exact DW h
theorem Conc.opd {a : Act} {w : World} {F β fb mb ow} (h : Conc c s a w F β fb mb ow) (x : Operand) :
  ∃ bs, RelD w F β [a.eval x] [opd s.fr x] bs ∧ (bs = [] ∨ ∃ t, x = .tmp t ∧ bs = fb t) := by
 cases x with
 | tmp t => exact ⟨fb t, h.fr t, .inr ⟨t, rfl, rfl⟩⟩
 | const v =>
  refine ⟨[], ?_, .inl rfl⟩;simp only [Eng.opd, Act.eval];split
  ·exact .nil .done
  ·exact .top .done
  ·exact .top .done
  ·rename_i h1 h2 h3
   refine .t (.v ?_ .nil) .done
   cases v <;> first | rfl | exact (h2 _ rfl).elim | exact (h3 _ rfl).elim
 | global g => exact ⟨[], .top .done, .inl rfl⟩
 | func f => exact ⟨[], .clo (arr := #[]) (l := []) .done .done, .inl rfl⟩
theorem AC {x : Operand} {y z : Code} {b : Bool} (h : opd s.fr x = .t (.bool b)) (ht : b = true → W P c y s Q) (hf : b = false → W P c z s Q) : W P c (.cond x y z) s Q := by
 rintro a w ⟨F, β, fb, mb, ow, hi⟩
 obtain ⟨bs, hr, _⟩ := hi.opd x
 rw [h] at hr
 have he := Am hr
 exact wp_cond_split he (fun hb => ht hb a w ⟨F, β, fb, mb, ow, hi⟩) (fun hb => hf hb a w ⟨F, β, fb, mb, ow, hi⟩)
theorem W_loop {α : Type} {body : Code} (S : α → St) (μ : α → Nat) (x0 : α) (h0 : Le c s (S x0))
  (round : ∀ x, W P c body (S x) (fun e s' => match e with | .normal => ∃ x', Le c s' (S x') ∧ μ x' < μ x | e => Q e s')) : W P c (.loop body) s Q := by
 intro a w hi b k cs
 have key : ∀ n x, μ x = n → ∀ a w, Is c (S x) a w →
   ∃ e a' w', Hu c Q e a' w' ∧ Arrives P (lone (b.at a (.code body :: .inLoop body :: k)) cs w) b k cs e a' w' := by
  intro n
  induction n using Nat.strongRecOn with
  | _ n ih =>
   intro x hn a w hI
   obtain ⟨e, a₁, w₁, ⟨s', h1, hq⟩, harr⟩ := round x a w hI b (.inLoop body :: k) cs
   cases e with
   | normal =>
    obtain ⟨x', hle, hlt⟩ := hq
    obtain ⟨e₂, a₂, w₂, hq₂, harr₂⟩ := ih (μ x') (hn ▸ hlt) x' rfl a₁ w₁ (hle _ _ h1)
    exact ⟨e₂, a₂, w₂, hq₂, .of_steps (Steps.trans harr (.one step_inLoop)) harr₂⟩
   | exit id => exact ⟨_, a₁, w₁, ⟨s', h1, hq⟩, .pass (x := .inLoop body) rfl (fun _ _ => .inl (by simp)) harr⟩
   | goto l => exact ⟨_, a₁, w₁, ⟨s', h1, hq⟩, .pass (x := .inLoop body) rfl (fun _ _ => .inl (by simp)) harr⟩
   | ret => exact ⟨_, a₁, w₁, ⟨s', h1, hq⟩, .pass (x := .inLoop body) rfl (fun _ _ => .inl (by simp)) harr⟩
   | panic ch => exact ⟨_, a₁, w₁, ⟨s', h1, hq⟩, .pass (x := .inLoop body) rfl (fun _ _ => .inl (by simp)) harr⟩
   | outgrown => exact ⟨_, a₁, w₁, ⟨s', h1, hq⟩, .pass (x := .inLoop body) rfl (fun _ _ => .inl (by simp)) harr⟩
 obtain ⟨e, a', w', hq, harr⟩ := key _ x0 rfl a w (h0 _ _ hi)
 exact ⟨e, a', w', hq, .of_steps (.one step_loop) harr⟩
theorem MV {id : Nat} {l : List Oper} (h : WO P c l.toArray l s Q) : W P c (.region id l.toArray false) s Q :=
 fun a w hi => wp_region_lit (h a w hi)
theorem WO_nil {ops : Array Oper} (h : Q .normal s) : WO P c ops [] s Q := fun _ _ hi => ⟨s, hi, h⟩
def Sub : List (Nat × D) → List (Nat × D) → Prop
 | [], _ => True
 | (k, d) :: l, fr => look fr k = d ∧ Sub l fr
def SubM : List (Nat × Blk) → List (Nat × Blk) → Prop
 | [], _ => True
 | (k, d) :: l, M => lookM M k = some d ∧ SubM l M
theorem Sub.spec : ∀ {l fr : List (Nat × D)}, Sub l fr → ∀ t, look l t = look fr t ∨ look l t = .top
 | [], _, _, _ => .inr rfl
 | (k, d) :: l, fr, h, t => by
  simp only [look];split
  ·rename_i e; subst e; exact .inl h.1.symm
  ·exact Sub.spec h.2 t
theorem SubM.spec : ∀ {l M : List (Nat × Blk)}, SubM l M → ∀ t, lookM l t = lookM M t ∨ lookM l t = none
 | [], _, _, _ => .inr rfl
 | (k, d) :: l, M, h, t => by
  simp only [lookM];split
  ·rename_i e; subst e; exact .inl h.1.symm
  ·exact SubM.spec h.2 t
theorem Le.of {s' : St} (h1 : ∀ t, look s'.fr t = look s.fr t ∨ look s'.fr t = .top) (h2 : ∀ t, lookM s'.M t = lookM s.M t ∨ lookM s'.M t = none) : Le c s s' := by
 rintro a w ⟨F, β, fb, mb, ow, hi⟩
 classical
 refine ⟨F, β, fun t => if look s'.fr t = look s.fr t then fb t else [], fun t => if lookM s'.M t = lookM s.M t then mb t else [], ow, ?_⟩;refine { hi with fr := fun t => ?_, mem := fun t => ?_, ofr := fun t b hb => ?_, omem := fun t b hb => ?_, nfr := fun t => ?_, nmem := fun t => ?_ }
 ·split
  ·rename_i e; rw [e]; exact hi.fr t
  ·rename_i e; rw [(h1 t).resolve_left e]; exact .top .done
 ·by_cases e : lookM s'.M t = lookM s.M t
  ·rw [if_pos e, e]; exact hi.mem t
  ·rw [if_neg e, (h2 t).resolve_left e]
 ·split at hb
  ·exact hi.ofr t b hb
  ·cases hb
 ·split at hb
  ·exact hi.omem t b hb
  ·cases hb
 ·split
  ·exact hi.nfr t
  ·simp
 ·split
  ·exact hi.nmem t
  ·simp
theorem Le.sub {s' : St} (h1 : Sub s'.fr s.fr) (h2 : SubM s'.M s.M) : Le c s s' := Le.of h1.spec h2.spec
end
/-! ### Operations that yield a value and leave memory alone -/
section
variable {P : Program} {c : Ctx} {s : St} {Q : Exit → St → Prop} {ops : Array Oper} {rest : List Oper} {o : Oper}
theorem Bs (a : Act) (t u : Nat) (v : Value) (h : t < a.tmps.size) : (a.put (some t) v).tmps.getD u undef = if t = u then v else a.tmps.getD u undef := by
 by_cases e : t = u
 ·subst e
  simp [Act.put, h]
 ·simp [Act.put, e, Array.getElem?_setIfInBounds_ne e]
theorem B4 (a : Act) (t : Option Nat) (v : Value) : (a.put t v).tmps.size = a.tmps.size := by cases t <;> simp [Act.put]
theorem BT (a : Act) (t : Option Nat) (v : Value) : (a.put t v).defers = a.defers := by cases t <;> rfl
theorem Conc.put {a : Act} {w : World} {F β fb mb ow} (hi : Conc c s a w F β fb mb ow) {t : Nat} (ht : t < c.n) {v : Value} {d : D} (hv : RelD w F β [v] [d] []) :
  Conc c ⟨(t, d) :: s.fr, s.M⟩ (a.put (some t) v) w F β (fun u => if t = u then [] else fb u) mb ow :=
 { hi with
  fr := fun u => by
   rw [Bs _ _ _ _ (by rw [hi.tmps]; exact ht)];simp only [look];split
   ·exact hv
   ·exact hi.fr u
  ofr := fun u b hb => by
   split at hb
   ·cases hb
   ·exact hi.ofr u b hb
  nfr := fun u => by
   split
   ·simp
   ·exact hi.nfr u
  defers := (BT a _ v).trans hi.defers
  tmps := (B4 a _ v).trans hi.tmps }
theorem BC {t : Nat} (hg : o.guard = none) (hd : o.dst = some t) (ht : t < c.n) (d : D)
  (h : ∀ a w F β fb mb ow, Conc c s a w F β fb mb ow → ∃ v, (execOp a.eval o).run P w = .ok (.value v) w ∧ RelD w F β [v] [d] [])
  (k : WO P c ops rest ⟨(t, d) :: s.fr, s.M⟩ Q) : WO P c ops (o :: rest) s Q := by
 rintro a w ⟨F, β, fb, mb, ow, hi⟩
 obtain ⟨v, hr, hv⟩ := h a w F β fb mb ow hi
 refine wpList_plain hg fun K hK => ?_
 unfold Oper.wp;rw [hr, Oper.upon_value, hd];exact hK _ _ (k _ _ ⟨F, β, _, mb, ow, hi.put ht hv⟩)
def D.free : D → Bool
 | .t _ | .nil | .ref _ _ _ | .sl _ _ _ | .rp _ _ | .top => true
 | .own _ => false
 | .agg l | .clo _ l | .tup l => freeL l
where freeL : List D → Bool
 | [] => true
 | d :: l => d.free && freeL l
theorem RelD.free {w : World} {F : Nat → Prop} {β : Ag} {vs ds bs} (h : RelD w F β vs ds bs) (hf : D.free.freeL ds = true) : bs = [] := by
 induction h with
 | done => rfl
 | agg _ _ _ ih1 ih2 | clo _ _ ih1 ih2 | tup _ _ ih1 ih2 =>
  simp only [D.free.freeL, D.free, Nv] at hf;rw [ih1 hf.1, ih2 hf.2]; rfl
 | own => simp [D.free.freeL, D.free] at hf
 | t _ _ ih | tagg _ _ ih | nil _ ih | ref _ _ ih | sl _ _ _ _ _ ih | slnil _ _ ih | rp _ _ _ _ _ ih | top _ ih =>
  simp only [D.free.freeL, Nv] at hf;exact ih hf.2
theorem RelD.free1 {w : World} {F : Nat → Prop} {β : Ag} {v d bs} (h : RelD w F β [v] [d] bs) (hf : d.free = true) : bs = [] :=
 h.free (by simp [D.free.freeL, hf])
def D.dup (d : D) : D := if d.free then d else .top
theorem RelD.dup {w : World} {F : Nat → Prop} {β : Ag} {v d bs} (h : RelD w F β [v] [d] bs) : RelD w F β [v] [d.dup] [] := by
 unfold D.dup;split
 ·rename_i hf; have := h.free1 hf; subst this; exact h
 ·exact .top .done
inductive TK where
 | one
 | bool
 | str
 | ptr
 | agg (offs : List Nat)
 | slice (e : Nat)
structure TI where
 kind : TK
 size : Nat
 bytes : Nat
 zero : List Value
def TI.ok (P : Program) (t : Nat) (x : TI) : Prop :=
 (∃ i z, P.info? t = some i ∧ i.size = x.size ∧ i.bytes = x.bytes ∧ i.zero = some z ∧ z.cells.toList = x.zero) ∧
 match x.kind with
 | .one => x.size = 1 ∧ ∃ d, P.underlying t = some d ∧ (match d with | .struct _ => False | .array _ _ => False | _ => True)
 | .bool => x.size = 1 ∧ P.underlying t = some .bool
 | .str => x.size = 1 ∧ P.underlying t = some .string
 | .ptr => x.size = 1 ∧ ∃ e, P.underlying t = some (.pointer e)
 | .slice e => x.size = 1 ∧ P.underlying t = some (.slice e)
 | .agg offs => ∃ fs, P.underlying t = some (.struct fs) ∧ fs.toList.map (·.offset) = offs ∧ ∀ f, f ∈ fs.toList → ∃ i, P.info? f.type = some i ∧ i.size ≠ 0
abbrev Tys := List (Nat × TI)
def A7 : Tys → Nat → Option TI
 | [], _ => none
 | (k, x) :: l, t => if k = t then some x else A7 l t
def Tys.ok (P : Program) : Tys → Prop
 | [] => True
 | (k, x) :: l => x.ok P k ∧ Tys.ok P l
theorem Tys.ok.get {P : Program} : ∀ {Γ : Tys} {t : Nat} {x : TI}, Tys.ok P Γ → A7 Γ t = some x → x.ok P t
 | (k, y) :: l, t, x, h, e => by
  simp only [A7] at e;split at e
  ·rename_i hk; subst hk; cases e; exact h.1
  ·exact Tys.ok.get h.2 e
def TK.isAgg : TK → Bool
 | .agg _ => true
 | _ => false
theorem TI.ok.one {P : Program} {t : Nat} {x : TI} (h : x.ok P t) (hk : x.kind.isAgg = false) : x.size = 1 ∧ ∃ d, P.underlying t = some d ∧ (match d with | .struct _ => False | .array _ _ => False | _ => True) := by
 obtain ⟨_, h⟩ := h
 cases hx : x.kind <;> rw [hx] at h hk
 ·exact h
 ·exact ⟨h.1, _, h.2, trivial⟩
 ·exact ⟨h.1, _, h.2, trivial⟩
 ·obtain ⟨h1, e, h2⟩ := h; exact ⟨h1, _, h2, trivial⟩
 ·simp [TK.isAgg] at hk
 ·exact ⟨h.1, _, h.2, trivial⟩
theorem GA {t : Nat} {x : TI} (h : x.ok P t) (hk : x.kind.isAgg = false) (w : World) : (isAgg t).run P w = .ok false w := by
 obtain ⟨_, d, hd, hm⟩ := h.one hk
 unfold isAgg;simp only [N8, run_underlying hd, N2]
 cases d <;> first | exact hm.elim | rfl
theorem GB {t : Nat} {x : TI} (h : x.ok P t) (hk : x.kind.isAgg = true) (w : World) : (isAgg t).run P w = .ok true w := by
 obtain ⟨_, h⟩ := h
 cases hx : x.kind <;> rw [hx] at h hk <;> simp [TK.isAgg] at hk
 obtain ⟨fs, h1, _⟩ := h
 unfold isAgg;simp only [N8, run_underlying h1, N2];rfl
theorem Ae {t : Nat} {x : TI} (h : x.ok P t) (w : World) : (sizeOf t).run P w = .ok x.size w := by
 obtain ⟨⟨i, z, h1, h2, h3, h4, h5⟩, _⟩ := h
 simp [sizeOf, typeInfo, h1, h2]
theorem B2 {w : World} {b o : Nat} {arr : Array Value} {e : TypeId} {fz : Nat × Nat} (h : w.heap[b]? = some (.cells arr e fz)) : w.cell? ⟨b, o, none⟩ = arr[o]? := by
 simp [World.cell?, h]
theorem As (b o k : Nat) : (⟨b, o, none⟩ : Addr).add k = ⟨b, o + k, none⟩ := by
 unfold Addr.add; split
 ·rename_i h; subst h; rfl
 ·rfl
theorem Cd {t : Nat} {x : TI} (h : x.ok P t) (hk : x.kind.isAgg = false) {w : World} {a : Addr} {v : Value} (hc : w.cell? a = some v) : (loadVar t a).run P w = .ok v w := by
 unfold loadVar
 simp [GA h hk, hc]
theorem BV {t : Nat} {x : TI} (h : x.ok P t) (hk : x.kind.isAgg = true) {w : World} {a : Addr} {cs : List Value} (hl : cs.length = x.size)
  (hc : ∀ j v, cs[j]? = some v → w.cell? (a.add j) = some v) : (loadVar t a).run P w = .ok (.agg cs.toArray) w := by
 unfold loadVar;simp only [N8, GB h hk, N2, if_true, Ae h];rw [← hl, run_loadCells_list w a cs hc];rfl
/-! Lists of cells, part by part -/
theorem RelL.length {w : World} {F : Nat → Prop} {vs ts} (h : RelL w F vs ts) : vs.length = ts.length := by
 induction h <;> simp_all
theorem RelL.cons {w : World} {F : Nat → Prop} {v vs t ts} (h : RelL w F (v :: vs) (t :: ts)) : RelL w F [v] [t] ∧ RelL w F vs ts := by
 cases h with
 | v h1 h2 => exact ⟨.v h1 .nil, h2⟩
 | none h => exact ⟨.none .nil, h⟩
 | list h1 h2 h3 h4 h5 h6 h7 => exact ⟨.list h1 h2 h3 h4 h5 h6 .nil, h7⟩
 | sub h1 h2 => exact ⟨.sub h1 .nil, h2⟩
theorem RelL.cons' {w : World} {F : Nat → Prop} {v vs t ts} (h : RelL w F [v] [t]) (k : RelL w F vs ts) : RelL w F (v :: vs) (t :: ts) := by
 cases h with
 | v h1 h2 => exact .v h1 k
 | none h => exact .none k
 | list h1 h2 h3 h4 h5 h6 h7 => exact .list h1 h2 h3 h4 h5 h6 k
 | sub h1 _ => exact .sub h1 k
theorem RelL.drop {w : World} {F : Nat → Prop} : ∀ {vs ts} (k : Nat), RelL w F vs ts → RelL w F (vs.drop k) (ts.drop k)
 | _, _, 0, h => h
 | [], [], _ + 1, h => by simpa using h
 | [], _ :: _, _, h => by cases h
 | _ :: _, [], _, h => by cases h
 | _ :: _, _ :: _, k + 1, h => RelL.drop k h.cons.2
theorem RelL.take {w : World} {F : Nat → Prop} : ∀ {vs ts} (k : Nat), RelL w F vs ts → RelL w F (vs.take k) (ts.take k)
 | _, _, 0, h => by simpa using RelL.nil
 | [], [], _ + 1, h => by simpa using h
 | [], _ :: _, _, h => by cases h
 | _ :: _, [], _, h => by cases h
 | _ :: _, _ :: _, k + 1, h => RelL.cons' h.cons.1 (RelL.take k h.cons.2)
theorem RelL.get {w : World} {F : Nat → Prop} : ∀ {vs ts} (k : Nat) {t}, RelL w F vs ts → ts[k]? = some t → ∃ v, vs[k]? = some v ∧ RelL w F [v] [t]
 | [], [], _, _, _, e => by simp at e
 | [], _ :: _, _, _, h, _ => by cases h
 | _ :: _, [], _, _, h, _ => by cases h
 | x0 :: _, _ :: _, 0, _, h, e => by simp at e; subst e; exact ⟨x0, rfl, h.cons.1⟩
 | _ :: _, _ :: _, k + 1, _, h, e => by
  obtain ⟨v, h1, h2⟩ := RelL.get k h.cons.2 (by simpa using e)
  exact ⟨v, by simpa using h1, h2⟩
theorem RelL.append {w : World} {F : Nat → Prop} : ∀ {vs ts vs' ts'}, RelL w F vs ts → RelL w F vs' ts' → RelL w F (vs ++ vs') (ts ++ ts')
 | [], [], _, _, _, k => k
 | [], _ :: _, _, _, h, _ => by cases h
 | _ :: _, [], _, _, h, _ => by cases h
 | _ :: _, _ :: _, _, _, h, k => RelL.cons' h.cons.1 (RelL.append h.cons.2 k)
theorem RelD.length {w : World} {F : Nat → Prop} {β vs ds bs} (h : RelD w F β vs ds bs) : vs.length = ds.length := by
 induction h <;> simp_all
theorem RelD.cons {w : World} {F : Nat → Prop} {β v vs d ds bs} (h : RelD w F β (v :: vs) (d :: ds) bs) : ∃ b1 b2, RelD w F β [v] [d] b1 ∧ RelD w F β vs ds b2 ∧ bs = b1 ++ b2 := by
 cases h with
 | t h1 h2 => exact ⟨[], _, .t h1 .done, h2, rfl⟩
 | tagg h1 h2 => exact ⟨[], _, .tagg h1 .done, h2, rfl⟩
 | nil h => exact ⟨[], _, .nil .done, h, rfl⟩
 | agg h0 h1 h2 => exact ⟨_ ++ [], _, .agg h0 h1 .done, h2, by simp⟩
 | ref h1 h2 => exact ⟨[], _, .ref h1 .done, h2, rfl⟩
 | sl h1 h2 h3 h4 h5 => exact ⟨[], _, .sl h1 h2 h3 h4 .done, h5, rfl⟩
 | slnil h1 h2 => exact ⟨[], _, .slnil h1 .done, h2, rfl⟩
 | rp h1 h2 h3 h4 h5 => exact ⟨[], _, .rp h1 h2 h3 h4 .done, h5, rfl⟩
 | clo h1 h2 => exact ⟨_ ++ [], _, .clo h1 .done, h2, by simp⟩
 | tup h1 h2 => exact ⟨_ ++ [], _, .tup h1 .done, h2, by simp⟩
 | own h1 h2 => exact ⟨_ ++ [], _, .own h1 .done, h2, by simp⟩
 | top h => exact ⟨[], _, .top .done, h, rfl⟩
theorem RelD.cons' {w : World} {F : Nat → Prop} {β v vs d ds b1 b2} (h : RelD w F β [v] [d] b1) (k : RelD w F β vs ds b2) : RelD w F β (v :: vs) (d :: ds) (b1 ++ b2) := by
 cases h with
 | t h1 h2 => cases h2; exact .t h1 k
 | tagg h1 h2 => cases h2; exact .tagg h1 k
 | nil h => cases h; exact .nil k
 | agg h0 h1 h2 => cases h2; simpa using RelD.agg h0 h1 k
 | ref h1 h2 => cases h2; exact .ref h1 k
 | sl h1 h2 h3 h4 h5 => cases h5; exact .sl h1 h2 h3 h4 k
 | slnil h1 h2 => cases h2; exact .slnil h1 k
 | rp h1 h2 h3 h4 h5 => cases h5; exact .rp h1 h2 h3 h4 k
 | clo h1 h2 => cases h2; simpa using RelD.clo h1 k
 | tup h1 h2 => cases h2; simpa using RelD.tup h1 k
 | own h1 h2 => cases h2; simpa using RelD.own h1 k
 | top h => cases h; exact .top k
theorem RelD.get {w : World} {F : Nat → Prop} {β} : ∀ {vs ds bs} (k : Nat) {d}, RelD w F β vs ds bs → ds[k]? = some d → ∃ v b, vs[k]? = some v ∧ RelD w F β [v] [d] b
 | [], [], _, _, _, _, e => by simp at e
 | [], _ :: _, _, _, _, h, _ => by cases h
 | _ :: _, [], _, _, _, h, _ => by cases h
 | v :: _, _ :: _, _, 0, _, h, e => by
  simp at e; subst e
  obtain ⟨b1, _, h1, _⟩ := h.cons
  exact ⟨v, b1, rfl, h1⟩
 | _ :: _, _ :: _, _, k + 1, _, h, e => by
  obtain ⟨_, _, _, h2, _⟩ := h.cons
  obtain ⟨v, b, h3, h4⟩ := RelD.get k h2 (by simpa using e)
  exact ⟨v, b, by simpa using h3, h4⟩
theorem RelD.part {w : World} {F : Nat → Prop} {β} : ∀ {vs ds bs} (k n : Nat), RelD w F β vs ds bs → D.free.freeL ((ds.drop k).take n) = true → RelD w F β ((vs.drop k).take n) ((ds.drop k).take n) []
 | _, _, _, _, 0, _, _ => by simpa using RelD.done
 | [], [], _, _, _, _, _ => by simpa using RelD.done
 | [], _ :: _, _, _, _, h, _ => by cases h
 | _ :: _, [], _, _, _, h, _ => by cases h
 | _ :: _, _ :: _, _, k + 1, n, h, e => by
  obtain ⟨_, _, _, h2, _⟩ := h.cons
  exact RelD.part k n h2 e
 | _ :: _, _ :: _, _, 0, n + 1, h, e => by
  obtain ⟨b1, _, h1, h2, _⟩ := h.cons
  simp only [List.drop_zero, List.take_succ_cons, D.free.freeL, Nv] at e
  have := h1.free1 e.1
  subst this;exact RelD.cons' h1 (RelD.part 0 n h2 e.2)
def NW : BinOp → Int → Int → Option D
 | .add, a, b => some (.t (.int (IntKind.i64.wrap (a + b))))
 | .sub, a, b => some (.t (.int (IntKind.i64.wrap (a - b))))
 | .mul, a, b => some (.t (.int (IntKind.i64.wrap (a * b))))
 | .eql, a, b => some (.t (.bool (decide (a = b))))
 | .neq, a, b => some (.t (.bool (decide (a ≠ b))))
 | .lss, a, b => some (.t (.bool (decide (a < b))))
 | .leq, a, b => some (.t (.bool (decide (a ≤ b))))
 | .gtr, a, b => some (.t (.bool (decide (b < a))))
 | .geq, a, b => some (.t (.bool (decide (b ≤ a))))
 | _, _, _ => none
def NX (k : Option TK) : BinOp → D → D → Option D
 | op, .t (.v (.int .i64 a)), .t (.v (.int .i64 b)) => NW op a b
 | .eql, .t (.v (.bool a)), .t (.v (.bool b)) => match k with | some .bool => some (.t (.bool (a == b))) | _ => none
 | .neq, .t (.v (.bool a)), .t (.v (.bool b)) => match k with | some .bool => some (.t (.bool (a != b))) | _ => none
 | _, _, _ => none
theorem KY {op : BinOp} {ty : Nat} {a b : Int} {d : D} {w : World} {F : Nat → Prop} {β : Ag}
  (h : NW op a b = some d) (ox oy : Operand) : ∃ v, ((do eqGuard op ty ox oy (.int .i64 a) (.int .i64 b); binOp op ty (.int .i64 a) (.int .i64 b) : Sem Value)).run P w = .ok v w ∧ RelD w F β [v] [d] [] := by
 cases op <;> simp only [NW, Option.some.injEq, reduceCtorEq] at h <;> subst h <;>
  first
   | (refine ⟨_, ?_, .t (.v rfl .nil) .done⟩; simp [eqGuard, binOp, Op.intArith, Op.intCmp]; done)
   | (refine ⟨_, ?_, .t (.v rfl .nil) .done⟩; simp [eqGuard, binOp, Op.intArith, Op.intCmp]; rfl)
   | (refine ⟨_, ?_, .t (.v rfl .nil) .done⟩; simp [eqGuard, binOp, Op.intArith, Op.intCmp]; grind)
def lenD (k : TK) : D → Option D
 | .sl _ _ n => match k with | .slice _ => some (.t (.int n)) | _ => none
 | .t (.list _ l) => match k with | .slice _ => some (.t (.int l.length)) | _ => none
 | .nil => match k with | .slice _ => some (.t (.int 0)) | _ => none
 | .t (.v (.string b)) => match k with | .str => some (.t (.int b.size)) | _ => none
 | _ => none
def Kg (k : TK) (n : Nat) (cells : List D) (off : Nat) : Option D :=
 if k.isAgg then
  if off + n ≤ cells.length then
   if D.free.freeL ((cells.drop off).take n) then some (.agg ((cells.drop off).take n)) else none
  else none
 else match cells[off]? with
  | some d => if d.free then some d else none
  | none => none
def Lx (k : TK) (n : Nat) (cells : List T) (off : Nat) : Option D :=
 if k.isAgg then
  if off + n ≤ cells.length then some (.t (.agg ((cells.drop off).take n))) else none
 else match cells[off]? with
  | some (.agg _) => none
  | some x => some (.t x)
  | none => none
def evV (Γ : Tys) (s : St) : Op → Option D
 | .move x => some (opd s.fr x).dup
 | .assign x => some (opd s.fr x).dup
 | .pick x a b => match opd s.fr x with
  | .t (.v (.bool true)) => some (opd s.fr a).dup
  | .t (.v (.bool false)) => some (opd s.fr b).dup
  | _ => none
 | .binOp op ty x y _ => NX ((A7 Γ ty).map (·.kind)) op (opd s.fr x) (opd s.fr y)
 | .unOp .not _ x => match opd s.fr x with
  | .t (.v (.bool b)) => some (.t (.bool (!b)))
  | _ => none
 | .unOp .neg _ x => match opd s.fr x with
  | .t (.v (.int .i64 b)) => some (.t (.int (IntKind.i64.wrap (0 - b))))
  | _ => none
 | .fieldAddr ty x k => match A7 Γ ty with
  | some ti => match ti.kind with
   | .agg offs => match offs[k]?, opd s.fr x with
    | some f, .ref id i off => some (.ref id i (off + f))
    | some f, .rp y off => some (.rp y (off + f))
    | _, _ => none
   | _ => none
  | none => none
 | .load ty x => match A7 Γ ty with
  | some ti => match opd s.fr x with
   | .rp y off => Lx ti.kind ti.size y.cells off
   | .ref id 0 off => match lookM s.M id with
    | some (.box cells) => Kg ti.kind ti.size cells off
    | _ => none
   | _ => none
  | none => none
 | .extract x k => match opd s.fr x with
  | .tup l => match l[k]? with
   | some d => some d.dup
   | none => none
  | _ => none
 | .makeFunc (.func f) first captured => match first.toList with
  | [] => some (.clo f (captured.toList.map fun x => (opd s.fr x).dup))
  | _ => none
 | .call ⟨.builtin .len, args, tys⟩ => match args.toList, tys.toList with
  | [x], [ty] => match A7 Γ ty with
   | some ti => lenD ti.kind (opd s.fr x)
   | none => none
  | _, _ => none
 | .call ⟨.builtin .min, args, _⟩ => match args.toList with
  | [x, y] => match opd s.fr x, opd s.fr y with
   | .t (.v (.int .i64 a)), .t (.v (.int .i64 b)) => some (.t (.int (if b < a then b else a)))
   | _, _ => none
  | _ => none
 | .call ⟨.builtin .max, args, _⟩ => match args.toList with
  | [x, y] => match opd s.fr x, opd s.fr y with
   | .t (.v (.int .i64 a)), .t (.v (.int .i64 b)) => some (.t (.int (if a < b then b else a)))
   | _, _ => none
  | _ => none
 | _ => none
theorem KZ {Γ : Tys} (hΓ : Γ.ok P) {op : BinOp} {ty : Nat} {x y : Value} {d1 d2 d : D} {w : World} {F : Nat → Prop} {β : Ag} {b1 b2}
  (h1 : RelD w F β [x] [d1] b1) (h2 : RelD w F β [y] [d2] b2)
  (h : NX ((A7 Γ ty).map (·.kind)) op d1 d2 = some d) (ox oy : Operand) : ∃ v, ((do eqGuard op ty ox oy x y; binOp op ty x y : Sem Value)).run P w = .ok v w ∧ RelD w F β [v] [d] [] := by
 unfold NX at h;split at h
 ·have e1 := Am h1; have e2 := Am h2
  subst e1; subst e2;exact KY h ox oy
 ·have e1 := Am h1; have e2 := Am h2
  subst e1; subst e2;split at h
  ·rename_i hk
   cases hty : A7 Γ ty with
   | none => simp [hty] at hk
   | some ti =>
    rw [hty] at hk;simp only [Option.map_some, Option.some.injEq] at hk
    have := (hΓ.get hty).2
    rw [hk] at this;cases h;refine ⟨_, ?_, .t (.v rfl .nil) .done⟩
    simp [eqGuard, binOp, Op.equal, show Op.maxDepth = 9999 + 1 from rfl, run_equalIn_bool' w 9999 ty _ _ this.2]
  ·cases h
 ·have e1 := Am h1; have e2 := Am h2
  subst e1; subst e2;split at h
  ·rename_i hk
   cases hty : A7 Γ ty with
   | none => simp [hty] at hk
   | some ti =>
    rw [hty] at hk;simp only [Option.map_some, Option.some.injEq] at hk
    have := (hΓ.get hty).2
    rw [hk] at this;cases h;refine ⟨_, ?_, .t (.v rfl .nil) .done⟩
    simp [eqGuard, binOp, Op.equal, show Op.maxDepth = 9999 + 1 from rfl, run_equalIn_bool' w 9999 ty _ _ this.2]
    simp [bne]
  ·cases h
 ·cases h
theorem Ke {w : World} {F : Nat → Prop} {x : Value} {n : Nat} {l : List T} (h : RelL w F [x] [.list n l]) : ∃ a c, x = .slice a l.length c ∧ l.length ≤ c := by
 cases h with
 | none h => exact ⟨_, _, rfl, OU _⟩
 | list _ _ _ _ h5 => exact ⟨_, _, rfl, h5⟩
theorem Lu {ty : Nat} {ti : TI} (ht : ti.ok P ty) {x : Value} {d e : D} {w : World} {F : Nat → Prop} {β : Ag} {bs} (h : RelD w F β [x] [d] bs) (he : lenD ti.kind d = some e) (u : Nat) :
  ∃ v, (Builtin.len_ #[ty] u #[x]).run P w = .ok v w ∧ RelD w F β [v] [e] [] := by
 have hs : ∀ {k : Nat}, (match ti.kind with | .slice _ => some (D.t (.int k)) | _ => none) = some e → ∀ a c, (Builtin.len_ #[ty] u #[.slice a k c]).run P w = .ok (.int .i64 k) w ∧ e = .t (.int k) := by
  intro k he a c
  obtain ⟨_, h2⟩ := ht
  cases hk : ti.kind <;> rw [hk] at he h2 <;> simp at he
  subst he;exact ⟨by simp [Builtin.len_, run_underlying h2.2, goInt], rfl⟩
 unfold lenD at he;split at he
 ·cases h with
  | sl h1 h2 h3 h4 h5 => obtain ⟨h6, rfl⟩ := hs he _ _; exact ⟨_, h6, .t (.v rfl .nil) .done⟩
  | slnil h1 h2 => obtain ⟨h6, rfl⟩ := hs he _ _; exact ⟨_, h6, .t (.v rfl .nil) .done⟩
 ·cases h with
  | t h _ =>
   obtain ⟨a, c, rfl, _⟩ := Ke h
   obtain ⟨h6, rfl⟩ := hs he a c
   exact ⟨_, h6, .t (.v rfl .nil) .done⟩
 ·cases h with
  | nil h => obtain ⟨h6, rfl⟩ := hs (k := 0) he _ _; exact ⟨_, h6, .t (.v rfl .nil) .done⟩
 ·have e1 := Am h
  subst e1
  obtain ⟨_, h2⟩ := ht
  cases hk : ti.kind <;> rw [hk] at he h2 <;> simp at he
  subst he;refine ⟨_, ?_, .t (.v rfl .nil) .done⟩
  simp [Builtin.len_, run_underlying h2.2, goInt]
 ·cases he
theorem DC {ty : Nat} {ti : TI} {offs : List Nat} (ht : ti.ok P ty) (hk : ti.kind = .agg offs) {k f : Nat} (hf : offs[k]? = some f) (b o : Nat) (w : World) :
  (Instr.fieldAt ty (.pointer (some ⟨b, o, none⟩)) k).run P w = .ok (.pointer (some ⟨b, o + f, none⟩)) w := by
 obtain ⟨_, h2⟩ := ht
 rw [hk] at h2
 obtain ⟨fs, h3, h4, h5⟩ := h2
 rw [← h4, List.getElem?_map] at hf
 cases hx : fs.toList[k]? with
 | none => simp [hx] at hf
 | some fl =>
  rw [hx] at hf;simp only [Option.map_some, Option.some.injEq] at hf
  obtain ⟨i, h6, h7⟩ := h5 fl (List.mem_of_getElem? hx)
  have hx' : fs[k]? = some fl := by simpa using hx
  simp [Instr.fieldAt, run_underlying h3, hx', Instr.sureAddr, fieldPlace, sizeOf, typeInfo, h6, h7, As, hf]
theorem DU {ty : Nat} {ti : TI} (ht : ti.ok P ty) {b o off : Nat} {arr : Array Value} {e fz} {cs : List Value} {cells : List D} {d : D} {w : World} {F : Nat → Prop} {β : Ag} {bs : List Nat}
  (hh : w.heap[b]? = some (.cells arr e fz)) (ha : ∀ k, k < cs.length → arr[o + k]? = cs[k]?) (hone : cs.all (·.oneCell') = true) (hr : RelD w F β cs cells bs) (hp : Kg ti.kind ti.size cells off = some d) :
  ∃ v, (Instr.loadAt ty (.pointer (some ⟨b, o + off, none⟩))).run P w = .ok v w ∧ RelD w F β [v] [d] [] := by
 have hlen := hr.length
 unfold Kg at hp;split at hp
 ·rename_i hk
  split at hp
  ·rename_i hle
   split at hp
   ·rename_i hf
    cases hp;refine ⟨.agg ((cs.drop off).take ti.size).toArray, ?_, by simpa using RelD.agg (arr := ((cs.drop off).take ti.size).toArray) (by rw [N1] at hone ⊢; intro x hx; exact hone x (List.mem_of_mem_drop (OX (by simpa using hx)))) (by simpa using hr.part off ti.size hf) .done⟩
    have hl : ((cs.drop off).take ti.size).length = ti.size := by simp; omega
    unfold Instr.loadAt;simp only [N8, Instr.sureAddr, OS, N2]
    refine BV ht hk hl fun j v hj => ?_
    rw [As, B2 hh, Nat.add_assoc];simp only [List.getElem?_take, List.getElem?_drop] at hj;split at hj
    ·rw [ha _ (by have := List.getElem?_eq_some_iff.1 hj; omega)]; exact hj
    ·cases hj
   ·cases hp
  ·cases hp
 ·rename_i hk
  split at hp
  ·rename_i d' hd
   split at hp
   ·rename_i hf
    cases hp
    obtain ⟨v, b', h1, h2⟩ := hr.get off hd
    have := h2.free1 hf
    subst this;refine ⟨v, ?_, h2⟩;unfold Instr.loadAt;simp only [N8, Instr.sureAddr, OS, N2];refine Cd ht (by simpa using hk) ?_;rw [B2 hh, ha _ (by have := (List.getElem?_eq_some_iff.1 h1).1; omega)];exact h1
   ·cases hp
  ·cases hp
theorem Fk {ty : Nat} {ti : TI} (ht : ti.ok P ty) {b o off : Nat} {arr : Array Value} {e fz} {cs : List Value} {cells : List T} {d : D} {w : World} {F : Nat → Prop} {β : Ag}
  (hh : w.heap[b]? = some (.cells arr e fz)) (ha : ∀ k, k < cs.length → arr[o + k]? = cs[k]?) (hr : RelL w F cs cells) (hp : Lx ti.kind ti.size cells off = some d) :
  ∃ v, (Instr.loadAt ty (.pointer (some ⟨b, o + off, none⟩))).run P w = .ok v w ∧ RelD w F β [v] [d] [] := by
 have hlen := hr.length
 unfold Lx at hp;split at hp
 ·rename_i hk
  split at hp
  ·rename_i hle
   cases hp;refine ⟨.agg ((cs.drop off).take ti.size).toArray, ?_, .tagg (by simpa using (hr.drop off).take ti.size) .done⟩
   have hl : ((cs.drop off).take ti.size).length = ti.size := by simp; omega
   unfold Instr.loadAt;simp only [N8, Instr.sureAddr, OS, N2]
   refine BV ht hk hl fun j v hj => ?_
   rw [As, B2 hh, Nat.add_assoc];simp only [List.getElem?_take, List.getElem?_drop] at hj;split at hj
   ·rw [ha _ (by have := List.getElem?_eq_some_iff.1 hj; omega)]; exact hj
   ·cases hj
  ·cases hp
 ·rename_i hk
  split at hp
  ·cases hp
  ·rename_i x hx hd
   cases hp
   obtain ⟨v, h1, h2⟩ := hr.get off hd
   refine ⟨v, ?_, .t h2 .done⟩;unfold Instr.loadAt;simp only [N8, Instr.sureAddr, OS, N2];refine Cd ht (by simpa using hk) ?_;rw [B2 hh, ha _ (by have := (List.getElem?_eq_some_iff.1 h1).1; omega)];exact h1
  ·cases hp
theorem Iq {a : Act} {w : World} {F β fb mb ow} (h : Conc c s a w F β fb mb ow) : ∀ l : List Operand, RelD w F β (l.map a.eval) (l.map fun x => (opd s.fr x).dup) []
 | [] => .done
 | x :: l => by
  obtain ⟨bs, hr, _⟩ := h.opd x
  exact RelD.cons' hr.dup (Iq h l)
theorem K6 {Γ : Tys} (hΓ : Γ.ok P) {d : D} (he : evV Γ s o.op = some d) {a : Act} {w : World} {F β fb mb ow} (hi : Conc c s a w F β fb mb ow) :
  ∃ v, (execOp a.eval o).run P w = .ok (.value v) w ∧ RelD w F β [v] [d] [] := by
 unfold evV at he;unfold execOp;split at he
 ·rename_i x hx
  cases he
  obtain ⟨bs, hr, _⟩ := hi.opd x
  exact ⟨_, by simp [hx], hr.dup⟩
 ·rename_i x hx
  cases he
  obtain ⟨bs, hr, _⟩ := hi.opd x
  exact ⟨_, by simp [hx], hr.dup⟩
 ·rename_i x y z hx
  obtain ⟨bs, hr, _⟩ := hi.opd x
  split at he
  ·rename_i hxx
   rw [hxx] at hr
   have e1 := Am hr
   cases he
   obtain ⟨bs', hr', _⟩ := hi.opd y
   exact ⟨_, by simp [hx, e1, asBool], hr'.dup⟩
  ·rename_i hxx
   rw [hxx] at hr
   have e1 := Am hr
   cases he
   obtain ⟨bs', hr', _⟩ := hi.opd z
   exact ⟨_, by simp [hx, e1, asBool], hr'.dup⟩
  ·cases he
 ·rename_i op ty x y ty' hx
  obtain ⟨bs, hr, _⟩ := hi.opd x
  obtain ⟨bs', hr', _⟩ := hi.opd y
  obtain ⟨v, h1, h2⟩ := KZ hΓ hr hr' he x y
  refine ⟨v, ?_, h2⟩;rw [hx];simp only [N8] at h1 ⊢;rw [h1];rfl
 ·rename_i ty x hx
  obtain ⟨bs, hr, _⟩ := hi.opd x
  split at he
  ·rename_i hxx
   rw [hxx] at hr
   have e1 := Am hr
   cases he;exact ⟨_, by simp [hx, e1, Op.unary], .t (.v rfl .nil) .done⟩
  ·cases he
 ·rename_i ty x hx
  obtain ⟨bs, hr, _⟩ := hi.opd x
  split at he
  ·rename_i hxx
   rw [hxx] at hr
   have e1 := Am hr
   cases he;exact ⟨_, by simp [hx, e1, Op.unary, Op.intArith], .t (.v rfl .nil) .done⟩
  ·cases he
 ·rename_i ty x k hx
  obtain ⟨bs, hr, _⟩ := hi.opd x
  split at he
  ·rename_i ti hti
   have ht := hΓ.get hti
   split at he
   ·rename_i offs hk
    split at he
    ·rename_i f id i off hf hxx
     cases he;rw [hxx] at hr;generalize hev : a.eval x = xv at hr
     cases hr with
     | ref h1 h2 =>
      refine ⟨_, by simp [hx, hev, DC ht hk hf]; rfl, ?_⟩;rw [Nat.add_assoc];exact .ref h1 .done
    ·rename_i f y off hf hxx
     cases he;rw [hxx] at hr;generalize hev : a.eval x = xv at hr
     cases hr with
     | rp h1 h2 h3 h4 h5 =>
      refine ⟨_, by simp [hx, hev, DC ht hk hf]; rfl, ?_⟩;rw [Nat.add_assoc];exact .rp h1 h2 h3 h4 .done
    ·cases he
   ·cases he
  ·cases he
 ·rename_i ty x hx
  obtain ⟨bs, hr, _⟩ := hi.opd x
  split at he
  ·rename_i ti hti
   have ht := hΓ.get hti
   split at he
   ·rename_i y off hxx
    rw [hxx] at hr;generalize hev : a.eval x = xv at hr
    cases hr with
    | rp h1 h2 h3 h4 h5 =>
     obtain ⟨v, h6, h7⟩ := Fk (β := β) ht h2 h3 h4 he
     exact ⟨v, by simp [hx, hev, h6], h7⟩
   ·rename_i id off hxx
    rw [hxx] at hr;split at he
    ·rename_i cells hM
     have hm := hi.mem id
     rw [hM] at hm
     obtain ⟨b, arr, e, bs', hb1, hb2, hb3, hb4⟩ := hm
     generalize hev : a.eval x = xv at hr
     cases hr with
     | ref h1 h2 =>
      rw [hb1] at h1;cases h1
      obtain ⟨v, h6, h7⟩ := DU (o := 0) (off := off) ht hb2 (by simp) hb4.1 hb3 he
      refine ⟨v, ?_, h7⟩;simp only [Nat.zero_add, Nat.zero_mul] at h6 hev
      simp [hx, hev, h6]
    ·cases he
   ·cases he
  ·cases he
 ·rename_i x k hx
  obtain ⟨bs, hr, _⟩ := hi.opd x
  split at he
  ·rename_i l hxx
   rw [hxx] at hr;split at he
   ·rename_i d' hd
    cases he;generalize hev : a.eval x = xv at hr
    cases hr with
    | tup h1 h2 =>
     obtain ⟨v, b, h3, h4⟩ := h1.get k hd
     refine ⟨v, ?_, h4.dup⟩
     have h3' : _ := h3
     rw [Array.getElem?_toList] at h3'
     simp [hx, hev, Instr.extract, h3']
   ·cases he
  ·cases he
 ·rename_i f first captured hx
  split at he
  ·rename_i hf
   cases he;refine ⟨_, by simp [hx, Instr.makeFunc]; rfl, ?_⟩
   have hf' : first = #[] := by simpa using hf
   subst hf'
   have := Iq hi captured.toList
   simpa using RelD.clo (f := f) (arr := captured.map a.eval) (by simpa using this) .done
  ·cases he
 ·rename_i args tys hx
  split at he
  ·rename_i x ty ha hty
   split at he
   ·rename_i ti hti
    have ht := hΓ.get hti
    obtain ⟨bs, hr, _⟩ := hi.opd x
    obtain ⟨v, h1, h2⟩ := Lu ht hr he o.type
    refine ⟨v, ?_, h2⟩
    have ea : args = #[x] := by simpa using congrArg List.toArray ha
    have et : tys = #[ty] := by simpa using congrArg List.toArray hty
    subst ea; subst et
    simp [hx, resolve, invoke, builtin, h1]
   ·cases he
  ·cases he
 ·rename_i args tys hx
  split at he
  ·rename_i x y ha
   obtain ⟨bs, hr, _⟩ := hi.opd x
   obtain ⟨bs', hr', _⟩ := hi.opd y
   split at he
   ·rename_i p q hxx hyy
    rw [hxx] at hr; rw [hyy] at hr'
    have e1 := Am hr; have e2 := Am hr'
    cases he
    have ea : args = #[x, y] := by simpa using congrArg List.toArray ha
    subst ea;refine ⟨.int .i64 (if q < p then q else p), ?_, .t (.v rfl .nil) .done⟩
    simp [hx, resolve, invoke, builtin, e1, e2, Builtin.min_, Builtin.min2]
   ·cases he
  ·cases he
 ·rename_i args tys hx
  split at he
  ·rename_i x y ha
   obtain ⟨bs, hr, _⟩ := hi.opd x
   obtain ⟨bs', hr', _⟩ := hi.opd y
   split at he
   ·rename_i p q hxx hyy
    rw [hxx] at hr; rw [hyy] at hr'
    have e1 := Am hr; have e2 := Am hr'
    cases he
    have ea : args = #[x, y] := by simpa using congrArg List.toArray ha
    subst ea;refine ⟨.int .i64 (if p < q then q else p), ?_, .t (.v rfl .nil) .done⟩
    simp [hx, resolve, invoke, builtin, e1, e2, Builtin.max_, Builtin.max2]
   ·cases he
  ·cases he
 ·cases he
theorem Nm {Γ : Tys} (hΓ : Γ.ok P) {t : Nat} {d : D} (hg : o.guard = none) (hd : o.dst = some t) (ht : t < c.n) (he : evV Γ s o.op = some d)
  (k : WO P c ops rest ⟨(t, d) :: s.fr, s.M⟩ Q) : WO P c ops (o :: rest) s Q :=
 BC hg hd ht d (fun _ _ _ _ _ _ _ hi => K6 hΓ he hi) k
theorem Gp {j d t : Nat} {want b : Bool} (hg : o.guard = some (j, want)) (hj : (ops[j]?).bind (·.dst) = some d) (hl : look s.fr d = .t (.bool b)) (hd : o.dst = some t) (ht : t < c.n)
  (h1 : b = want → WO P c ops ({ o with guard := none } :: rest) ⟨(d, .t (.bool want)) :: s.fr, s.M⟩ Q)
  (h2 : b = (!want) → WO P c ops rest ⟨(t, .tup []) :: (d, .t (.bool (!want))) :: s.fr, s.M⟩ Q) : WO P c ops (o :: rest) s Q := by
 rintro a w ⟨F, β, fb, mb, ow, hi⟩
 have hr := hi.fr d
 rw [hl] at hr
 have e1 := Am hr
 have hlt : d < a.tmps.size := by
  rcases Nat.lt_or_ge d a.tmps.size with h | h
  ·exact h
  ·rw [Ny, Array.getElem?_eq_none h] at e1
   cases e1
 have hy : yielded ops a.tmps j = some b := by
  unfold yielded;rw [hj];simp only [Option.bind_some];rw [Ny] at e1;rw [Array.getElem?_eq_getElem hlt] at e1 ⊢;simp only [Option.getD_some] at e1;rw [e1]
 have hlit : ∀ x, b = x → Is c ⟨(d, .t (.bool x)) :: s.fr, s.M⟩ a w := fun x hx => by
  subst hx;refine Le.of (s := s) (s' := ⟨(d, .t (.bool b)) :: s.fr, s.M⟩) (fun t => ?_) (fun t => .inl rfl) a w ⟨F, β, fb, mb, ow, hi⟩;simp only [look];split
  ·rename_i e; subst e; exact .inl hl.symm
  ·exact .inl rfl
 unfold wpList
 by_cases hb : b = want
 ·have hw : Region.wanted o (yielded ops a.tmps) = true := by simp [Region.wanted, hg, hy, hb]
  rw [if_pos hw]
  have := h1 hb a w (hlit _ hb)
  unfold wpList at this;rw [if_pos (by simp [Region.wanted])] at this;exact this
 ·have hw : ¬ Region.wanted o (yielded ops a.tmps) = true := by simp [Region.wanted, hg, hy, hb]
  rw [if_neg hw, hd]
  have hb' : b = !want := by cases b <;> cases want <;> simp_all
  obtain ⟨F', β', fb', mb', ow', hi'⟩ := hlit _ hb'
  exact h2 hb' _ _ ⟨_, _, _, _, _, hi'.put ht (RelD.tup (arr := #[]) (l := []) .done .done)⟩
/-! ### Places in slices -/
theorem CO {ty e : Nat} {ti te : TI} (ht : ti.ok P ty) (hk : ti.kind = .slice e) (he : te.ok P e) {b o len cap : Nat} {i : Int} (h0 : 0 ≤ i) (h1 : i < len) (w : World) :
  (Instr.indexAt ty (.slice (some ⟨b, o, none⟩) len cap) (.int .i64 i)).run P w = .ok (.pointer (some ⟨b, o + i.toNat * te.size, none⟩)) w := by
 obtain ⟨_, h2⟩ := ht
 rw [hk] at h2;simp only [Instr.indexAt, asIntOf, N8, run_underlying h2.2, N2, OS, Sem.run_ite, Ae he, As];rw [if_pos ⟨h0, h1⟩]
theorem GX {n : Nat} : ∀ {xs : List T} (hw : ∀ x, x ∈ xs → (T.cells x).length = n) {i : Nat} {y : T}, xs[i]? = some y → ((xs.flatMap T.cells).drop (i * n)).take n = y.cells
 | [], _, _, _, h => by simp at h
 | x :: xs, hw, 0, y, h => by
  simp at h; subst h
  have := hw x (by simp)
  simp only [OM, Nat.zero_mul, List.drop_zero];rw [← this, List.take_left]
 | x :: xs, hw, i + 1, y, h => by
  have hx := hw x (by simp)
  have ih := GX (xs := xs) (fun z hz => hw z (by simp [hz])) (i := i) (y := y) (by simpa using h)
  rw [OM, Nat.succ_mul, Nat.add_comm, ← List.drop_drop]
  conv in (List.drop n _) => rw [← hx, List.drop_left]
  exact ih
theorem Ap {n : Nat} : ∀ {xs : List T} (hw : ∀ x, x ∈ xs → (T.cells x).length = n), (xs.flatMap T.cells).length = xs.length * n
 | [], _ => by simp
 | x :: xs, hw => by
  rw [OM, Nu, hw x (by simp), Ap (xs := xs) fun z hz => hw z (by simp [hz]), Nx, Nat.succ_mul, Nat.add_comm]
theorem Bi {Γ : Tys} (hΓ : Γ.ok P) {ty e t n : Nat} {x ix : Operand} {ti te : TI} {l : List T} {i : Int} (hg : o.guard = none) (hd : o.dst = some t) (ht : t < c.n) (ho : o.op = .indexAddr ty x ix)
  (h1 : A7 Γ ty = some ti) (h2 : ti.kind = .slice e) (h3 : A7 Γ e = some te) (h4 : te.size = n) (hx : opd s.fr x = .t (.list n l)) (hix : opd s.fr ix = .t (.int i))
  (h5 : 0 ≤ i) (y : T) (h6 : l[i.toNat]? = some y)
  (k : WO P c ops rest ⟨(t, .rp y 0) :: s.fr, s.M⟩ Q) : WO P c ops (o :: rest) s Q := by
 refine BC hg hd ht (.rp y 0) (fun a w F β fb mb ow hi => ?_) k
 obtain ⟨bs, hr, _⟩ := hi.opd x
 obtain ⟨bs', hr', _⟩ := hi.opd ix
 rw [hx] at hr;rw [hix] at hr'
 have e2 := Am hr'
 have hlt : i.toNat < l.length := (List.getElem?_eq_some_iff.1 h6).1
 generalize hev : a.eval x = xv at hr
 cases hr with
 | t hr _ =>
  cases hr with
  | none _ => simp at hlt
  | list q1 q2 q3 q4 q5 q6 _ =>
   rename_i b o' cap cs arr e' fz _
   refine ⟨.pointer (some ⟨b, o' + i.toNat * te.size + 0, none⟩), ?_, ?_⟩
   ·simp only [execOp, ho, hev, e2, N8, CO (hΓ.get h1) h2 (hΓ.get h3) h5 (show i < l.length by omega), N2]
    rfl
   ·refine .rp (o := o' + i.toNat * te.size) (off := 0) (cs := (cs.drop (i.toNat * n)).take n) q1 q2 (fun k hk => ?_) ?_ .done
    ·simp only [OO, OT] at hk
     rw [h4, Nat.add_assoc, q3 _ (by omega)];simp only [List.getElem?_take, List.getElem?_drop];rw [if_pos (by omega)]
    ·have := (q6.drop (i.toNat * n)).take n
     rwa [GX q4 h6] at this
theorem Gn {Γ : Tys} (hΓ : Γ.ok P) {ty e t n id off len : Nat} {x ix : Operand} {ti te : TI} {xs : List T} {i : Int} (hg : o.guard = none) (hd : o.dst = some t) (ht : t < c.n) (ho : o.op = .indexAddr ty x ix)
  (h1 : A7 Γ ty = some ti) (h2 : ti.kind = .slice e) (h3 : A7 Γ e = some te) (h4 : te.size = n) (hx : opd s.fr x = .sl id off len) (hM : lookM s.M id = some (.L n xs)) (hix : opd s.fr ix = .t (.int i))
  (h5 : 0 ≤ i) (h6 : i < len)
  (k : WO P c ops rest ⟨(t, .ref id (off + i.toNat) 0) :: s.fr, s.M⟩ Q) : WO P c ops (o :: rest) s Q := by
 refine BC hg hd ht (.ref id (off + i.toNat) 0) (fun a w F β fb mb ow hi => ?_) k
 obtain ⟨bs, hr, _⟩ := hi.opd x
 obtain ⟨bs', hr', _⟩ := hi.opd ix
 rw [hx] at hr;rw [hix] at hr'
 have e2 := Am hr'
 have hm := hi.mem id
 rw [hM] at hm;generalize hev : a.eval x = xv at hr
 cases hr with
 | slnil q1 _ => omega
 | sl q1 q2 q3 q4 _ =>
  rename_i a' b n' c' k'
  rcases hm with ⟨hb, _⟩ | ⟨b1, cap, arr, e', bs1, hb, _⟩
  ·rw [hb] at q1; cases q1
  ·rw [hb] at q1
   cases q1
   have := q4 (by omega)
   subst this;refine ⟨_, ?_, .ref hb .done⟩;simp only [execOp, ho, hev, e2, N8, CO (hΓ.get h1) h2 (hΓ.get h3) h5 h6, N2, OS, h4]
   simp [Nat.add_mul]
end
end Go.Eng
end
section
/- The abstract machine's rules for memory: variables, slices that the call makes, stores. -/
namespace Go.Eng
open Go.RowKit
/-! ### What is forgotten when an id stands for new memory -/
def D.has (i : Nat) : D → Bool
 | .ref id _ _ => id == i
 | .sl id _ _ => id == i
 | .agg l | .clo _ l | .tup l => hasL i l
 | _ => false
where hasL (i : Nat) : List D → Bool
 | [] => false
 | d :: l => d.has i || hasL i l
def D.kill (i : Nat) (d : D) : D := if d.has i then .top else d
def Blk.kill (i : Nat) : Blk → Blk
 | .L n xs => .L n xs
 | .box cells => .box (cells.map (D.kill i))
 | .pin j b n c => if j = i then .rawV [] [] else .pin j b n c
 | k => k
theorem RelD.other {w : World} {F : Nat → Prop} {β β' : Ag} {i : Nat} (hβ : ∀ id, id ≠ i → β' id = β id) {vs ds bs} (h : RelD w F β vs ds bs) (hh : D.has.hasL i ds = false) : RelD w F β' vs ds bs := by
 induction h with
 | done => exact .done
 | agg h0 _ _ ih1 ih2 => simp only [D.has.hasL, D.has, OK] at hh; exact .agg h0 (ih1 hh.1) (ih2 hh.2)
 | clo _ _ ih1 ih2 => simp only [D.has.hasL, D.has, OK] at hh; exact .clo (ih1 hh.1) (ih2 hh.2)
 | tup _ _ ih1 ih2 => simp only [D.has.hasL, D.has, OK] at hh; exact .tup (ih1 hh.1) (ih2 hh.2)
 | t h1 _ ih => simp only [D.has.hasL, OK] at hh; exact .t h1 (ih hh.2)
 | tagg h1 _ ih => simp only [D.has.hasL, OK] at hh; exact .tagg h1 (ih hh.2)
 | nil _ ih => simp only [D.has.hasL, OK] at hh; exact .nil (ih hh.2)
 | ref h1 _ ih => simp only [D.has.hasL, D.has, OK, beq_eq_false_iff_ne] at hh; exact .ref ((hβ _ hh.1).trans h1) (ih hh.2)
 | sl h1 h2 h3 h4 _ ih => simp only [D.has.hasL, D.has, OK, beq_eq_false_iff_ne] at hh; exact .sl ((hβ _ hh.1).trans h1) h2 h3 h4 (ih hh.2)
 | slnil h1 _ ih => simp only [D.has.hasL, D.has, OK, beq_eq_false_iff_ne] at hh; exact .slnil ((hβ _ hh.1).trans h1) (ih hh.2)
 | rp h1 h2 h3 h4 _ ih => simp only [D.has.hasL, OK] at hh; exact .rp h1 h2 h3 h4 (ih hh.2)
 | own h1 _ ih => simp only [D.has.hasL, OK] at hh; exact .own h1 (ih hh.2)
 | top _ ih => simp only [D.has.hasL, OK] at hh; exact .top (ih hh.2)
theorem RelD.kill1 {w : World} {F : Nat → Prop} {β β' : Ag} {i : Nat} (hβ : ∀ id, id ≠ i → β' id = β id) {v d bs} (h : RelD w F β [v] [d] bs) :
  ∃ bs', List.Sublist bs' bs ∧ RelD w F β' [v] [d.kill i] bs' := by
 unfold D.kill
 cases hh : d.has i with
 | true => exact ⟨[], by simp, .top .done⟩
 | false => exact ⟨bs, by simp, by simpa using h.other hβ (by simp [D.has.hasL, hh])⟩
theorem RelD.killL {w : World} {F : Nat → Prop} {β β' : Ag} {i : Nat} (hβ : ∀ id, id ≠ i → β' id = β id) : ∀ {vs ds bs}, RelD w F β vs ds bs →
  ∃ bs', List.Sublist bs' bs ∧ RelD w F β' vs (ds.map (D.kill i)) bs'
 | [], [], _, h => by cases h; exact ⟨[], by simp, .done⟩
 | [], _ :: _, _, h => by cases h
 | _ :: _, [], _, h => by cases h
 | _ :: _, _ :: _, _, h => by
  obtain ⟨b1, b2, h1, h2, rfl⟩ := h.cons
  obtain ⟨b1', s1, r1⟩ := h1.kill1 hβ
  obtain ⟨b2', s2, r2⟩ := RelD.killL hβ h2
  exact ⟨b1' ++ b2', s1.append s2, RelD.cons' r1 r2⟩
section
variable {P : Program} {c : Ctx} {s : St} {Q : Exit → St → Prop} {ops : Array Oper} {rest : List Oper} {o : Oper}
structure Anew (i : Nat) (β β' : Ag) (kl : D → D) (kb : Blk → Blk) : Prop where
 one : ∀ {w F v d bs}, RelD w F β [v] [d] bs → ∃ bs', List.Sublist bs' bs ∧ RelD w F β' [v] [kl d] bs'
 blk : ∀ {w F id k bs}, id ≠ i → RelB w F β id k bs → ∃ bs', List.Sublist bs' bs ∧ RelB w F β' id (kb k) bs'
theorem Anew.same (i : Nat) (β : Ag) : Anew i β β (fun d => d) (fun k => k) := ⟨fun h => ⟨_, by simp, h⟩, fun _ h => ⟨_, by simp, h⟩⟩
theorem Anew.kill {i : Nat} {β β' : Ag} (hβ : ∀ id, id ≠ i → β' id = β id) : Anew i β β' (D.kill i) (Blk.kill i) where
 one h := h.kill1 hβ
 blk {w F id k bs} hid h := by
  cases k with
  | L n xs =>
   refine ⟨bs, by simp, ?_⟩
   rcases h with ⟨h1, h2⟩ | ⟨b, cap, arr, e, bs', h1, h2⟩
   ·exact .inl ⟨(hβ _ hid).trans h1, h2⟩
   ·exact .inr ⟨b, cap, arr, e, bs', (hβ _ hid).trans h1, h2⟩
  | box cells =>
   obtain ⟨b, arr, e, bs', h1, h2, h3, h4, rfl⟩ := h
   obtain ⟨bs'', hs, h5⟩ := h3.killL hβ
   exact ⟨b :: bs'', by simpa using hs, b, arr, e, bs'', by simpa using (hβ _ hid).trans h1, h2, h5, h4, rfl⟩
  | raw b sz vs ts => exact ⟨bs, by simp, h⟩
  | rawV vs ts => exact ⟨bs, by simp, h⟩
  | ro vs ts => exact ⟨bs, by simp, h⟩
  | pin j b n c =>
   refine ⟨bs, by simp, ?_⟩;simp only [Blk.kill];split
   ·obtain ⟨_, rfl⟩ := h; exact OwnL.nil
   ·rename_i hj; exact ⟨(hβ _ hj).trans h.1, h.2⟩
  | obox pv cells => exact ⟨bs, by simp, h⟩
  | bld T e b l => exact ⟨bs, by simp, h⟩
  | row b cap n xs => exact ⟨bs, by simp, h⟩
theorem RelB.mono {w w' : World} {F : Nat → Prop} {β : Ag} {id : Nat} {k : Blk} {bs : List Nat} (h : RelB w F β id k bs) (hF : ∀ b, F b → w'.heap[b]? = w.heap[b]?) (hb : ∀ b, b ∈ bs → w'.heap[b]? = w.heap[b]?) : RelB w' F β id k bs := by
 cases k with
 | L n xs =>
  rcases h with h | ⟨b, cap, arr, e, bs', h1, h2, h3, h4, h5, h6, h7, rfl⟩
  ·exact .inl h
  ·exact .inr ⟨b, cap, arr, e, bs', h1, (hb _ (by simp)).trans h2, h3, h4, h5, h6, h7.mono fun b h => hb b (by simp [h]), rfl⟩
 | box cells =>
  obtain ⟨b, arr, e, bs', h1, h2, h3, h4, rfl⟩ := h
  exact ⟨b, arr, e, bs', h1, (hb _ (by simp)).trans h2, h3.mono (fun _ h => h) hF (fun b h => hb b (by simp [h])) fun _ => rfl, h4, rfl⟩
 | raw b sz vs ts =>
  obtain ⟨arr, e, bs', h1, h2, h3, h4, rfl⟩ := h
  exact ⟨arr, e, bs', (hb _ (by simp)).trans h1, h2, h3, h4.mono fun b h => hb b (by simp [h]), rfl⟩
 | rawV vs ts => exact OwnL.mono h hb
 | ro vs ts => exact ⟨h.1.mono (fun _ h => h) hF, h.2⟩
 | pin j b n c => exact h
 | obox pv cells =>
  rcases h with h | ⟨b, arr, e, bs', h1, h2, h3, h4, rfl⟩
  ·exact .inl h
  ·exact .inr ⟨b, arr, e, bs', h1, (hb _ (by simp)).trans h2, h3.mono (fun _ h => h) hF (fun b h => hb b (by simp [h])) fun _ => rfl, h4, rfl⟩
 | bld T e b l =>
  obtain ⟨p, v, row, h1, h2, h3, rfl⟩ := h
  refine ⟨p, v, row, (hb _ (by simp)).trans h1, h2, ?_, rfl⟩
  rcases h3 with h3 | ⟨g, cap, cur, q1, q2, q3, q4, q5, q6, rfl⟩
  ·exact .inl h3
  ·exact .inr ⟨g, cap, cur, q1, (hb _ (by simp)).trans q2, q3, q4, q5, q6, rfl⟩
 | row b cap n xs =>
  obtain ⟨arr, e, bs', h2, h3, h4, h5, h6, h7, rfl⟩ := h
  exact ⟨arr, e, bs', (hb _ (by simp)).trans h2, h3, h4, h5, h6, h7.mono fun b h => hb b (by simp [h]), rfl⟩
theorem Conc.renew {a : Act} {w : World} {F β fb mb ow} (hi : Conc c s a w F β fb mb ow) {s' : St} {a' : Act} {w' : World} {β' : Ag} {kl : D → D} {kb : Blk → Blk} (i : Nat) (hnew : Anew i β β' kl kb)
  (src : Nat ⊕ Nat → Prop) (bs : List Nat) (blk : Blk) (dst : Option (Nat × Value × D))
  (ha : a' = (match dst with | some (t, v, _) => a.put (some t) v | none => a)) (hdst : ∀ t v d, dst = some (t, v, d) → t < c.n ∧ RelD w' F β' [v] [d] [] ∧ look s'.fr t = d)
  (hos : w'.os = w.os) (htape : w'.tape = w.tape) (hout : w'.output = w.output) (hsize : w.heap.size ≤ w'.heap.size)
  (hheap : ∀ b, b < w.heap.size → (∀ x, ow b = some x → ¬ src x ∧ x ≠ .inr i) → w'.heap[b]? = w.heap[b]?)
  (hfr : ∀ u, (∀ t v d, dst = some (t, v, d) → u ≠ t) → (look s'.fr u = kl (look s.fr u) ∧ ¬ src (.inl u)) ∨ look s'.fr u = .top)
  (hMi : lookM s'.M i = some blk) (hblk : RelB w' F β' i blk bs) (hbs : bs.Nodup)
  (hbo : ∀ b, b ∈ bs → (w.heap.size ≤ b ∧ b < w'.heap.size) ∨ ∃ x, ow b = some x ∧ (src x ∨ x = .inr i))
  (hM : ∀ id, id ≠ i → lookM s'.M id = none ∨ (¬ src (.inr id) ∧ lookM s'.M id = (lookM s.M id).map kb)) : Is c s' a' w' := by
 classical
 have hFb : ∀ b, F b → w'.heap[b]? = w.heap[b]? := fun b hb => hheap b (hi.fin b hb) fun x hx => absurd hb (hi.own b (by simp [hx])).1
 -- a temporary's, a block's relation in the new world
 have one : ∀ {v d bs}, RelD w F β [v] [d] bs → (∀ b, b ∈ bs → w'.heap[b]? = w.heap[b]?) → ∃ bs', List.Sublist bs' bs ∧ RelD w' F β' [v] [kl d] bs' := fun h hb => by
  obtain ⟨bs', hs, h'⟩ := hnew.one h
  exact ⟨bs', hs, h'.mono (fun _ h => h) hFb (fun b hb' => hb b (hs.subset hb')) fun _ => rfl⟩
 have keepFr : ∀ u, ¬ src (.inl u) → ∀ b, b ∈ fb u → w'.heap[b]? = w.heap[b]? := fun u hu b hb => by
  have := hi.ofr u b hb
  exact hheap b (hi.own b (by simp [this])).2.1 fun x hx => by rw [this] at hx; cases hx; exact ⟨hu, by simp⟩
 have keepM : ∀ id, id ≠ i → ¬ src (.inr id) → ∀ b, b ∈ mb id → w'.heap[b]? = w.heap[b]? := fun id hid hu b hb => by
  have := hi.omem id b hb
  exact hheap b (hi.own b (by simp [this])).2.1 fun x hx => by rw [this] at hx; cases hx; exact ⟨hu, by simpa using hid⟩
 have frE : ∀ u, ∃ l, List.Sublist l (fb u) ∧ (l ≠ [] → ¬ src (.inl u)) ∧ RelD w' F β' [a'.tmps.getD u undef] [look s'.fr u] l := fun u => by
  by_cases hu : ∃ t v d, dst = some (t, v, d) ∧ u = t
  ·obtain ⟨t, v, d, hd, rfl⟩ := hu
   obtain ⟨h1, h2, h3⟩ := hdst _ _ _ hd
   refine ⟨[], by simp, by simp, ?_⟩;rw [ha, hd];dsimp only;rw [Bs _ _ _ _ (by rw [hi.tmps]; exact h1), if_pos rfl, h3];exact h2
  ·have hu' : ∀ t v d, dst = some (t, v, d) → u ≠ t := fun t v d h e => hu ⟨t, v, d, h, e⟩
   have hval : a'.tmps.getD u undef = a.tmps.getD u undef := by
    rw [ha]
    cases dst with
    | none => rfl
    | some x =>
     obtain ⟨t, v, d⟩ := x
     dsimp only;rw [Bs _ _ _ _ (by rw [hi.tmps]; exact (hdst _ _ _ rfl).1), if_neg (fun e => hu' _ _ _ rfl e.symm)]
   rw [hval]
   rcases hfr u hu' with ⟨h1, h2⟩ | h1
   ·obtain ⟨l, hs, hr⟩ := one (hi.fr u) (keepFr u h2)
    exact ⟨l, hs, fun _ => h2, by rw [h1]; exact hr⟩
   ·exact ⟨[], by simp, by simp, by rw [h1]; exact .top .done⟩
 have mE : ∀ id, ∃ l, (id = i → l = bs) ∧ (id ≠ i → List.Sublist l (mb id) ∧ (l ≠ [] → ¬ src (.inr id))) ∧ (match lookM s'.M id with | some k => RelB w' F β' id k l | none => l = []) := fun id => by
  by_cases hid : id = i
  ·subst hid
   exact ⟨bs, fun _ => rfl, fun h => absurd rfl h, by rw [hMi]; exact hblk⟩
  ·rcases hM id hid with h1 | ⟨h1, h2⟩
   ·exact ⟨[], fun h => absurd h hid, fun _ => ⟨by simp, by simp⟩, by rw [h1]⟩
   ·have hm := hi.mem id
    rw [h2]
    cases hk : lookM s.M id with
    | none => exact ⟨[], fun h => absurd h hid, fun _ => ⟨by simp, by simp⟩, rfl⟩
    | some k =>
     rw [hk] at hm
     obtain ⟨l, hs, hr⟩ := hnew.blk hid hm
     exact ⟨l, fun h => absurd h hid, fun _ => ⟨hs, fun _ => h1⟩, hr.mono hFb fun b hb => keepM id hid h1 b (hs.subset hb)⟩
 refine ⟨F, β', fun u => (frE u).choose, fun id => (mE id).choose, fun b => if b ∈ bs then some (.inr i) else ow b, ?_⟩
 have frP := fun u => (frE u).choose_spec
 have mP := fun id => (mE id).choose_spec
 -- a block of what stays is none of the new memory's
 have apart : ∀ b x, ow b = some x → ¬ src x → x ≠ .inr i → b ∉ bs := fun b x hx h1 h2 hb => by
  rcases hbo b hb with h | ⟨y, hy, h3⟩
  ·have := (hi.own b (by simp [hx])).2.1; omega
  ·rw [hx] at hy; cases hy; exact h3.elim h1 h2
 refine { hi with fr := fun u => (frP u).2.2, mem := fun id => (mP id).2.2, ofr := fun u b hb => ?_, omem := fun id b hb => ?_, nfr := fun u => ?_, nmem := fun id => ?_, own := fun b hb => ?_, fin := fun b hb => Od (hi.fin b hb) hsize, os := hos.trans hi.os, tape := htape.trans hi.tape, output := hout.trans hi.output, size := Nat.le_trans hi.size hsize, keep := fun b hb hg => ?_, defers := ?_, tmps := ?_ }
 ·have h1 := hi.ofr u b ((frP u).1.subset hb)
  have h2 := (frP u).2.1 (by intro e; rw [e] at hb; cases hb)
  rw [if_neg (apart b _ h1 h2 (by simp))];exact h1
 ·by_cases hid : id = i
  ·subst hid
   rw [(mP id).1 rfl] at hb;rw [if_pos hb]
  ·obtain ⟨h1, h2⟩ := (mP id).2.1 hid
   have h3 := hi.omem id b (h1.subset hb)
   rw [if_neg (apart b _ h3 (h2 (by intro e; rw [e] at hb; cases hb)) (by simpa using hid))];exact h3
 ·exact (hi.nfr u).sublist (frP u).1
 ·by_cases hid : id = i
  ·subst hid; rw [(mP id).1 rfl]; exact hbs
  ·exact (hi.nmem id).sublist ((mP id).2.1 hid).1
 ·by_cases hbb : b ∈ bs
  ·rcases hbo b hbb with ⟨h1, h2⟩ | ⟨x, hx, _⟩
   ·exact ⟨fun hf => by have := hi.fin b hf; omega, h2, .inl (Nat.le_trans hi.size h1)⟩
   ·obtain ⟨h1, h2, h3⟩ := hi.own b (by simp [hx])
    exact ⟨h1, Od h2 hsize, h3⟩
  ·rw [if_neg hbb] at hb
   obtain ⟨h1, h2, h3⟩ := hi.own b hb
   exact ⟨h1, Od h2 hsize, h3⟩
 ·rw [← hi.keep b hb hg]
  refine hheap b (Od hb hi.size) fun x hx => ?_
  have := (hi.own b (by simp [hx])).2.2
  rcases this with h | h
  ·omega
  ·exact absurd h hg
 ·rw [ha]; split
  ·rw [BT]; exact hi.defers
  ·exact hi.defers
 ·rw [ha]; split
  ·rw [B4]; exact hi.tmps
  ·exact hi.tmps
def killF (i : Nat) (fr : List (Nat × D)) : List (Nat × D) := fr.map fun p => (p.1, p.2.kill i)
def killM (i : Nat) (M : List (Nat × Blk)) : List (Nat × Blk) := M.map fun p => (p.1, p.2.kill i)
theorem BS (i u : Nat) : ∀ fr : List (Nat × D), look (killF i fr) u = (look fr u).kill i
 | [] => rfl
 | (k, d) :: l => by
  simp only [killF, OV, look];split
  ·rfl
  ·exact BS i u l
theorem BR (i u : Nat) : ∀ M : List (Nat × Blk), lookM (killM i M) u = (lookM M u).map (Blk.kill i)
 | [] => rfl
 | (k, d) :: l => by
  simp only [killM, OV, lookM];split
  ·rfl
  ·exact BR i u l
def eat (x : Operand) (d : D) (fr : List (Nat × D)) : List (Nat × D) :=
 if d.free then fr else match x with
 | .tmp u => (u, .top) :: fr
 | _ => fr
def Mp (x : Operand) (d : D) (y : Nat ⊕ Nat) : Prop := d.free = false ∧ ∃ u, x = .tmp u ∧ y = .inl u
theorem look_eat (x : Operand) (d : D) (fr : List (Nat × D)) (u : Nat) : (look (eat x d fr) u = look fr u ∧ ¬ Mp x d (.inl u)) ∨ look (eat x d fr) u = .top := by
 unfold eat Mp
 cases hd : d.free with
 | true => exact .inl ⟨by simp, by simp⟩
 | false =>
  cases x with
  | tmp v =>
   simp only [Bool.false_eq_true, if_false, look];split
   ·exact .inr rfl
   ·rename_i h
    exact .inl ⟨rfl, by rintro ⟨_, w, h1, h2⟩; cases h1; cases h2; exact h rfl⟩
  | _ => exact .inl ⟨by simp, by simp⟩
theorem relL_one' {w : World} {F : Nat → Prop} : ∀ {vs ts}, RelL w F vs ts → vs.all (·.oneCell') = true
 | _, _, .nil => rfl
 | _, _, .v h1 h2 => by rw [OP, h1, relL_one' h2]; rfl
 | _, _, .none h => by rw [OP, relL_one' h]; rfl
 | _, _, .list _ _ _ _ _ _ h => by rw [OP, relL_one' h]; rfl
 | _, _, .sub h1 h => by have e := relL_one' h1; rw [OP, relL_one' h]; simpa using e
def D.one : D → Bool
 | .t (.agg _) => false
 | .t _ | .nil | .ref _ _ _ | .sl _ _ _ | .rp _ _ | .clo _ _ => true
 | .own (.agg _) => false
 | .own _ => true
 | _ => false
theorem RelD.one {w : World} {F : Nat → Prop} {β : Ag} {v d bs} (h : RelD w F β [v] [d] bs) (hd : d.one = true) : v.oneCell' = true ∧ v.cells = #[v] := by
 have key : v.oneCell' = true → v.oneCell' = true ∧ v.cells = #[v] := fun h => ⟨h, by cases v <;> first | rfl | (simp [Value.oneCell'] at h)⟩
 refine key ?_
 cases h with
 | t h1 _ => have := relL_one' h1; simpa using this
 | tagg => simp [D.one] at hd
 | agg => simp [D.one] at hd
 | tup => simp [D.one] at hd
 | top => simp [D.one] at hd
 | own h1 _ =>
  cases h1 with
  | v h _ => exact h
  | none _ => rfl
  | list _ _ _ _ _ _ _ _ => rfl
  | sub _ _ _ _ _ _ _ _ _ => rfl
 | _ => rfl
def boxD : D → Option (List D)
 | .agg l => some l
 | .t (.agg l) => some (l.map .t)
 | d => if d.one then some [d] else none
theorem relD_ts {w : World} {F : Nat → Prop} {β : Ag} : ∀ {vs ts}, RelL w F vs ts → RelD w F β vs (ts.map D.t) []
 | [], [], _ => .done
 | [], _ :: _, h => by cases h
 | _ :: _, [], h => by cases h
 | _ :: _, _ :: _, h => .t h.cons.1 (relD_ts h.cons.2)
theorem RelD.boxD {w : World} {F : Nat → Prop} {β : Ag} {v d bs ds} (h : RelD w F β [v] [d] bs) (hd : boxD d = some ds) : RelD w F β v.cells.toList ds bs ∧ v.cells.toList.all (·.oneCell') = true := by
 unfold Eng.boxD at hd;split at hd
 ·cases hd
  cases h with
  | agg h0 h1 h2 => cases h2; exact ⟨by simpa [Value.cells] using h1, h0⟩
 ·cases hd
  cases h with
  | t h1 _ => cases h1
  | tagg h1 h2 => cases h2; exact ⟨relD_ts h1, relL_one' h1⟩
 ·split at hd
  ·rename_i hone
   cases hd
   obtain ⟨h1, h2⟩ := h.one hone
   rw [h2];exact ⟨h, by simpa using h1⟩
  ·cases hd
theorem Conc.opdOwn {a : Act} {w : World} {F β fb mb ow} (h : Conc c s a w F β fb mb ow) (x : Operand) :
  ∃ bs, RelD w F β [a.eval x] [Eng.opd s.fr x] bs ∧ bs.Nodup ∧ ∀ b, b ∈ bs → ∃ y, ow b = some y ∧ Mp x (Eng.opd s.fr x) y := by
 obtain ⟨bs, hr, h1⟩ := h.opd x
 refine ⟨bs, hr, ?_, fun b hb => ?_⟩
 ·rcases h1 with rfl | ⟨t, _, rfl⟩
  ·simp
  ·exact h.nfr t
 ·rcases h1 with rfl | ⟨t, rfl, rfl⟩
  ·cases hb
  ·refine ⟨_, h.ofr t b hb, ?_, t, rfl, rfl⟩
   cases hf : (Eng.opd s.fr (.tmp t)).free with
   | false => rfl
   | true => rw [hr.free1 hf] at hb; cases hb
theorem DB {w : World} (e : TypeId) (v : Value) : (newVar e v).run P w = .ok ⟨w.heap.size, 0, none⟩ (w.alloc (.cells v.cells e)) := rfl
theorem Conc.newbox {a : Act} {w : World} {F β fb mb ow} (hi : Conc c s a w F β fb mb ow) {t : Nat} (ht : t < c.n) (x : Operand) (dx : D) {arr : Array Value} {ds : List D} {bs : List Nat} (e : TypeId)
  (hr : RelD w F β arr.toList ds bs) (hone : arr.toList.all (·.oneCell') = true) (hnd : bs.Nodup) (hbs : ∀ b, b ∈ bs → ∃ y, ow b = some y ∧ Mp x dx y) :
  Is c ⟨(t, .ref t 0 0) :: eat x dx (killF t s.fr), (t, .box (ds.map (D.kill t))) :: killM t s.M⟩ (a.put (some t) (.pointer (some ⟨w.heap.size, 0, none⟩))) (w.alloc (.cells arr e)) := by
 have hβ : ∀ id, id ≠ t → (fun id => if id = t then some (w.heap.size, ds.length, 1) else β id) id = β id := fun id h => by simp [h]
 have hold : ∀ b, b < w.heap.size → (w.alloc (.cells arr e)).heap[b]? = w.heap[b]? := fun b hb => Below.heap_alloc w _ b hb
 obtain ⟨bs', hs, hr'⟩ := hr.killL (i := t) hβ
 have hin : ∀ b, b ∈ bs → b < w.heap.size := fun b hb => by
  obtain ⟨y, hy, _⟩ := hbs b hb
  exact (hi.own b (by simp [hy])).2.1
 refine hi.renew t (Anew.kill hβ) (Mp x dx) (w.heap.size :: bs') (.box (ds.map (D.kill t))) (some (t, .pointer (some ⟨w.heap.size, 0, none⟩), .ref t 0 0)) rfl ?_ rfl rfl rfl (by simp)
  (fun b hb _ => hold b hb) ?_ (by simp [lookM]) ?_ ?_ ?_ ?_
 ·rintro t' v d h
  cases h;refine ⟨ht, ?_, by simp [look]⟩
  have := RelD.ref (w := w.alloc (.cells arr e)) (F := F) (β := fun id => if id = t then some (w.heap.size, ds.length, 1) else β id) (id := t) (i := 0) (off := 0) (b := w.heap.size) (n := ds.length) (c := 1) (by simp) .done
  simpa using this
 ·intro u hu
  have hut := hu _ _ _ rfl
  simp only [look, if_neg (Ne.symm hut)]
  rcases look_eat x dx (killF t s.fr) u with ⟨h1, h2⟩ | h1
  ·exact .inl ⟨by rw [h1, BS], h2⟩
  ·exact .inr h1
 ·refine ⟨w.heap.size, arr, e, bs', by simp, heap_alloc_new w _, ?_, hone, rfl⟩
  exact hr'.mono (fun _ h => h) (fun b hb => hold b (hi.fin b hb)) (fun b hb => hold b (hin b (hs.subset hb))) fun _ => rfl
 ·refine N7.2 ⟨fun h => ?_, hnd.sublist hs⟩
  have := hin _ (hs.subset h)
  omega
 ·intro b hb
  rcases N6.1 hb with rfl | hb
  ·exact .inl ⟨OJ _, by simp⟩
  ·obtain ⟨y, h1, h2⟩ := hbs b (hs.subset hb)
   exact .inr ⟨y, h1, .inl h2⟩
 ·intro id hid
  simp only [lookM, if_neg (Ne.symm hid)];rw [BR];exact .inr ⟨(by rintro ⟨_, u, _, h⟩; cases h), rfl⟩
theorem BD {t e : Nat} {x : Operand} {ds : List D} (hg : o.guard = none) (hd : o.dst = some t) (ht : t < c.n) (ho : o.op = .box e x) (hx : boxD (opd s.fr x) = some ds)
  (k : WO P c ops rest ⟨(t, .ref t 0 0) :: eat x (opd s.fr x) (killF t s.fr), (t, .box (ds.map (D.kill t))) :: killM t s.M⟩ Q) : WO P c ops (o :: rest) s Q := by
 rintro a w ⟨F, β, fb, mb, ow, hi⟩
 obtain ⟨bs, hr, h1, h2⟩ := hi.opdOwn x
 obtain ⟨h3, h4⟩ := hr.boxD hx
 refine wpList_plain hg fun K hK => ?_
 unfold Oper.wp
 have hrun : (execOp a.eval o).run P w = .ok (.value (.pointer (some ⟨w.heap.size, 0, none⟩))) (w.alloc (.cells (a.eval x).cells e)) := by
  simp [execOp, ho, Instr.box, DB]
 rw [hrun, Oper.upon_value, hd];exact hK _ _ (k _ _ (hi.newbox ht x _ e h3 h4 h1 h2))
def Bl (v : Value) : D := match v with
 | .slice none 0 0 => .nil
 | .agg _ => .top
 | .tuple _ => .top
 | v => .t (.v v)
theorem KE {w : World} {F : Nat → Prop} {β : Ag} (v : Value) : RelD w F β [v] [Bl v] [] := by
 unfold Bl;split
 ·exact .nil .done
 ·exact .top .done
 ·exact .top .done
 ·rename_i h1 h2 h3
  refine .t (.v ?_ .nil) .done
  cases v <;> first | rfl | exact (h2 _ rfl).elim | exact (h3 _ rfl).elim
theorem DI {w : World} {F : Nat → Prop} {β : Ag} : ∀ l : List Value, RelD w F β l (l.map Bl) []
 | [] => .done
 | v :: l => RelD.cons' (KE v) (DI l)
theorem AR {Γ : Tys} (hΓ : Γ.ok P) {t e : Nat} {ti : TI} (hg : o.guard = none) (hd : o.dst = some t) (ht : t < c.n) (ho : o.op = .alloc e) (h1 : A7 Γ e = some ti) (h2 : ti.zero.all (·.oneCell') = true)
  (k : WO P c ops rest ⟨(t, .ref t 0 0) :: killF t s.fr, (t, .box (ti.zero.map Bl)) :: killM t s.M⟩ Q) : WO P c ops (o :: rest) s Q := by
 rintro a w ⟨F, β, fb, mb, ow, hi⟩
 obtain ⟨⟨i, z, q1, q2, q3, q4, q5⟩, _⟩ := hΓ.get h1
 refine wpList_plain hg fun K hK => ?_
 unfold Oper.wp
 have hrun : (execOp a.eval o).run P w = .ok (.value (.pointer (some ⟨w.heap.size, 0, none⟩))) (w.alloc (.cells z.cells e)) := by
  simp [execOp, ho, Instr.alloc, zeroValue, typeInfo, q1, q4, DB]
 rw [hrun, Oper.upon_value, hd];refine hK _ _ (k _ _ ?_)
 have := hi.newbox ht (.const .nilIface) (.nil) (arr := z.cells) (ds := ti.zero.map Bl) e (by rw [q5]; exact DI _) (by rw [q5]; exact h2) List.nodup_nil (by simp)
 have hk : (ti.zero.map Bl).map (D.kill t) = ti.zero.map Bl := by
  rw [List.map_map]
  refine List.map_congr_left fun v _ => ?_
  show D.kill t (Bl v) = Bl v;unfold Bl D.kill
  split <;> rfl
 rw [hk] at this
 simpa [eat, D.free] using this
def splice {α : Type} (l : List α) (off : Nat) (ds : List α) : List α := l.take off ++ ds ++ l.drop (off + ds.length)
theorem RelD.append {w : World} {F : Nat → Prop} {β : Ag} : ∀ {vs ds bs vs' ds' bs'}, RelD w F β vs ds bs → RelD w F β vs' ds' bs' → RelD w F β (vs ++ vs') (ds ++ ds') (bs ++ bs')
 | [], [], _, _, _, _, h, k => by cases h; exact k
 | [], _ :: _, _, _, _, _, h, _ => by cases h
 | _ :: _, [], _, _, _, _, h, _ => by cases h
 | _ :: _, _ :: _, _, _, _, _, h, k => by
  obtain ⟨b1, b2, h1, h2, rfl⟩ := h.cons
  rw [OA];exact RelD.cons' h1 (RelD.append h2 k)
theorem RelD.split {w : World} {F : Nat → Prop} {β : Ag} : ∀ {vs ds bs} (k : Nat), RelD w F β vs ds bs → ∃ b1 b2, bs = b1 ++ b2 ∧ RelD w F β (vs.take k) (ds.take k) b1 ∧ RelD w F β (vs.drop k) (ds.drop k) b2
 | _, _, bs, 0, h => ⟨[], bs, rfl, by simpa using RelD.done, h⟩
 | [], [], _, _ + 1, h => by cases h; exact ⟨[], [], rfl, .done, .done⟩
 | [], _ :: _, _, _, h => by cases h
 | _ :: _, [], _, _, h => by cases h
 | _ :: _, _ :: _, _, k + 1, h => by
  obtain ⟨b1, b2, h1, h2, rfl⟩ := h.cons
  obtain ⟨b3, b4, rfl, h3, h4⟩ := RelD.split k h2
  exact ⟨b1 ++ b3, b4, by simp, RelD.cons' h1 h3, h4⟩
theorem RelD.splice {w : World} {F : Nat → Prop} {β : Ag} {vs ds bs vs' ds' bs'} (h : RelD w F β vs ds bs) (h' : RelD w F β vs' ds' bs') (off : Nat) :
  ∃ b1 b3, List.Sublist (b1 ++ b3) bs ∧ RelD w F β (Eng.splice vs off vs') (Eng.splice ds off ds') (b1 ++ bs' ++ b3) := by
 obtain ⟨b1, b2, rfl, h1, h2⟩ := h.split off
 obtain ⟨b3, b4, rfl, _, h4⟩ := h2.split ds'.length
 refine ⟨b1, b4, by simp, (h1.append h').append ?_⟩;rw [h'.length]
 simpa [List.drop_drop] using h4
theorem Cg {b1 b3 bs bs' : List Nat} (hs : List.Sublist (b1 ++ b3) bs) (h : bs.Nodup) (h' : bs'.Nodup) (hd : ∀ b, b ∈ bs → b ∉ bs') : (b1 ++ bs' ++ b3).Nodup := by
 have h1 := h.sublist hs
 rw [N5] at h1
 have hb1 : ∀ x, x ∈ b1 → x ∉ bs' := fun x hx => hd x (hs.subset (by simp [hx]))
 have hb3 : ∀ x, x ∈ b3 → x ∉ bs' := fun x hx => hd x (hs.subset (by simp [hx]))
 rw [N5, N5];refine ⟨⟨h1.1, h', fun a ha b hb e => hb1 a ha (e ▸ hb)⟩, h1.2.1, fun a ha b hb e => ?_⟩
 rcases N3.1 ha with ha | ha
 ·exact h1.2.2 a ha b hb e
 ·exact hb3 b hb (e ▸ ha)
theorem En {ty : Nat} {ti : TI} (ht : ti.ok P ty) {b off : Nat} {arr : Array Value} {e : TypeId} {v : Value} {w : World} (hh : w.heap[b]? = some (.cells arr e (0, 0))) (hl : v.cells.size = ti.size)
  (hone : v.cells.toList.all (·.oneCell') = true) (hle : off + v.cells.size ≤ arr.size) :
  (Instr.storeAt ty (.pointer (some ⟨b, off, none⟩)) v).run P w = .ok () (w.setRow b (splice arr.toList off v.cells.toList).toArray) := by
 have := run_storeCells_at (P := P) b off e v.cells.toList 0 arr w hh (by simpa using hle) (fun v hv => N1.1 hone v hv)
 simp only [Nat.add_zero] at this;simp only [Instr.storeAt, N8, Instr.sureAddr, OS, N2, storeVar, Ae ht, hl, ne_eq, not_true, if_false, Sem.run_ite];exact this
theorem KK {arr vs : List Value} (off : Nat) (h1 : arr.all (·.oneCell') = true) (h2 : vs.all (·.oneCell') = true) : (splice arr off vs).all (·.oneCell') = true := by
 rw [N1] at *;intro x hx;unfold splice at hx
 rcases N3.1 hx with hx | hx
 ·rcases N3.1 hx with hx | hx
  ·exact h1 x (OX hx)
  ·exact h2 x hx
 ·exact h1 x (List.mem_of_mem_drop hx)
theorem CU {α : Type} {l ds : List α} {off : Nat} (h : off + ds.length ≤ l.length) : (splice l off ds).length = l.length := by
 simp [splice]; omega
theorem JX {Γ : Tys} (hΓ : Γ.ok P) {ty id off : Nat} {x y : Operand} {ti : TI} {cells ds : List D} (hg : o.guard = none) (hd : o.dst = none) (ho : o.op = .store ty x y) (h1 : A7 Γ ty = some ti)
  (hx : opd s.fr x = .ref id 0 off) (hM : lookM s.M id = some (.box cells)) (hy : boxD (opd s.fr y) = some ds) (hl : ds.length = ti.size) (hle : off + ds.length ≤ cells.length)
  (k : WO P c ops rest ⟨eat y (opd s.fr y) s.fr, (id, .box (splice cells off ds)) :: s.M⟩ Q) : WO P c ops (o :: rest) s Q := by
 rintro a w ⟨F, β, fb, mb, ow, hi⟩
 obtain ⟨bs, hr, hnd, hbs⟩ := hi.opdOwn y
 obtain ⟨h3, h4⟩ := hr.boxD hy
 obtain ⟨bx, hrx, _⟩ := hi.opd x
 rw [hx] at hrx
 have hm := hi.mem id
 rw [hM] at hm
 obtain ⟨b, arr, e, bs1, hb1, hb2, hb3, hb4, hb5⟩ := hm
 have hmb : b ∈ mb id := by rw [hb5]; simp
 have hob := hi.omem id b hmb
 have hlen := h3.length
 have hlen2 := hb3.length
 simp only [OD] at hlen hlen2;generalize hev : a.eval x = xv at hrx
 cases hrx with
 | ref q1 q2 =>
  rw [hb1] at q1;cases q1
  refine wpList_plain hg fun K hK => ?_
  unfold Oper.wp
  have hrun : (execOp a.eval o).run P w = .ok .skip (w.setRow b (splice arr.toList off (a.eval y).cells.toList).toArray) := by
   have := En (hΓ.get h1) (off := off) hb2 (by rw [hlen, hl]) h4 (by omega)
   simp only [execOp, ho, hev, N8, Nat.zero_mul, Nat.zero_add, this, N2];rfl
  rw [hrun, Oper.upon_skip, hd];refine hK _ _ (k _ _ ?_)
  have hkeep : ∀ b', b' ≠ b → (w.setRow b (splice arr.toList off (a.eval y).cells.toList).toArray).heap[b']? = w.heap[b']? := fun b' h => setRow_other w b b' _ h
  have hbF : ¬ F b := (hi.own b (by simp [hob])).1
  have hF : ∀ b', F b' → (w.setRow b (splice arr.toList off (a.eval y).cells.toList).toArray).heap[b']? = w.heap[b']? := fun b' h => hkeep b' fun e => hbF (e ▸ h)
  obtain ⟨b1, b3, hs, hsp⟩ := hb3.splice h3 off
  have hbnot : ∀ b', b' ∈ bs → b' ≠ b := fun b' h e => by
   subst e
   obtain ⟨z, h5, _, u, _, h6⟩ := hbs _ h
   rw [hob] at h5;cases h5;cases h6
  have hnd1 := hi.nmem id
  rw [hb5] at hnd1
  have hbnot1 : ∀ b', b' ∈ bs1 → b' ≠ b := fun b' h e => by subst e; exact (N7.1 hnd1).1 h
  have hdis : ∀ b', b' ∈ bs1 → b' ∉ bs := fun b' h h' => by
   obtain ⟨z, h5, _, u, _, h6⟩ := hbs _ h'
   have := hi.omem id b' (by rw [hb5]; simp [h])
   rw [this] at h5;cases h5;cases h6
  refine hi.renew id (Anew.same id β) (Mp y (opd s.fr y)) (b :: (b1 ++ bs ++ b3)) (.box (splice cells off ds)) none rfl (by simp) rfl rfl rfl (by simp)
   (fun b' hb' h => hkeep b' fun e => (h _ (e ▸ hob)).2 rfl) ?_ (by simp [lookM]) ?_ ?_ ?_ ?_
  ·intro u _
   rcases look_eat y (opd s.fr y) s.fr u with ⟨h5, h6⟩ | h5
   ·exact .inl ⟨h5, h6⟩
   ·exact .inr h5
  ·refine ⟨b, _, e, _, by rw [CU hle]; exact hb1, setRow_heap w b arr _ e _ hb2, ?_, ?_, rfl⟩
   ·refine (hsp.mono (fun _ h => h) hF (fun b' h => hkeep b' ?_) fun _ => rfl)
    rcases N3.1 h with h | h
    ·rcases N3.1 h with h | h
     ·exact hbnot1 b' (hs.subset (by simp [h]))
     ·exact hbnot b' h
    ·exact hbnot1 b' (hs.subset (by simp [h]))
   ·exact KK off hb4 h4
  ·refine N7.2 ⟨fun h => ?_, Cg hs (N7.1 hnd1).2 hnd hdis⟩
   rcases N3.1 h with h | h
   ·rcases N3.1 h with h | h
    ·exact hbnot1 b (hs.subset (by simp [h])) rfl
    ·exact hbnot b h rfl
   ·exact hbnot1 b (hs.subset (by simp [h])) rfl
  ·intro b' h
   rcases N6.1 h with rfl | h
   ·exact .inr ⟨_, hob, .inr rfl⟩
   ·rcases N3.1 h with h | h
    ·rcases N3.1 h with h | h
     ·exact .inr ⟨_, hi.omem id b' (by rw [hb5]; exact OE _ (hs.subset (by simp [h]))), .inr rfl⟩
     ·obtain ⟨z, h5, h6⟩ := hbs b' h
      exact .inr ⟨z, h5, .inl h6⟩
    ·exact .inr ⟨_, hi.omem id b' (by rw [hb5]; exact OE _ (hs.subset (by simp [h]))), .inr rfl⟩
  ·intro id' hid
   simp only [lookM, if_neg (Ne.symm hid)];refine .inr ⟨(by rintro ⟨_, u, _, h⟩; cases h), ?_⟩
   cases lookM s.M id' <;> rfl
end
end Go.Eng
end
section
/- The abstract machine's rules for slices that the call makes. -/
namespace Go.Eng
open Go.RowKit
theorem OwnL.length {w : World} {vs ts bs} (h : OwnL w vs ts bs) : vs.length = ts.length := by
 induction h <;> simp_all
theorem OwnL.cons {w : World} {x vs t ts bs} (h : OwnL w (x :: vs) (t :: ts) bs) : ∃ b1 b2, OwnL w [x] [t] b1 ∧ OwnL w vs ts b2 ∧ bs = b1 ++ b2 := by
 cases h with
 | v h1 h2 => exact ⟨[], _, .v h1 .nil, h2, rfl⟩
 | none h => exact ⟨[], _, .none .nil, h, rfl⟩
 | list h1 h2 h3 h4 h5 h6 h7 h8 => exact ⟨_ :: _ ++ [], _, .list h1 h2 h3 h4 h5 h6 h7 .nil, h8, by simp⟩
 | sub h1 h2 h3 h4 h5 h6 h7 h8 h9 => exact ⟨[_], _, .sub h1 h2 h3 h4 h5 h6 h7 h8 .nil, h9, rfl⟩
theorem OwnL.cons' {w : World} {x vs t ts b1 b2} (h : OwnL w [x] [t] b1) (k : OwnL w vs ts b2) : OwnL w (x :: vs) (t :: ts) (b1 ++ b2) := by
 cases h with
 | v h1 h2 => cases h2; exact .v h1 k
 | none h => cases h; exact .none k
 | list h1 h2 h3 h4 h5 h6 h7 h8 => cases h8; simpa using OwnL.list h1 h2 h3 h4 h5 h6 h7 k
 | sub h1 h2 h3 h4 h5 h6 h7 h8 h9 => cases h9; exact .sub h1 h2 h3 h4 h5 h6 h7 h8 k
theorem OwnL.append {w : World} : ∀ {vs ts bs vs' ts' bs'}, OwnL w vs ts bs → OwnL w vs' ts' bs' → OwnL w (vs ++ vs') (ts ++ ts') (bs ++ bs')
 | [], [], _, _, _, _, h, k => by cases h; exact k
 | [], _ :: _, _, _, _, _, h, _ => by cases h
 | _ :: _, [], _, _, _, _, h, _ => by cases h
 | _ :: _, _ :: _, _, _, _, _, h, k => by
  obtain ⟨b1, b2, h1, h2, rfl⟩ := h.cons
  rw [OA];exact OwnL.cons' h1 (OwnL.append h2 k)
theorem OwnL.split {w : World} : ∀ {vs ts bs} (k : Nat), OwnL w vs ts bs → ∃ b1 b2, bs = b1 ++ b2 ∧ OwnL w (vs.take k) (ts.take k) b1 ∧ OwnL w (vs.drop k) (ts.drop k) b2
 | _, _, bs, 0, h => ⟨[], bs, rfl, by simpa using OwnL.nil, h⟩
 | [], [], _, _ + 1, h => by cases h; exact ⟨[], [], rfl, .nil, .nil⟩
 | [], _ :: _, _, _, h => by cases h
 | _ :: _, [], _, _, h => by cases h
 | _ :: _, _ :: _, _, k + 1, h => by
  obtain ⟨b1, b2, h1, h2, rfl⟩ := h.cons
  obtain ⟨b3, b4, rfl, h3, h4⟩ := OwnL.split k h2
  exact ⟨b1 ++ b3, b4, by simp, OwnL.cons' h1 h3, h4⟩
theorem OwnL.one {w : World} : ∀ {vs ts bs}, OwnL w vs ts bs → vs.all (·.oneCell') = true
 | _, _, _, .nil => rfl
 | _, _, _, .v h1 h2 => by rw [OP, h1, h2.one]; rfl
 | _, _, _, .none h => by rw [OP, h.one]; rfl
 | _, _, _, .list _ _ _ _ _ _ _ h => by rw [OP, h.one]; rfl
 | _, _, _, .sub _ _ _ _ _ _ _ _ h => by rw [OP, h.one]; rfl
def scal : T → D
 | .v x => .t (.v x)
 | _ => .top
theorem OwnL.scals {w : World} {F : Nat → Prop} {β : Ag} : ∀ {vs ts bs}, OwnL w vs ts bs → RelD w F β vs (ts.map scal) []
 | _, _, _, .nil => .done
 | _, _, _, .v h1 h2 => .t (.v h1 .nil) h2.scals
 | _, _, _, .none h => .top h.scals
 | _, _, _, .list _ _ _ _ _ _ _ h => .top h.scals
 | _, _, _, .sub _ _ _ _ _ _ _ _ h => .top h.scals
theorem GV : ∀ us : List Value, (us.map T.v).flatMap T.cells = us.map T.v
 | [] => rfl
 | a :: l => by rw [OV, OM, GV l]; rfl
theorem OwnL.rel {w : World} {F : Nat → Prop} {vs ts bs} (h : OwnL w vs ts bs) (hF : ∀ b, b ∈ bs → F b) : RelL w F vs ts := by
 induction h with
 | nil => exact .nil
 | v h1 _ ih => exact .v h1 (ih hF)
 | none _ ih => exact .none (ih hF)
 | list h1 h2 h3 h4 h5 h6 _ _ ih1 ih2 =>
  rename_i b cap n cs xs arr e vs ts bs bs' _ _
  refine .list (o := 0) (hF _ (by simp)) h1 (fun k hk => ?_) h4 h5 (ih1 fun b hb => hF b (by simp [hb])) (ih2 fun b hb => hF b (by simp [hb]));subst h3;rw [OO] at hk;rw [List.getElem?_take, if_pos (by omega)]
  simp
 | sub h1 h2 h3 h4 h5 h6 _ h8 _ ih =>
  rename_i b cap arr e a pre us xs vs ts bs _ _
  subst h4;rw [List.all_append, Nv] at h5
  have h9 : ∀ j, j < us.length → arr[pre.length + j]? = us[j]? := fun j hj => by
   have e1 : (arr.toList.take (pre.length + us.length))[pre.length + j]? = arr[pre.length + j]? := by rw [List.getElem?_take, if_pos (by omega), Array.getElem?_toList]
   rw [← e1, h3, List.getElem?_append_right (by omega), Nat.add_sub_cancel_left]
  have hv : ∀ {l : List Value}, l.all (·.oneCell') = true → RelL w F l (l.map T.v) := fun {l} => by
   induction l with
   | nil => exact fun _ => .nil
   | cons a l ih => intro h; simp only [OP, Nv] at h; exact .v h.1 (ih h.2)
  by_cases hc : cap = 0
  ·subst hc
   have hu : us = [] := OL (by simpa using h6)
   subst hu;exact .sub (.none .nil) (ih fun b hb => hF b (by simp [hb]))
  rw [h8 hc];exact .sub (.list (o := pre.length) (n := 1) (cs := us) (hF _ (by simp)) h1 h9 (fun x hx => by obtain ⟨y, _, rfl⟩ := List.mem_map.1 hx; rfl) h6 (by rw [GV]; exact hv h5.2) .nil) (ih fun b hb => hF b (by simp [hb]))
def AbsD : D → T → Prop
 | .t (.v x), .v y => x = y
 | .own a, b => a = b
 | .nil, .list _ l => l = []
 | _, _ => False
def AbsL : List D → List T → Prop
 | [], [] => True
 | d :: ds, t :: ts => AbsD d t ∧ AbsL ds ts
 | _, _ => False
theorem absD {w : World} {F : Nat → Prop} {β : Ag} {x d bs t} (h : RelD w F β [x] [d] bs) (ha : AbsD d t) : OwnL w [x] [t] bs := by
 unfold AbsD at ha;split at ha
 ·subst ha
  cases h with
  | t h1 h2 => cases h2; cases h1 with | v h3 h4 => exact .v h3 .nil
 ·subst ha
  cases h with
  | own h1 h2 => cases h2; simpa using h1
 ·subst ha
  cases h with
  | nil h => cases h; exact .none .nil
 ·exact ha.elim
theorem absL {w : World} {F : Nat → Prop} {β : Ag} : ∀ {vs ds bs ts}, RelD w F β vs ds bs → AbsL ds ts → OwnL w vs ts bs
 | [], [], _, [], h, _ => by cases h; exact .nil
 | [], [], _, _ :: _, _, h => h.elim
 | [], _ :: _, _, _, h, _ => by cases h
 | _ :: _, [], _, _, h, _ => by cases h
 | _ :: _, _ :: _, _, [], _, h => h.elim
 | _ :: _, _ :: _, _, _ :: _, h, ha => by
  obtain ⟨b1, b2, h1, h2, rfl⟩ := h.cons
  exact OwnL.cons' (absD h1 ha.1) (absL h2 ha.2)
section
variable {P : Program} {c : Ctx} {s : St} {Q : Exit → St → Prop} {ops : Array Oper} {rest : List Oper} {o : Oper}
theorem CY {Γ : Tys} (hΓ : Γ.ok P) {ty t id i off n : Nat} {x : Operand} {ti : TI} {xs : List T} {y : T} {d : D} (hg : o.guard = none) (hd : o.dst = some t) (ht : t < c.n) (ho : o.op = .load ty x)
  (h1 : A7 Γ ty = some ti) (hx : opd s.fr x = .ref id i off) (hM : lookM s.M id = some (.L n xs)) (hy : xs[i]? = some y) (hp : Kg ti.kind ti.size (y.cells.map scal) off = some d)
  (k : WO P c ops rest ⟨(t, d) :: s.fr, s.M⟩ Q) : WO P c ops (o :: rest) s Q := by
 refine BC hg hd ht d (fun a w F β fb mb ow hi => ?_) k
 obtain ⟨bx, hrx, _⟩ := hi.opd x
 rw [hx] at hrx
 have hm := hi.mem id
 rw [hM] at hm
 have hlt := (List.getElem?_eq_some_iff.1 hy).1
 rcases hm with ⟨_, hn, _⟩ | ⟨b, cap, arr, e, bs', q1, q2, q3, q4, q5, q6, q7, _⟩
 ·subst hn; simp at hlt
 generalize hev : a.eval x = xv at hrx
 cases hrx with
 | ref r1 r2 =>
  rw [q1] at r1;cases r1
  have hfl := GX q4 hy
  obtain ⟨c1, c2, _, _, hd1⟩ := q7.split (i * n)
  obtain ⟨c3, c4, _, hd2, _⟩ := hd1.split n
  rw [hfl] at hd2
  have hsz : (y.cells).length = n := q4 y (List.mem_of_getElem? hy)
  have hmul : i * n + n ≤ xs.length * n := by rw [← Nat.succ_mul]; exact Nat.mul_le_mul_right n hlt
  obtain ⟨v, h6, h7⟩ := DU (β := β) (F := F) (o := i * n) (off := off) (hΓ.get h1) q2 (cs := ((arr.toList.take (xs.length * n)).drop (i * n)).take n) (fun k hk => by
   simp only [OO, OT] at hk;simp only [List.getElem?_take, List.getElem?_drop];rw [if_pos (by omega), if_pos (by omega)]
   simp) hd2.one hd2.scals hp
  refine ⟨v, ?_, h7⟩
  simp [execOp, ho, hev, h6]
end
end Go.Eng
end
section
/- The abstract machine's rules for slices that are made and grow. -/
namespace Go.Eng
open Go.RowKit
/-! ### Plain facts on lists of cells -/
theorem Hz {α : Type} (l : List α) (k : Nat) (x : α) (xs : List α) (h : k < l.length) : splice (l.set k x) (k + 1) xs = splice l k (x :: xs) := by
 unfold splice;rw [List.take_add_one, List.getElem?_set_self h, List.take_set_of_le (OJ k), List.drop_set_of_lt (by omega)];simp only [Option.toList_some, OA, List.singleton_append, Nx];rw [show k + 1 + xs.length = k + (xs.length + 1) from by omega]
theorem JH (off : Nat) : ∀ (vs : List Value) (k : Nat) (arr : Array Value), off + k + vs.length ≤ arr.size →
  ((vs.zipIdx k).foldl (fun (cs : Array Value) (x : Value × Nat) => cs.setIfInBounds (off + x.2) x.1) arr).toList = splice arr.toList (off + k) vs
 | [], k, arr, _ => by simp [splice]
 | x :: vs, k, arr, h => by
  simp only [Nx] at h;rw [List.zipIdx_cons, List.foldl_cons, JH off vs (k + 1) _ (by simp; omega)];simp only [Array.toList_setIfInBounds];rw [show off + (k + 1) = off + k + 1 from by omega, Hz _ _ _ _ (by simp; omega)]
theorem GY (n : Nat) : ∀ (vs : List Value) (i : Nat) (done rem : List Value), done.length = i * n → rem.length = vs.length * n → (∀ v, v ∈ vs → v.cells.size = n) →
  Instr.fill (fun i => some (i * n, n)) (done ++ rem).toArray ((List.range' i vs.length).zip vs) = some (done ++ vs.flatMap fun v => v.cells.toList).toArray
 | [], i, done, rem, hd, hr, _ => by
  have : rem = [] := OL (by simpa using hr)
  subst this
  simp [Instr.fill]
 | v :: vs, i, done, rem, hd, hr, hv => by
  have h1 := hv v (by simp)
  simp only [Nx, Nat.succ_mul] at hr;rw [Nx, List.range'_succ, List.zip_cons_cons];simp only [Instr.fill];rw [if_neg (by simp [h1, hd]; omega)]
  have hf := JH (i * n) v.cells.toList 0 (done ++ rem).toArray (by simp [hd, h1]; omega)
  have e : (v.cells.zipIdx.foldl (fun (cs : Array Value) (x : Value × Nat) => cs.setIfInBounds (i * n + x.2) x.1) (done ++ rem).toArray) = ((done ++ v.cells.toList) ++ rem.drop n).toArray := by
   apply Array.toList_inj.1
   rw [← Array.foldl_toList, Array.toList_zipIdx, hf]
   have hvl : v.cells.toList.length = n := by simp [h1]
   unfold splice;rw [hvl, show i * n + 0 = done.length from by omega];show List.take done.length (done ++ rem) ++ v.cells.toList ++ List.drop (done.length + n) (done ++ rem) = done ++ v.cells.toList ++ List.drop n rem;rw [List.take_left, List.drop_length_add_append]
  rw [e]
  have ih := GY n vs (i + 1) (done ++ v.cells.toList) (rem.drop n) (by simp [hd, h1, Nat.succ_mul]) (by simp; omega) fun x hx => hv x (by simp [hx])
  rw [ih]
  simp [OA]
section
variable {P : Program} {c : Ctx} {s : St} {Q : Exit → St → Prop} {ops : Array Oper} {rest : List Oper} {o : Oper}
theorem Conc.newsl {a : Act} {w : World} {F β fb mb ow} (hi : Conc c s a w F β fb mb ow) {t : Nat} (ht : t < c.n) (ms : List Nat) {fr' : List (Nat × D)} {arr : Array Value} {n cap : Nat} {xs : List T} {bs : List Nat} (e : TypeId)
  (hfr : ∀ u, (look fr' u = look (killF t s.fr) u ∧ u ∉ ms) ∨ look fr' u = .top)
  (hsz : arr.size = cap * n) (hw : ∀ x, x ∈ xs → (T.cells x).length = n) (hle : xs.length ≤ cap) (hmax : cap ≤ maxLen)
  (hr : OwnL w (arr.toList.take (xs.length * n)) (xs.flatMap T.cells) bs) (hnd : bs.Nodup) (hbs : ∀ b, b ∈ bs → ∃ u, ow b = some (.inl u) ∧ u ∈ ms) :
  Is c ⟨(t, .sl t 0 xs.length) :: fr', (t, .L n xs) :: killM t s.M⟩ (a.put (some t) (.slice (some ⟨w.heap.size, 0, none⟩) xs.length cap)) (w.alloc (.cells arr e)) := by
 have hβ : ∀ id, id ≠ t → (fun id => if id = t then some (w.heap.size, n, cap) else β id) id = β id := fun id h => by simp [h]
 have hold : ∀ b, b < w.heap.size → (w.alloc (.cells arr e)).heap[b]? = w.heap[b]? := fun b hb => Below.heap_alloc w _ b hb
 have hin : ∀ b, b ∈ bs → b < w.heap.size := fun b hb => by
  obtain ⟨y, hy, _⟩ := hbs b hb
  exact (hi.own b (by simp [hy])).2.1
 refine hi.renew t (Anew.kill hβ) (fun y => ∃ u, u ∈ ms ∧ y = .inl u) (w.heap.size :: bs) (.L n xs) (some (t, .slice (some ⟨w.heap.size, 0, none⟩) xs.length cap, .sl t 0 xs.length)) rfl ?_ rfl rfl rfl (by simp)
  (fun b hb _ => hold b hb) ?_ (by simp [lookM]) ?_ ?_ ?_ ?_
 ·rintro t' v d h
  cases h;refine ⟨ht, ?_, by simp [look]⟩;exact .sl (b := w.heap.size) (n := n) (c := cap) (by simp) hle (by simp) (by simp) .done
 ·intro u hu
  have hut := hu _ _ _ rfl
  simp only [look, if_neg (Ne.symm hut)]
  rcases hfr u with ⟨h1, h2⟩ | h1
  ·exact .inl ⟨by rw [h1, BS], by rintro ⟨v, h3, h4⟩; cases h4; exact h2 h3⟩
  ·exact .inr h1
 ·exact .inr ⟨w.heap.size, cap, arr, e, bs, by simp, heap_alloc_new w _, hsz, hw, hle, hmax, hr.mono fun b hb => hold b (hin b hb), rfl⟩
 ·refine N7.2 ⟨fun h => ?_, hnd⟩
  have := hin _ h
  omega
 ·intro b hb
  rcases N6.1 hb with rfl | hb
  ·exact .inl ⟨OJ _, by simp⟩
  ·obtain ⟨y, h1, h2⟩ := hbs b hb
   exact .inr ⟨_, h1, .inl ⟨y, h2, rfl⟩⟩
 ·intro id hid
  simp only [lookM, if_neg (Ne.symm hid)];rw [BR];exact .inr ⟨(by rintro ⟨u, _, h⟩; cases h), rfl⟩
theorem Conc.drew {a : Act} {w : World} {F β fb mb ow} (hi : Conc c s a w F β fb mb ow) : Conc c s a w.drew F β fb mb ow :=
 { hi with
  fr := fun t => (hi.fr t).mono (w := w) (w' := w.drew) (fun _ h => h) (fun _ _ => rfl) (fun _ _ => rfl) fun _ => rfl
  mem := fun id => by
   have := hi.mem id
   cases h : lookM s.M id with
   | none => rw [h] at this; exact this
   | some k => rw [h] at this; exact RelB.mono (w := w) (w' := w.drew) this (fun _ _ => rfl) fun _ _ => rfl }
def Ai (fr : List (Nat × D)) (xs : List Operand) : List Nat := xs.filterMap fun x => if (opd fr x).free then none else match x with | .tmp u => some u | _ => none
def PartsOk (fr : List (Nat × D)) (n : Nat) : List Operand → List T → Prop
 | [], [] => True
 | x :: xs, y :: ys => (∃ ds, boxD (opd fr x) = some ds ∧ AbsL ds y.cells ∧ y.cells.length = n) ∧ PartsOk fr n xs ys
 | _, _ => False
theorem HG {a : Act} {w : World} {F β fb mb ow} (hi : Conc c s a w F β fb mb ow) {n : Nat} : ∀ {xs : List Operand} {ys : List T}, PartsOk s.fr n xs ys → (Ai s.fr xs).Nodup →
  ∃ bs, OwnL w (xs.flatMap fun x => (a.eval x).cells.toList) (ys.flatMap T.cells) bs ∧ bs.Nodup ∧ (∀ b, b ∈ bs → ∃ u, ow b = some (.inl u) ∧ u ∈ Ai s.fr xs) ∧ (∀ y, y ∈ ys → y.cells.length = n) ∧
   ∀ x, x ∈ xs → (a.eval x).cells.size = n
 | [], [], _, _ => ⟨[], .nil, by simp, by simp, by simp, by simp⟩
 | [], _ :: _, h, _ => h.elim
 | _ :: _, [], h, _ => h.elim
 | x :: xs, y :: ys, h, hm => by
  obtain ⟨⟨ds, h1, h2, h3⟩, h4⟩ := h
  obtain ⟨b1, hr, hn1, hb1⟩ := hi.opdOwn x
  have hm' : (Ai s.fr xs).Nodup := by
   unfold Ai at hm ⊢;rw [List.filterMap_cons] at hm;split at hm
   ·exact hm
   ·exact (N7.1 hm).2
  obtain ⟨b2, h5, h6, h7, h8, h9⟩ := HG hi h4 hm'
  obtain ⟨h10, _⟩ := hr.boxD h1
  have h11 := absL h10 h2
  have hx : ∀ u, Mp x (opd s.fr x) (.inl u) → u ∈ Ai s.fr (x :: xs) ∧ u ∉ Ai s.fr xs := fun u ⟨hf, v, hv, hu⟩ => by
   cases hu;subst hv
   have e : Ai s.fr (.tmp u :: xs) = u :: Ai s.fr xs := by
    unfold Ai;rw [List.filterMap_cons]
    simp [hf]
   rw [e] at hm ⊢;exact ⟨by simp, (N7.1 hm).1⟩
  have hsub : ∀ u, u ∈ Ai s.fr xs → u ∈ Ai s.fr (x :: xs) := fun u hu => by
   unfold Ai at hu ⊢;rw [List.filterMap_cons];split
   ·exact hu
   ·exact OE _ hu
  refine ⟨b1 ++ b2, h11.append h5, ?_, fun b hb => ?_, fun z hz => ?_, fun z hz => ?_⟩
  ·rw [N5]
   refine ⟨hn1, h6, fun p hp q hq e => ?_⟩;subst e
   obtain ⟨z, hz1, hz2⟩ := hb1 p hp
   obtain ⟨u, hu1, hu2⟩ := h7 p hq
   rw [hu1] at hz1;cases hz1;exact (hx u hz2).2 hu2
  ·rcases N3.1 hb with hb | hb
   ·obtain ⟨z, hz1, hz2⟩ := hb1 b hb
    obtain ⟨hf, u, hu, rfl⟩ := hz2
    exact ⟨u, hz1, (hx u ⟨hf, u, hu, rfl⟩).1⟩
   ·obtain ⟨u, hu1, hu2⟩ := h7 b hb
    exact ⟨u, hu1, hsub u hu2⟩
  ·rcases N6.1 hz with rfl | hz
   ·exact h3
   ·exact h8 z hz
  ·rcases N6.1 hz with rfl | hz
   ·have := h11.length
    rw [h3] at this
    simpa using this
   ·exact h9 z hz
def KC (ms : List Nat) (fr : List (Nat × D)) : List (Nat × D) := ms.map (fun u => (u, D.top)) ++ fr
theorem look_eatL : ∀ (ms : List Nat) (fr : List (Nat × D)) (u : Nat), (look (KC ms fr) u = look fr u ∧ u ∉ ms) ∨ look (KC ms fr) u = .top
 | [], fr, u => .inl ⟨rfl, by simp⟩
 | m :: ms, fr, u => by
  simp only [KC, OV, Oh, look]
  by_cases h : m = u
  ·rw [if_pos h]; exact .inr rfl
  ·rw [if_neg h]
   rcases look_eatL ms fr u with ⟨h1, h2⟩ | h1
   ·exact .inl ⟨h1, by simp [h2]; exact fun e => h e.symm⟩
   ·exact .inr h1
theorem HH {fr : List (Nat × D)} {n : Nat} : ∀ {xs : List Operand} {ys : List T}, PartsOk fr n xs ys → ys.length = xs.length
 | [], [], _ => rfl
 | [], _ :: _, h => h.elim
 | _ :: _, [], h => h.elim
 | _ :: _, _ :: _, h => by simp [HH h.2]
theorem Ed (f : Operand → Value) : ∀ l : List (Nat × Operand), l.map (fun x => (x.1, f x.2)) = (l.map (·.1)).zip ((l.map (·.2)).map f)
 | [] => rfl
 | x :: l => by simp [Ed f l]
theorem Dj {Γ : Tys} (hΓ : Γ.ok P) {ty e t len : Nat} {parts : Array (Nat × Operand)} {ti te : TI} (ys : List T) (hg : o.guard = none) (hd : o.dst = some t) (ht : t < c.n) (ho : o.op = .buildSlice ty len parts)
  (h1 : A7 Γ ty = some ti) (h2 : ti.kind = .slice e) (h3 : A7 Γ e = some te) (hp : parts.toList.map (·.1) = List.range len) (hl : len * te.size ≤ 16777216)
  (hy : PartsOk s.fr te.size (parts.toList.map (·.2)) ys) (hm : (Ai s.fr (parts.toList.map (·.2))).Nodup) (hzs : te.zero.length = te.size) (hpos : 0 < te.size)
  (kk : WO P c ops rest ⟨(t, .sl t 0 ys.length) :: KC (Ai s.fr (parts.toList.map (·.2))) (killF t s.fr), (t, .L te.size ys) :: killM t s.M⟩ Q) : WO P c ops (o :: rest) s Q := by
 rintro a w ⟨F, β, fb, mb, ow, hi⟩
 obtain ⟨⟨i, zv, q1, q2, q3, q4, q5⟩, _⟩ := hΓ.get h3
 have hu := (hΓ.get h1).2
 rw [h2] at hu
 obtain ⟨bs, r1, r2, r3, r4, r5⟩ := HG hi hy hm
 have hlen : parts.toList.length = len := by have := congrArg List.length hp; simpa using this
 have hyl : ys.length = len := by
  rw [HH hy, N0, hlen]
 have hvs : ∀ v, v ∈ (parts.toList.map (·.2)).map a.eval → v.cells.size = te.size := fun v hv => by
  obtain ⟨x, hx, rfl⟩ := List.mem_map.1 hv
  exact r5 x hx
 have hzip : (parts.map fun x => (x.1, a.eval x.2)).toList = (List.range' 0 ((parts.toList.map (·.2)).map a.eval).length).zip ((parts.toList.map (·.2)).map a.eval) := by
  rw [Array.toList_map, N0, N0, hlen, ← List.range_eq_range', ← hp];exact Ed a.eval parts.toList
 have hrep : ((parts.toList.map (·.2)).map a.eval).flatMap (fun v => v.cells.toList) = (parts.toList.map (·.2)).flatMap fun x => (a.eval x).cells.toList := by
  rw [List.flatMap_map]
 have hzv : zv.cells.size = te.size := by rw [← hzs, ← q5]; simp
 have hrun : (execOp a.eval o).run P w = .ok (.value (.slice (some ⟨w.heap.size, 0, none⟩) len len)) (w.alloc (.cells ((parts.toList.map (·.2)).flatMap fun x => (a.eval x).cells.toList).toArray e)) := by
  have hfill := GY te.size ((parts.toList.map (·.2)).map a.eval) 0 [] (madeCells zv.cells (len * te.size)).toList (by simp) (by simp [size_madeCells, hlen]) hvs
  rw [← hzip, hrep] at hfill;simp only [OY, Array.toArray_toList] at hfill
  have h24 : (2 : Nat) ^ 24 = 16777216 := by decide
  have hnot : ¬ (len * te.size > 2 ^ 24) := by omega
  by_cases h0 : len * te.size = 0
  ·have hmz : madeCells zv.cells (len * te.size) = #[] := by rw [h0]; simp [madeCells]
   rw [hmz] at hfill
   have hr0 : Array.range 0 = #[] := by apply Array.ext <;> simp
   simp only [execOp, ho, Instr.buildSlice, N8, run_underlying hu.2, N2, Ae (hΓ.get h3), h0, hr0]
   simp at hfill ⊢
   simp [hr0, hfill, newRow]
  ·have hmz : (Array.range (len * te.size)).map (zv.cells[· % zv.cells.size]!) = madeCells zv.cells (len * te.size) := rfl
   simp only [execOp, ho, Instr.buildSlice, N8, run_underlying hu.2, N2, Ae (hΓ.get h3), if_neg hnot, if_neg h0, Sem.run_ite, OS]
   simp [zeroValue, typeInfo, q1, q4, madeCells] at hfill ⊢
   simp [hfill, newRow]
 refine wpList_plain hg fun K hK => ?_
 unfold Oper.wp;rw [hrun, Oper.upon_value, hd];refine hK _ _ (kk _ _ ?_)
 have hrl := r1.length
 rw [Ap r4] at hrl
 have := hi.newsl ht (Ai s.fr (parts.toList.map (·.2))) (fr' := KC (Ai s.fr (parts.toList.map (·.2))) (killF t s.fr)) (arr := ((parts.toList.map (·.2)).flatMap fun x => (a.eval x).cells.toList).toArray) (n := te.size) (cap := len) (xs := ys) (bs := bs) e
  (fun u => look_eatL _ _ u) (by simpa [hyl] using hrl) r4 (by omega) (by
   have := Nat.le_trans (Nat.le_mul_of_pos_right len hpos) hl
   simp only [maxLen]; omega) (by rw [Nw (by simp [hrl])]; exact r1) r2 r3
 rw [hyl] at this ⊢;exact this
end
end Go.Eng
end
section
/- The abstract machine's rules for append, for parts of slices, and for the telling anew of what is owned. -/
namespace Go.Eng
open Go.RowKit
section
variable {P : Program} {c : Ctx} {s : St} {Q : Exit → St → Prop} {ops : Array Oper} {rest : List Oper} {o : Oper}
/-! ### append -/
theorem G4 {ty e : Nat} {ti te : TI} (ht : ti.ok P ty) (hk : ti.kind = .slice e) (he : te.ok P e) (w : World) (u : Nat) (a1 a2 : Option Addr) (len k k2 : Nat) (hle : len ≤ k) :
  (Builtin.append_ #[ty, ty] u #[.slice a1 len k, .slice a2 0 k2]).run P w = .ok (.slice a1 len k) w := by
 obtain ⟨_, h2⟩ := ht
 rw [hk] at h2
 have hf : (Builtin.firstCells te.size 0 (.slice a2 0 k2)).run P w = .ok #[] w := by
  cases a2 with
  | none => simp [Builtin.firstCells]
  | some ad => simp [Builtin.firstCells, loadCells, loadCellsFrom]
 simp only [Builtin.append_]
 simp [run_underlying h2.2, Ae he, Builtin.lenOf, hle, hf]
 cases a1 <;> simp [storeCells]
theorem G3 {ty e : Nat} {ti te : TI} (ht : ti.ok P ty) (hk : ti.kind = .slice e) (he : te.ok P e) (w : World) (u b len k m k2 : Nat) (a2 : Addr) {arr : Array Value} {e' : TypeId} {news : List Value}
  (hh : w.heap[b]? = some (.cells arr e' (0, 0))) (hn : news.length = m * te.size) (hnews : ∀ j v, news[j]? = some v → w.cell? (a2.add j) = some v) (hone : news.all (·.oneCell') = true)
  (hroom : len + m ≤ k) (hfit : len * te.size + news.length ≤ arr.size) :
  (Builtin.append_ #[ty, ty] u #[.slice (some ⟨b, 0, none⟩) len k, .slice (some a2) m k2]).run P w = .ok (.slice (some ⟨b, 0, none⟩) (len + m) k) (w.setRow b (splice arr.toList (len * te.size) news).toArray) := by
 obtain ⟨_, h2⟩ := ht
 rw [hk] at h2
 have hf := run_firstCells_some (P := P) w te.size m a2 m k2 news hn hnews
 have hst := run_storeCells_at (P := P) b (len * te.size) e' news 0 arr w hh (by simpa using hfit) (fun v hv => N1.1 hone v hv)
 simp only [Nat.add_zero] at hst
 simp [Builtin.append_, run_underlying h2.2, Ae he, Builtin.lenOf, hroom, hf, Addr.add_lit, hst, splice]
theorem G5 {ty e : Nat} {ti te : TI} (ht : ti.ok P ty) (hk : ti.kind = .slice e) (he : te.ok P e) (w : World) (u len k m k2 : Nat) (a1 : Option Addr) (a2 : Addr) {olds news : List Value} {zv : Value} {i : TypeInfo}
  (hi : P.info? e = some i) (hz : i.zero = some zv)
  (hlo : olds.length = len * te.size) (holds : (olds = [] ∧ len = 0) ∨ ∃ ad, a1 = some ad ∧ ∀ j v, olds[j]? = some v → w.cell? (ad.add j) = some v)
  (hn : news.length = m * te.size) (hnews : ∀ j v, news[j]? = some v → w.cell? (a2.add j) = some v)
  (hgrow : k < len + m) (h63 : len + m ≤ 1073741824) (hb : te.bytes ≤ 131072) :
  ∃ cap, len + m ≤ cap ∧ cap ≤ maxLen ∧ (Builtin.append_ #[ty, ty] u #[.slice a1 len k, .slice (some a2) m k2]).run P w =
   .ok (.slice (some ⟨w.heap.size, 0, none⟩) (len + m) cap) (w.drew.alloc (.cells (olds ++ news ++ (Builtin.zeroCells zv.cells (cap - (len + m))).toList).toArray e)) := by
 obtain ⟨⟨i', z', q1, q2, q3, q4, q5⟩, h2⟩ := ht
 rw [hk] at h2
 obtain ⟨⟨i'', z'', r1, r2, r3, r4, r5⟩, _⟩ := id he
 rw [hi] at r1;cases r1
 have hnk : ¬ (len + m ≤ k) := by omega
 have h63' : ¬ (9223372036854775807 < ((len : Int) + (m : Int))) := by omega
 have hfit := growslice_fits (need := len + m) (old := k) (bytes := i.bytes) hgrow (by rw [r3]; exact Nat.le_trans (Nat.mul_le_mul h63 hb) (by decide))
 have h48' : ¬ (281474976710656 < Builtin.nextslicecap (len + m) k * i.bytes) := by omega
 have hf := run_firstCells_some (P := P) w.drew te.size m a2 m k2 news hn (by simpa using hnews)
 have hfo : (Builtin.firstCells te.size len (.slice a1 len k)).run P w.drew = .ok olds.toArray w.drew := by
  rcases holds with ⟨rfl, rfl⟩ | ⟨ad, rfl, h⟩
  ·cases a1 with
   | none => simp [Builtin.firstCells]
   | some ad => simp [Builtin.firstCells, loadCells, loadCellsFrom]
  ·exact run_firstCells_some (P := P) w.drew te.size len ad len k olds hlo (by simpa using h)
 refine ⟨grownCap w (len + m) k e, grownCap_ge w _ _ _, grownCap_le_maxLen w _ _ _ (by simp only [maxLen]; omega), ?_⟩
 simp [Builtin.append_, run_underlying h2.2, Ae he, typeInfo, zeroValue, hi, hz, Builtin.lenOf, hnk, h63', h48', Question.forced, hf, hfo, newRow, grownCap]
 congr 2
 apply Array.ext'
 simp [OA]
inductive Src (s : St) : D → Nat → List T → Option Nat → Prop
 | nil {n} : Src s .nil n [] none
 | read {n l} : (∀ x, x ∈ l → (T.cells x).length = n ∧ ∀ y, y ∈ T.cells x → ∃ v, y = .v v) → Src s (.t (.list n l)) n l none
 | own {id n m xs} : lookM s.M id = some (.L n xs) → m ≤ xs.length → Src s (.sl id 0 m) n (xs.take m) (some id)
theorem Bf {n : Nat} {xs : List T} (hw : ∀ x, x ∈ xs → (T.cells x).length = n) (m : Nat) : (xs.flatMap T.cells).take (m * n) = (xs.take m).flatMap T.cells := by
 rcases Nat.lt_or_ge xs.length m with h | h
 ·rw [Nw (show xs.length ≤ m by omega), Nw]
  rw [Ap hw];exact Nat.mul_le_mul_right n (by omega)
 ·have e : xs.flatMap T.cells = (xs.take m).flatMap T.cells ++ (xs.drop m).flatMap T.cells := by rw [← List.flatMap_append, List.take_append_drop]
  have hl : ((xs.take m).flatMap T.cells).length = m * n := by
   rw [Ap fun x hx => hw x (OX hx), OO, Nat.min_eq_left h]
  rw [e, ← hl, List.take_left]
theorem HI {w : World} {F : Nat → Prop} : ∀ {vs ts}, RelL w F vs ts → (∀ y, y ∈ ts → ∃ v, y = .v v) → OwnL w vs ts []
 | _, _, .nil, _ => .nil
 | _, _, .v h1 h2, h => .v h1 (HI h2 fun y hy => h y (OE _ hy))
 | _, _, .none _, h => by obtain ⟨v, hv⟩ := h _ (OG ..); cases hv
 | _, _, .list _ _ _ _ _ _ _, h => by obtain ⟨v, hv⟩ := h _ (OG ..); cases hv
 | _, _, .sub _ _, h => by obtain ⟨v, hv⟩ := h _ (OG ..); cases hv
theorem Src.cells {a : Act} {w : World} {F β fb mb ow} (hi : Conc c s a w F β fb mb ow) {x : Operand} {d : D} {n : Nat} {ys : List T} {sid : Option Nat} (h : Src s d n ys sid) (hd : opd s.fr x = d) :
  ∃ a2 k2 news bs, a.eval x = .slice a2 ys.length k2 ∧ (ys = [] ∨ ∃ ad, a2 = some ad ∧ ∀ j v, news[j]? = some v → w.cell? (ad.add j) = some v) ∧
   OwnL w news (ys.flatMap T.cells) bs ∧ (∀ y, y ∈ ys → y.cells.length = n) ∧ bs.Nodup ∧ (∀ b, b ∈ bs → ∃ id, sid = some id ∧ b ∈ mb id) ∧ (∀ b, b ∈ bs → ow b = sid.map .inr) := by
 obtain ⟨bx, hr, _⟩ := hi.opd x
 rw [hd] at hr
 cases h with
 | nil =>
  generalize hev : a.eval x = xv at hr
  cases hr with
  | nil _ => exact ⟨none, 0, [], [], rfl, .inl rfl, .nil, by simp, by simp, by simp, by simp⟩
 | read hv =>
  generalize hev : a.eval x = xv at hr
  cases hr with
  | t h1 _ =>
   cases h1 with
   | none h2 => exact ⟨_, _, [], [], rfl, .inl rfl, .nil, by simp, by simp, by simp, by simp⟩
   | @list b o' cap _ cs _ arr e fz _ _ q1 q2 q3 q4 q5 q6 q7 =>
    refine ⟨_, _, cs, [], rfl, .inr ⟨⟨b, o', none⟩, rfl, fun j v hj => ?_⟩, HI q6 fun y hy => ?_, q4, by simp, by simp, by simp⟩
    ·rw [As, B2 q2, q3 j (List.getElem?_eq_some_iff.1 hj).1]
     exact hj
    ·obtain ⟨z, hz, hyz⟩ := Oa.1 hy
     exact (hv z hz).2 y hyz
 | own hM hm =>
  rename_i id m xs
  have hmm := hi.mem id
  rw [hM] at hmm;generalize hev : a.eval x = xv at hr
  rcases hmm with ⟨h1, h2, h3⟩ | ⟨b, cap, arr, e, bs', h1, h2, h3, h4, h5, h6, h7, h8⟩
  ·subst h2
   cases hr with
   | slnil _ _ => exact ⟨_, _, [], [], rfl, .inl (by simp), by simpa using OwnL.nil, by simp, by simp, by simp, by simp⟩
   | sl q1 _ _ _ _ => rw [h1] at q1; cases q1
  ·cases hr with
   | slnil q1 _ => rw [h1] at q1; cases q1
   | sl q1 q2 q3 q4 _ =>
    rw [h1] at q1;cases q1
    rename_i a' k' _
    have hml : (xs.take m).length = m := by simp; omega
    obtain ⟨c1, c2, hc, ho1, _⟩ := h7.split (m * n)
    rw [Bf h4, List.take_take, Nat.min_eq_left (Nat.mul_le_mul_right n hm)] at ho1
    have hnd := hi.nmem id
    rw [h8, hc] at hnd;refine ⟨a', k', arr.toList.take (m * n), c1, by rw [hml], ?_, ho1, fun y hy => h4 y (OX hy), ?_, fun b' hb' => ⟨id, rfl, by rw [h8, hc]; simp [hb']⟩, fun b' hb' => hi.omem id b' (by rw [h8, hc]; simp [hb'])⟩
    ·by_cases h0 : k' = 0
     ·left
      have : m = 0 := by omega
      subst this; simp
     ·right
      refine ⟨_, q4 h0, fun j v hj => ?_⟩;rw [As, B2 h2];simp only [List.getElem?_take] at hj;split at hj
      ·simpa using hj
      ·cases hj
    ·exact (N5.1 (N7.1 hnd).2).1
def dropM (sid : Option Nat) (M : List (Nat × Blk)) : List (Nat × Blk) := match sid with
 | none => M
 | some id => M.filter fun p => p.1 != id
theorem look_dropM (sid : Option Nat) : ∀ (M : List (Nat × Blk)) (u : Nat), lookM (dropM sid M) u = none ∨ (sid ≠ some u ∧ lookM (dropM sid M) u = lookM M u) := by
 cases sid with
 | none => exact fun M u => .inr ⟨by simp, rfl⟩
 | some id =>
  intro M
  induction M with
  | nil => exact fun u => .inl rfl
  | cons p M ih =>
   intro u
   obtain ⟨k, d⟩ := p
   simp only [dropM, List.filter_cons] at ih ⊢
   by_cases hk : k = id
   ·subst hk
    simp only [bne_self_eq_false, Bool.false_eq_true, if_false]
    rcases ih u with h | ⟨h1, h2⟩
    ·exact .inl h
    ·refine .inr ⟨h1, ?_⟩
     rw [h2, lookM, if_neg (by simpa using h1)]
   ·simp only [bne_iff_ne, ne_eq, hk, not_false_eq_true, if_true, lookM]
    by_cases hu : k = u
    ·subst hu; exact .inr ⟨by simpa using Ne.symm hk, by simp⟩
    ·simp only [if_neg hu]; exact ih u
inductive Dst (s : St) (t : Nat) : D → Nat → Nat → List T → Prop
 | nil {n} : Dst s t .nil t n []
 | own {id n len xs} : lookM s.M id = some (.L n xs) → len ≤ xs.length → Dst s t (.sl id 0 len) id n (xs.take len)
theorem Ac {Γ : Tys} (hΓ : Γ.ok P) {ty e t id : Nat} {x y : Operand} {ti te : TI} {dx dy : D} {xs ys : List T} {sid : Option Nat} (hg : o.guard = none) (hd : o.dst = some t) (ht : t < c.n)
  (ho : o.op = .call { callee := .builtin .append, args := #[x, y], argTypes := #[ty, ty] })
  (h1 : A7 Γ ty = some ti) (h2 : ti.kind = .slice e) (h3 : A7 Γ e = some te) (hx : opd s.fr x = dx) (hdst : Dst s t dx id te.size xs) (hy : opd s.fr y = dy) (hsrc : Src s dy te.size ys sid) (hne : sid ≠ some id)
  (hlen : xs.length + ys.length ≤ 1073741824) (hb : te.bytes ≤ 131072) (hzs : te.zero.length = te.size)
  (kk : WO P c ops rest ⟨(t, .sl id 0 (xs.length + ys.length)) :: killF id s.fr, (id, .L te.size (xs ++ ys)) :: dropM sid (killM id s.M)⟩ Q) : WO P c ops (o :: rest) s Q := by
 rintro a w ⟨F, β, fb, mb, ow, hi⟩
 obtain ⟨a2, k2, news, bs, e1, e2, e3, e4, e5, e6, e7⟩ := hsrc.cells hi hy
 obtain ⟨⟨i, zv, q1, q2, q3, q4, q5⟩, _⟩ := hΓ.get h3
 have hnl : news.length = ys.length * te.size := by rw [e3.length, Ap e4]
 -- the destination
 obtain ⟨bx, hrx, _⟩ := hi.opd x
 rw [hx] at hrx
 have hD : ∃ a1 k olds bo, a.eval x = .slice a1 xs.length k ∧ xs.length ≤ k ∧ OwnL w olds (xs.flatMap T.cells) bo ∧ (∀ z, z ∈ xs → z.cells.length = te.size) ∧ bo.Nodup ∧ (∀ b, b ∈ bo → b ∈ mb id) ∧
   (k = 0 ∨ ∃ b arr e', a1 = some ⟨b, 0, none⟩ ∧ β id = some (b, te.size, k) ∧ b ∈ mb id ∧ b ∉ bo ∧ w.heap[b]? = some (.cells arr e' (0, 0)) ∧ arr.size = k * te.size ∧ olds = arr.toList.take (xs.length * te.size) ∧ k ≤ maxLen) ∧
   (β id = none → k = 0) ∧ (olds = [] ∨ ∃ ad, a1 = some ad ∧ ∀ j v, olds[j]? = some v → w.cell? (ad.add j) = some v) := by
  generalize hev : a.eval x = xv at hrx
  cases hdst with
  | nil =>
   cases hrx with
   | nil _ => exact ⟨none, 0, [], [], rfl, by simp, .nil, by simp, by simp, by simp, .inl rfl, fun _ => rfl, .inl rfl⟩
  | own hM hl =>
   rename_i len xs0
   have hmm := hi.mem id
   rw [hM] at hmm
   rcases hmm with ⟨r1, r2, r3⟩ | ⟨b, cap, arr, e', bs', r1, r2, r3, r4, r5, r6, r7, r8⟩
   ·subst r2
    cases hrx with
    | @slnil _ ad _ _ _ _ _ => exact ⟨ad, 0, [], [], by simp, by simp, by simpa using OwnL.nil, by simp, by simp, by simp, .inl rfl, fun _ => rfl, .inl rfl⟩
    | sl p1 _ _ _ _ => rw [r1] at p1; cases p1
   ·cases hrx with
    | slnil p1 _ => rw [r1] at p1; cases p1
    | sl p1 p2 p3 p4 _ =>
     rw [r1] at p1;cases p1
     rename_i a' k' _
     have hml : (xs0.take len).length = len := by simp; omega
     obtain ⟨c1, c2, hc, ho1, _⟩ := r7.split (len * te.size)
     rw [Bf r4, List.take_take, Nat.min_eq_left (Nat.mul_le_mul_right _ hl)] at ho1
     have hnd := hi.nmem id
     rw [r8, hc] at hnd
     have hkc : k' = cap := by omega
     subst hkc;refine ⟨a', k', _, c1, by rw [hml], by rw [hml]; exact p2, ho1, fun z hz => r4 z (OX hz), (N5.1 (N7.1 hnd).2).1, fun b' hb' => by rw [r8, hc]; simp [hb'], ?_, by rw [r1]; simp, ?_⟩
     ·by_cases h0 : k' = 0
      ·exact .inl h0
      ·refine .inr (⟨b, arr, e', by simpa using p4 h0, r1, by rw [r8]; simp, fun hb' => ?_, r2, r3, by rw [hml], r6⟩)
       exact (N7.1 hnd).1 (by simp [hb'])
     ·by_cases h0 : k' = 0
      ·left
       have : len = 0 := by omega
       subst this; simp
      ·right
       refine ⟨_, p4 h0, fun j v hj => ?_⟩;rw [As, B2 r2];simp only [List.getElem?_take] at hj;split at hj
       ·simpa using hj
       ·cases hj
 obtain ⟨a1, k, olds, bo, f1, f2, f3, f4, f5, f6, f7, f8, f9⟩ := hD
 have hol : olds.length = xs.length * te.size := by rw [f3.length, Ap f4]
 have hboo : ∀ b, b ∈ bo → ow b = some (.inr id) := fun b hb' => hi.omem id b (f6 b hb')
 have hinb : ∀ b, b ∈ bs → b < w.heap.size := fun b hb' => by
  obtain ⟨id', h5, h6⟩ := e6 b hb'
  exact (hi.own b (by rw [e7 b hb', h5]; simp)).2.1
 have hino : ∀ b, b ∈ bo → b < w.heap.size := fun b hb' => (hi.own b (by rw [hboo b hb']; simp)).2.1
 have hdis : ∀ b, b ∈ bo → b ∉ bs := fun b h h' => by
  have h5 := e7 b h'
  rw [hboo b h] at h5
  cases hsid : sid with
  | none => rw [hsid] at h5; cases h5
  | some z => rw [hsid] at h5; cases h5; exact hne hsid
 have hcat : OwnL w (olds ++ news) ((xs ++ ys).flatMap T.cells) (bo ++ bs) := by rw [List.flatMap_append]; exact f3.append e3
 have hcw : ∀ z, z ∈ xs ++ ys → z.cells.length = te.size := fun z hz => (N3.1 hz).elim (f4 z) (e4 z)
 have hcn : (bo ++ bs).Nodup := N5.2 ⟨f5, e5, fun p hp q hq h => hdis p hp (h ▸ hq)⟩
 -- what the rest of the state becomes
 have hfr' : ∀ (d : D) (u : Nat), u ≠ t → look ((t, d) :: killF id s.fr) u = D.kill id (look s.fr u) := fun d u hu => by
  simp only [look, if_neg (Ne.symm hu), BS]
 have hM' : ∀ (k : Blk) (id' : Nat), id' ≠ id → lookM ((id, k) :: dropM sid (killM id s.M)) id' = none ∨ (¬ (sid = some id') ∧ lookM ((id, k) :: dropM sid (killM id s.M)) id' = (lookM s.M id').map (Blk.kill id)) := fun k id' h => by
  simp only [lookM, if_neg (Ne.symm h)]
  rcases look_dropM sid (killM id s.M) id' with h5 | ⟨h5, h6⟩
  ·exact .inl h5
  ·exact .inr ⟨h5, by rw [h6, BR]⟩
 refine wpList_plain hg fun K hK => ?_
 unfold Oper.wp
 -- three ways
 have done : ∀ (v : Value) (w' : World), (Builtin.append_ #[ty, ty] o.type #[a.eval x, a.eval y]).run P w = .ok v w' → Is c ⟨(t, .sl id 0 (xs.length + ys.length)) :: killF id s.fr, (id, .L te.size (xs ++ ys)) :: dropM sid (killM id s.M)⟩ (a.put (some t) v) w' →
   o.upon P a K (Hu c Q) ((execOp a.eval o).run P w) := fun v w' hrun his => by
  have : (execOp a.eval o).run P w = .ok (.value v) w' := by
   simp only [execOp, ho, resolve, invoke, builtin, List.map_toArray, OV, List.map_nil, N8, OS, N2, hrun]
  rw [this, Oper.upon_value, hd];exact hK _ _ (kk _ _ his)
 have srcP : ∀ z : Nat ⊕ Nat, (∃ id', sid = some id' ∧ z = .inr id') → Prop := fun _ _ => True
 by_cases hm0 : ys.length = 0
 ·-- BW is appended
  have hy0 : ys = [] := OL hm0
  subst hy0;refine done (.slice a1 xs.length k) w (by rw [f1, e1]; exact G4 (hΓ.get h1) h2 (hΓ.get h3) w o.type a1 a2 xs.length k k2 f2) ?_
  by_cases hβ : β id = none
  ·-- nil still
   have hk0 := f8 hβ
   subst hk0
   have hx0 : xs = [] := OL (by omega)
   subst hx0;refine hi.renew id (Anew.kill fun id' h => rfl) (fun z => ∃ id', sid = some id' ∧ z = .inr id') [] (.L te.size []) (some (t, .slice a1 0 0, .sl id 0 0)) rfl ?_ rfl rfl rfl (OJ _) (fun _ _ _ => rfl) ?_ (by simp [lookM]) (.inl ⟨hβ, rfl, rfl⟩) List.nodup_nil (by simp) ?_
   ·rintro t' v d h; cases h; exact ⟨ht, .slnil hβ .done, by simp [look]⟩
   ·intro u hu
    exact .inl ⟨hfr' _ u (hu _ _ _ rfl), by rintro ⟨_, _, h⟩; cases h⟩
   ·intro id' h
    rcases hM' (.L te.size ([] ++ [])) id' h with h5 | ⟨h5, h6⟩
    ·exact .inl h5
    ·exact .inr ⟨(by rintro ⟨z, h7, h8⟩; cases h8; exact h5 h7), h6⟩
  ·-- a place it has
   cases hdst with
   | nil =>
    -- a nil destination, an old place at this id: told anew as nil
    have ha1 : a1 = none ∧ k = 0 := by
     have := hrx
     rw [f1] at this
     cases this with
     | nil _ => exact ⟨rfl, rfl⟩
    obtain ⟨rfl, rfl⟩ := ha1
    have hβ' : ∀ id', id' ≠ t → (fun id' => if id' = t then none else β id') id' = β id' := fun id' h => by simp [h]
    refine hi.renew t (Anew.kill hβ') (fun z => ∃ id', sid = some id' ∧ z = .inr id') [] (.L te.size []) (some (t, .slice none 0 0, .sl t 0 0)) rfl ?_ rfl rfl rfl (OJ _) (fun _ _ _ => rfl) ?_ (by simp [lookM]) (.inl ⟨by simp, rfl, rfl⟩) List.nodup_nil (by simp) ?_
    ·rintro t' v d h; cases h; exact ⟨ht, .slnil (by simp) .done, by simp [look]⟩
    ·intro u hu
     exact .inl ⟨hfr' _ u (hu _ _ _ rfl), by rintro ⟨_, _, h⟩; cases h⟩
    ·intro id' h
     rcases hM' (.L te.size ([] ++ [])) id' h with h5 | ⟨h5, h6⟩
     ·exact .inl h5
     ·exact .inr ⟨(by rintro ⟨z, h7, h8⟩; cases h8; exact h5 h7), h6⟩
   | own hM hl =>
    rename_i len xs0
    have hmm := hi.mem id
    rw [hM] at hmm
    rcases hmm with ⟨r1, _⟩ | ⟨b, cap, arr, e', bs', r1, r2, r3, r4, r5, r6, r7, r8⟩
    ·exact absurd r1 hβ
    ·have hml : (xs0.take len).length = len := by simp; omega
     obtain ⟨c1, c2, hc, ho1, _⟩ := r7.split (len * te.size)
     rw [Bf r4, List.take_take, Nat.min_eq_left (Nat.mul_le_mul_right _ hl)] at ho1
     have hnd := hi.nmem id
     rw [r8, hc] at hnd
     have hre : RelD w F β [.slice a1 len k] [.sl id 0 len] [] := by
      have := hrx
      rw [f1, hml] at this
      exact this.dup |> fun h => by simpa [D.dup, D.free] using h
     refine hi.renew id (Anew.kill fun id' h => rfl) (fun z => ∃ id', sid = some id' ∧ z = .inr id') (b :: c1) (.L te.size (xs0.take len ++ [])) (some (t, .slice a1 (xs0.take len).length k, .sl id 0 ((xs0.take len).length + ([] : List T).length))) rfl ?_ rfl rfl rfl (OJ _) (fun _ _ _ => rfl) ?_ (by simp [lookM]) ?_ ?_ ?_ ?_
     ·rintro t' v d h; cases h
      exact ⟨ht, by simpa [hml] using hre, by simp [look]⟩
     ·intro u hu
      exact .inl ⟨hfr' _ u (hu _ _ _ rfl), by rintro ⟨_, _, h⟩; cases h⟩
     ·exact .inr ⟨b, cap, arr, e', c1, r1, r2, r3, fun z hz => r4 z (OX (by simpa using hz)), by simp; omega, r6, by simpa [hml, Nat.min_eq_left hl] using ho1, rfl⟩
     ·exact N7.2 ⟨fun h => (N7.1 hnd).1 (by simp [h]), (N5.1 (N7.1 hnd).2).1⟩
     ·intro b' hb'
      exact .inr ⟨.inr id, hi.omem id b' (by rw [r8, hc]; rcases N6.1 hb' with rfl | h <;> simp [*]), .inr rfl⟩
     ·intro id' h
      rcases hM' (.L te.size (xs0.take len ++ [])) id' h with h5 | ⟨h5, h6⟩
      ·exact .inl h5
      ·exact .inr ⟨(by rintro ⟨z, h7, h8⟩; cases h8; exact h5 h7), h6⟩
 ·obtain ⟨ad, rfl, had⟩ := e2.resolve_left fun h => hm0 (by rw [h]; rfl)
  by_cases hroom : xs.length + ys.length ≤ k
  ·-- there is room
   obtain ⟨b, arr, e', rfl, p2, p3, p4, p5, p6, p7, p8⟩ : ∃ b arr e', a1 = some ⟨b, 0, none⟩ ∧ β id = some (b, te.size, k) ∧ b ∈ mb id ∧ b ∉ bo ∧ w.heap[b]? = some (.cells arr e' (0, 0)) ∧ arr.size = k * te.size ∧ olds = arr.toList.take (xs.length * te.size) ∧ k ≤ maxLen := by
    rcases f7 with h | h
    ·omega
    ·exact h
   have hfit : xs.length * te.size + news.length ≤ arr.size := by rw [hnl, p6, ← Nat.add_mul]; exact Nat.mul_le_mul_right _ hroom
   have hob := hi.omem id b p3
   have hbbs : b ∉ bs := fun h => by
    have h5 := e7 b h
    rw [hob] at h5
    cases hsid : sid with
    | none => rw [hsid] at h5; cases h5
    | some z => rw [hsid] at h5; cases h5; exact hne hsid
   have hkeep : ∀ b', b' ≠ b → (w.setRow b (splice arr.toList (xs.length * te.size) news).toArray).heap[b']? = w.heap[b']? := fun b' h => setRow_other w b b' _ h
   refine done _ _ (by rw [f1, e1]; exact G3 (hΓ.get h1) h2 (hΓ.get h3) w o.type b xs.length k ys.length k2 ad p5 hnl had e3.one hroom hfit) ?_
   have hnb : ∀ b', b' ∈ bo ++ bs → b' ≠ b := fun b' h e => by
    subst e
    rcases N3.1 h with h | h
    ·exact p4 h
    ·exact hbbs h
   refine hi.renew id (Anew.kill fun id' h => rfl) (fun z => ∃ id', sid = some id' ∧ z = .inr id') (b :: (bo ++ bs)) (.L te.size (xs ++ ys)) (some (t, .slice (some ⟨b, 0, none⟩) (xs.length + ys.length) k, .sl id 0 (xs.length + ys.length))) rfl ?_ rfl rfl rfl (by simp)
    (fun b' _ h => hkeep b' fun e => (h _ (e ▸ hob)).2 rfl) ?_ (by simp [lookM]) ?_ ?_ ?_ ?_
   ·rintro t' v d h; cases h
    exact ⟨ht, .sl p2 hroom (by simp) (by simp) .done, by simp [look]⟩
   ·intro u hu
    exact .inl ⟨hfr' _ u (hu _ _ _ rfl), by rintro ⟨_, _, h⟩; cases h⟩
   ·have hal : (splice arr.toList (xs.length * te.size) news).length = arr.toList.length := CU (by simpa using hfit)
    refine .inr ⟨b, k, _, e', bo ++ bs, p2, setRow_heap w b arr _ e' _ p5, by simpa [hal] using p6, hcw, by simpa using hroom, p8, ?_, rfl⟩
    have e8 : (splice arr.toList (xs.length * te.size) news).toArray.toList.take ((xs ++ ys).length * te.size) = olds ++ news := by
     have h9 : (arr.toList.take (xs.length * te.size)).length = xs.length * te.size := by rw [← p7]; exact hol
     simp only [splice, Nu];rw [p7, Nat.add_mul, ← hnl, List.take_left'];rw [Nu, h9]
    rw [e8]
    exact hcat.mono fun b' h => hkeep b' (hnb b' h)
   ·exact N7.2 ⟨fun h => hnb b h rfl, hcn⟩
   ·intro b' h
    rcases N6.1 h with rfl | h
    ·exact .inr ⟨_, hob, .inr rfl⟩
    ·rcases N3.1 h with h | h
     ·exact .inr ⟨_, hboo b' h, .inr rfl⟩
     ·obtain ⟨id', h5, _⟩ := e6 b' h
      exact .inr ⟨.inr id', by rw [e7 b' h, h5]; rfl, .inl ⟨id', h5, rfl⟩⟩
   ·intro id' h
    rcases hM' (.L te.size (xs ++ ys)) id' h with h5 | ⟨h5, h6⟩
    ·exact .inl h5
    ·exact .inr ⟨(by rintro ⟨z, h7, h8⟩; cases h8; exact h5 h7), h6⟩
  ·-- it grows
   obtain ⟨cap, g1, g2, g3⟩ := G5 (hΓ.get h1) h2 (hΓ.get h3) w o.type xs.length k ys.length k2 a1 ad q1 q4 hol (by
    rcases f9 with h | h
    ·by_cases h0 : xs.length = 0
     ·exact .inl ⟨h, h0⟩
     ·refine .inr ?_
      rcases f7 with h' | ⟨b, _, _, h', _⟩
      ·omega
      ·exact ⟨_, h', fun j v hj => by rw [h] at hj; cases hj⟩
    ·exact .inr h) hnl had (by omega) hlen hb
   refine done _ _ (by rw [f1, e1]; exact g3) ?_
   have hβ : ∀ id', id' ≠ id → (fun id' => if id' = id then some (w.heap.size, te.size, cap) else β id') id' = β id' := fun id' h => by simp [h]
   have hold : ∀ b', b' < w.heap.size → (w.drew.alloc (.cells (olds ++ news ++ (Builtin.zeroCells zv.cells (cap - (xs.length + ys.length))).toList).toArray e)).heap[b']? = w.heap[b']? := fun b' h => Below.heap_alloc w.drew _ b' h
   have hzv : zv.cells.size = te.size := by rw [← hzs, ← q5]; simp
   refine hi.renew id (Anew.kill hβ) (fun z => ∃ id', sid = some id' ∧ z = .inr id') (w.heap.size :: (bo ++ bs)) (.L te.size (xs ++ ys)) (some (t, .slice (some ⟨w.heap.size, 0, none⟩) (xs.length + ys.length) cap, .sl id 0 (xs.length + ys.length))) rfl ?_ rfl rfl rfl (by simp)
    (fun b' hb' _ => hold b' hb') ?_ (by simp [lookM]) ?_ ?_ ?_ ?_
   ·rintro t' v d h; cases h
    exact ⟨ht, .sl (b := w.heap.size) (n := te.size) (c := cap) (by simp) g1 (by simp) (by simp) .done, by simp [look]⟩
   ·intro u hu
    exact .inl ⟨hfr' _ u (hu _ _ _ rfl), by rintro ⟨_, _, h⟩; cases h⟩
   ·refine .inr ⟨w.heap.size, cap, _, e, bo ++ bs, by simp, heap_alloc_new w.drew _, ?_, hcw, by simpa using g1, g2, ?_, rfl⟩
    ·simp only [List.size_toArray, Nu, hol, hnl, OD, size_zeroCells, hzv]
     rw [← Nat.add_mul, ← Nat.add_mul]
     congr 1
     omega
    ·have e8 : (olds ++ news ++ (Builtin.zeroCells zv.cells (cap - (xs.length + ys.length))).toList).toArray.toList.take ((xs ++ ys).length * te.size) = olds ++ news := by
      simp only [Nu];rw [Nat.add_mul, ← hnl, ← hol, List.take_left'];rw [Nu]
     rw [e8]
     exact hcat.mono fun b' h => hold b' ((N3.1 h).elim (hino b') (hinb b'))
   ·refine N7.2 ⟨fun h => ?_, hcn⟩
    have := (N3.1 h).elim (hino _) (hinb _)
    omega
   ·intro b' h
    rcases N6.1 h with rfl | h
    ·exact .inl ⟨OJ _, by simp⟩
    ·rcases N3.1 h with h | h
     ·exact .inr ⟨_, hboo b' h, .inr rfl⟩
     ·obtain ⟨id', h5, _⟩ := e6 b' h
      exact .inr ⟨.inr id', by rw [e7 b' h, h5]; rfl, .inl ⟨id', h5, rfl⟩⟩
   ·intro id' h
    rcases hM' (.L te.size (xs ++ ys)) id' h with h5 | ⟨h5, h6⟩
    ·exact .inl h5
    ·exact .inr ⟨(by rintro ⟨z, h7, h8⟩; cases h8; exact h5 h7), h6⟩
end
end Go.Eng
end
section
/- The abstract machine's rules for parts of slices, for what is owned being told anew, for calls, and for whole functions. -/
namespace Go.Eng
open Go.RowKit
section
variable {P : Program} {c : Ctx} {s : St} {Q : Exit → St → Prop} {ops : Array Oper} {rest : List Oper} {o : Oper}
/-! ### Parts of slices -/
def Ht (fr : List (Nat × D)) : Option Operand → Int → Option Int
 | none, d => some d
 | some x, _ => match opd fr x with
  | .t (.v (.int .i64 k)) => some k
  | _ => none
theorem Bv {v : Value} {x : Int} {y : Nat} (hv : v = .int .i64 x) (h0 : 0 ≤ x) (h1 : x ≤ y) (code : BoundsCode) (w : World) : (Instr.sliceBound v y code).run P w = .ok x.toNat w := by
 subst hv;simp only [Instr.sliceBound, asIntOf, N8, OS, N2, Sem.run_ite];rw [if_pos ⟨h0, h1⟩]
theorem CR {a : Act} {w : World} {F β fb mb ow} (hi : Conc c s a w F β fb mb ow) {x : Operand} {d k : Int} (h : Ht s.fr (some x) d = some k) : a.eval x = .int .i64 k := by
 simp only [Ht] at h;split at h
 ·rename_i hx
  cases h
  obtain ⟨bs, hr, _⟩ := hi.opd x
  rw [hx] at hr;exact Am hr
 ·cases h
theorem DT {ty e : Nat} {ti te : TI} (ht : ti.ok P ty) (hk : ti.kind = .slice e) (he : te.ok P e) {a : Act} {w : World} {F β fb mb ow} (hi : Conc c s a w F β fb mb ow) {lo hi' : Option Operand} {i j : Int} {ad : Option Addr} {len cap : Nat}
  (hlo : Ht s.fr lo 0 = some i) (hhi : Ht s.fr hi' len = some j) (h0 : 0 ≤ i) (h1 : i ≤ j) (h2 : j ≤ len) (h3 : len ≤ cap) :
  (Instr.sliceAt ty (.slice ad len cap) (lo.map a.eval) (hi'.map a.eval) none).run P w =
   .ok (.slice (if cap = i.toNat then ad else ad.map (·.add (i.toNat * te.size))) (j.toNat - i.toNat) (cap - i.toNat)) w := by
 obtain ⟨_, q⟩ := ht
 rw [hk] at q
 cases hi' with
 | none =>
  cases hhi
  cases lo with
  | none =>
   cases hlo
   simp [Instr.sliceAt, run_underlying q.2, Instr.slice, Instr.sliceBounds, Ae he]
  | some x =>
   have hb := fun code => Bv (P := P) (CR hi hlo) h0 h1 code w
   simp [Instr.sliceAt, run_underlying q.2, Instr.slice, Instr.sliceBounds, Ae he, hb]
 | some y =>
  have hb' := fun code => Bv (P := P) (CR hi hhi) (by omega) (show j ≤ (cap : Int) by omega) code w
  cases lo with
  | none =>
   cases hlo
   simp [Instr.sliceAt, run_underlying q.2, Instr.slice, Instr.sliceBounds, Ae he, hb']
  | some x =>
   have hb := fun code => Bv (P := P) (CR hi hlo) h0 (show i ≤ (j.toNat : Int) by omega) code w
   simp [Instr.sliceAt, run_underlying q.2, Instr.slice, Instr.sliceBounds, Ae he, hb, hb']
theorem FG {n : Nat} {xs : List T} (hw : ∀ x, x ∈ xs → (T.cells x).length = n) (m : Nat) : (xs.flatMap T.cells).drop (m * n) = (xs.drop m).flatMap T.cells := by
 rcases Nat.lt_or_ge xs.length m with h | h
 ·rw [List.drop_of_length_le (show xs.length ≤ m by omega), List.drop_of_length_le]
  ·rfl
  ·rw [Ap hw]
   exact Nat.mul_le_mul_right n (by omega)
 ·have e : xs.flatMap T.cells = (xs.take m).flatMap T.cells ++ (xs.drop m).flatMap T.cells := by rw [← List.flatMap_append, List.take_append_drop]
  have hl : ((xs.take m).flatMap T.cells).length = m * n := by
   rw [Ap fun x hx => hw x (OX hx), OO, Nat.min_eq_left h]
  rw [e, ← hl, List.drop_left]
theorem Cm {Γ : Tys} (hΓ : Γ.ok P) {ty e t n : Nat} {x : Operand} {lo hi' : Option Operand} {ti te : TI} {l : List T} {i j : Int} (hg : o.guard = none) (hd : o.dst = some t) (ht : t < c.n) (ho : o.op = .slice ty x lo hi' none)
  (h1 : A7 Γ ty = some ti) (h2 : ti.kind = .slice e) (h3 : A7 Γ e = some te) (h4 : te.size = n) (hx : opd s.fr x = .t (.list n l)) (hlo : Ht s.fr lo 0 = some i) (hhi : Ht s.fr hi' l.length = some j)
  (h5 : 0 ≤ i) (h6 : i ≤ j) (h7 : j ≤ l.length)
  (k : WO P c ops rest ⟨(t, .t (.list n ((l.drop i.toNat).take (j.toNat - i.toNat)))) :: s.fr, s.M⟩ Q) : WO P c ops (o :: rest) s Q := by
 refine BC hg hd ht _ (fun a w F β fb mb ow hi => ?_) k
 obtain ⟨bs, hr, _⟩ := hi.opd x
 rw [hx] at hr;generalize hev : a.eval x = xv at hr
 have hlen : ((l.drop i.toNat).take (j.toNat - i.toNat)).length = j.toNat - i.toNat := by simp; omega
 cases hr with
 | t hr _ =>
  cases hr with
  | @none ad cap _ _ _ _ =>
   simp at h7
   have hi0 : i = 0 := by omega
   have hj0 : j = 0 := by omega
   subst hi0; subst hj0;refine ⟨.slice (if cap = 0 then ad else ad.map (·.add 0)) 0 cap, ?_, .t (.none .nil) .done⟩
   have hrun := DT (P := P) (len := 0) (ad := ad) (cap := cap) (hΓ.get h1) h2 (hΓ.get h3) (a := a) hi hlo hhi (OC 0) (OC 0) (OC 0) (OU cap)
   simp only [execOp, ho, hev, N8, Option.map_none, hrun, N2]
   simp
  | @list b o' cap _ cs _ arr e' fz _ _ q1 q2 q3 q4 q5 q6 _ =>
   have hrun := DT (hΓ.get h1) h2 (hΓ.get h3) (a := a) hi (ad := some ⟨b, o', none⟩) hlo hhi h5 h6 h7 q5
   by_cases hc : cap = i.toNat
   ·have hj : j.toNat - i.toNat = 0 := by omega
    rw [hj, List.take_zero];refine ⟨.slice (some ⟨b, o', none⟩) 0 (cap - i.toNat), ?_, .t (.none .nil) .done⟩;simp only [execOp, ho, hev, N8, Option.map_none, hrun, N2, if_pos hc, hj];rfl
   ·refine ⟨.slice (some ⟨b, o' + i.toNat * te.size, none⟩) ((l.drop i.toNat).take (j.toNat - i.toNat)).length (cap - i.toNat), ?_, ?_⟩
    ·simp only [execOp, ho, hev, N8, Option.map_none, hrun, N2, if_neg hc, hlen, Option.map_some, As]
     rfl
    ·refine .t (.list (cs := (cs.drop (i.toNat * n)).take ((j.toNat - i.toNat) * n)) q1 q2 (fun k hk => ?_) (fun z hz => q4 z (List.mem_of_mem_drop (OX hz))) (by rw [hlen]; omega) ?_ .nil) .done
     ·simp only [OO, OT] at hk
      rw [h4, Nat.add_assoc, q3 _ (by omega)];simp only [List.getElem?_take, List.getElem?_drop];rw [if_pos (by omega)]
     ·have := (q6.drop (i.toNat * n)).take ((j.toNat - i.toNat) * n)
      rw [FG q4, Bf fun z hz => q4 z (List.mem_of_mem_drop hz)] at this;exact this
theorem LP {Γ : Tys} (hΓ : Γ.ok P) {ty e t n id off len : Nat} {x : Operand} {lo hi' : Option Operand} {ti te : TI} {xs : List T} {i j : Int} (hg : o.guard = none) (hd : o.dst = some t) (ht : t < c.n) (ho : o.op = .slice ty x lo hi' none)
  (h1 : A7 Γ ty = some ti) (h2 : ti.kind = .slice e) (h3 : A7 Γ e = some te) (h4 : te.size = n) (hx : opd s.fr x = .sl id off len) (hM : lookM s.M id = some (.L n xs)) (hlo : Ht s.fr lo 0 = some i) (hhi : Ht s.fr hi' len = some j)
  (h5 : 0 ≤ i) (h6 : i ≤ j) (h7 : j ≤ len)
  (k : WO P c ops rest ⟨(t, .sl id (off + i.toNat) (j.toNat - i.toNat)) :: s.fr, s.M⟩ Q) : WO P c ops (o :: rest) s Q := by
 refine BC hg hd ht _ (fun a w F β fb mb ow hi => ?_) k
 obtain ⟨bs, hr, _⟩ := hi.opd x
 rw [hx] at hr
 have hm := hi.mem id
 rw [hM] at hm;generalize hev : a.eval x = xv at hr
 cases hr with
 | @slnil _ ad _ _ _ q1 _ =>
  have hi0 : i = 0 := by omega
  have hj0 : j = 0 := by omega
  subst hi0; subst hj0;refine ⟨.slice ad 0 0, ?_, .slnil q1 .done⟩
  have hrun := DT (P := P) (len := 0) (ad := ad) (cap := 0) (hΓ.get h1) h2 (hΓ.get h3) (a := a) hi hlo hhi (OC 0) (OC 0) (OC 0) (OU 0)
  simp only [execOp, ho, hev, N8, Option.map_none, hrun, N2]
  simp
 | @sl _ _ _ ad b n' cp k' _ _ _ q1 q2 q3 q4 _ =>
  have hn : n' = n := by
   rcases hm with ⟨h, _⟩ | ⟨_, _, _, _, _, h, _⟩
   ·rw [h] at q1; cases q1
   ·rw [h] at q1; cases q1; rfl
  subst hn;refine ⟨_, ?_, .sl (k := k' - i.toNat) (a := if k' = i.toNat then ad else ad.map (·.add (i.toNat * te.size))) q1 (by omega) (by omega) (fun hne => ?_) .done⟩
  ·simp only [execOp, ho, hev, N8, Option.map_none, DT (hΓ.get h1) h2 (hΓ.get h3) hi hlo hhi h5 h6 h7 q2, N2]
   rfl
  ·rw [if_neg (by omega), q4 (by omega), h4]
   simp [As, Nat.add_mul]
/-! ### What is owned, told anew -/
theorem Le.gather {u id n len : Nat} {xs : List T} (h1 : look s.fr u = .sl id 0 len) (hM : lookM s.M id = some (.L n xs)) (hl : len ≤ xs.length) :
  Le c s ⟨(u, .own (.list n (xs.take len))) :: s.fr, dropM (some id) s.M⟩ := by
 classical
 rintro a w ⟨F, β, fb, mb, ow, hi⟩
 have hr := hi.fr u
 rw [h1] at hr
 have hm := hi.mem id
 rw [hM] at hm
 have hml : (xs.take len).length = len := by simp; omega
 have key : ∃ bs, OwnL w [a.tmps.getD u undef] [.list n (xs.take len)] bs ∧ bs.Nodup ∧ ∀ b, b ∈ bs → b ∈ mb id := by
  generalize a.tmps.getD u undef = xv at hr
  rcases hm with ⟨r1, r2, r3⟩ | ⟨b, cap, arr, e', bs', r1, r2, r3, r4, r5, r6, r7, r8⟩
  ·subst r2
   cases hr with
   | slnil _ _ => exact ⟨[], by simpa using OwnL.none .nil, by simp, by simp⟩
   | sl p1 _ _ _ _ => rw [r1] at p1; cases p1
  ·cases hr with
   | slnil p1 _ => rw [r1] at p1; cases p1
   | @sl _ _ _ ad _ _ _ k' _ _ _ p1 p2 p3 p4 _ =>
    rw [r1] at p1;cases p1
    have hkc : k' = cap := by omega
    subst hkc
    by_cases h0 : k' = 0
    ·subst h0
     have : len = 0 := by omega
     subst this;exact ⟨[], by simpa using OwnL.none .nil, by simp, by simp⟩
    ·obtain ⟨c1, c2, hc, ho1, _⟩ := r7.split (len * n)
     rw [Bf r4, List.take_take, Nat.min_eq_left (Nat.mul_le_mul_right _ hl)] at ho1
     have hnd := hi.nmem id
     rw [r8, hc] at hnd
     have had := p4 h0
     simp only [Nat.zero_mul] at had;subst had;refine ⟨b :: c1, ?_, N7.2 ⟨fun h => (N7.1 hnd).1 (by simp [h]), (N5.1 (N7.1 hnd).2).1⟩, fun b' hb' => by rw [r8, hc]; rcases N6.1 hb' with rfl | h <;> simp [*]⟩
     have := OwnL.list (xs := xs.take len) (n := n) (cap := k') r2 r3 (by rw [hml]) (fun x hx => r4 x (OX hx)) (by rw [hml]; exact p2) r6 ho1 .nil
     rw [hml] at this
     simpa using this
 obtain ⟨bs, k1, k2, k3⟩ := key
 refine ⟨F, β, fun v => if u = v then bs else fb v, fun i => if i = id then [] else if lookM (dropM (some id) s.M) i = lookM s.M i then mb i else [], fun b => if b ∈ bs then some (.inl u) else ow b, ?_⟩;refine { hi with fr := fun v => ?_, mem := fun i => ?_, ofr := fun v b hb => ?_, omem := fun i b hb => ?_, nfr := fun v => ?_, nmem := fun i => ?_, own := fun b hb => ?_ }
 ·simp only [look]
  split
  ·rename_i e; subst e; simpa using RelD.own (F := F) (β := β) k1 .done
  ·exact hi.fr v
 ·rcases look_dropM (some id) s.M i with h | ⟨h5, h6⟩
  ·rw [h]
   show (if i = id then ([] : List Nat) else if none = lookM s.M i then mb i else []) = [];split
   ·rfl
   ·split
    ·rename_i e
     have := hi.mem i
     rw [← e] at this;exact this
    ·rfl
  ·rw [if_neg (fun e => h5 (by rw [e])), if_pos h6, h6]
   exact hi.mem i
 ·split at hb
  ·rename_i e; subst e; rw [if_pos hb]
  ·have h5 := hi.ofr v b hb
   rw [if_neg (fun h => ?_)]
   ·exact h5
   ·rw [hi.omem id b (k3 b h)] at h5; cases h5
 ·split at hb
  ·cases hb
  ·split at hb
   ·have h5 := hi.omem i b hb
    rw [if_neg (fun h => ?_)]
    ·exact h5
    ·rename_i hne _
     rw [hi.omem id b (k3 b h)] at h5; cases h5; exact hne rfl
   ·cases hb
 ·split
  ·exact k2
  ·exact hi.nfr v
 ·split
  ·simp
  ·split
   ·exact hi.nmem i
   ·simp
 ·split at hb
  ·rename_i h
   exact hi.own b (by rw [hi.omem id b (k3 b h)]; simp)
  ·exact hi.own b hb
theorem Le.adopt {u n : Nat} {xs : List T} (id : Nat) (h1 : look s.fr u = .own (.list n xs)) :
  Le c s ⟨(u, .sl id 0 xs.length) :: killF id s.fr, (id, .L n xs) :: killM id s.M⟩ := by
 rintro a w ⟨F, β, fb, mb, ow, hi⟩
 have hr := hi.fr u
 rw [h1] at hr
 have hu : u < c.n := by
  rcases Nat.lt_or_ge u c.n with h | h
  ·exact h
  ·rw [← hi.tmps] at h
   rw [Ny, Array.getElem?_eq_none h] at hr;generalize fb u = bs at hr
   cases hr with
   | own h1 _ => cases h1
 have hput : a.put (some u) (a.tmps.getD u undef) = a := by
  have hlt : u < a.tmps.size := by rw [hi.tmps]; exact hu
  cases a with
  | mk tm df =>
   simp only [Act.put]
   congr 1
   have hlt : u < tm.size := hlt
   rw [Ny, Array.getElem?_eq_getElem hlt]
   simp [Array.setIfInBounds, hlt]
 generalize hev : a.tmps.getD u undef = xv at hr hput;generalize hbs : fb u = bs at hr
 have hob : ∀ b, b ∈ bs → ow b = some (.inl u) := fun b hb => hi.ofr u b (by rw [hbs]; exact hb)
 have hnd : bs.Nodup := by rw [← hbs]; exact hi.nfr u
 have fin : ∀ (pl : Option (Nat × Nat × Nat)) , RelB w F (fun i => if i = id then pl else β i) id (.L n xs) bs → RelD w F (fun i => if i = id then pl else β i) [xv] [.sl id 0 xs.length] [] →
   Is c ⟨(u, .sl id 0 xs.length) :: killF id s.fr, (id, .L n xs) :: killM id s.M⟩ a w := by
  intro pl hB hD
  have hβ : ∀ i, i ≠ id → (fun i => if i = id then pl else β i) i = β i := fun i h => by simp [h]
  refine hi.renew (a' := a) (w' := w) id (Anew.kill hβ) (fun y => y = .inl u) bs (.L n xs) (some (u, xv, .sl id 0 xs.length)) hput.symm ?_ rfl rfl rfl (OJ _) (fun _ _ _ => rfl) ?_ (by simp [lookM]) hB hnd (fun b hb => .inr ⟨_, hob b hb, .inl rfl⟩) ?_
  ·rintro t' v d h; cases h; exact ⟨hu, hD, by simp [look]⟩
  ·intro v hv
   have hne := hv _ _ _ rfl
   exact .inl ⟨by simp only [look, if_neg (Ne.symm hne), BS], by simpa using hne⟩
  ·intro i h
   exact .inr ⟨by simp, by simp only [lookM, if_neg (Ne.symm h), BR]⟩
 cases hr with
 | own h2 h3 =>
  cases h3
  cases h2 with
  | @none ad _ _ _ _ h4 =>
   cases h4;exact fin none (.inl ⟨by simp, rfl, by simp⟩) (.slnil (by simp) .done)
  | list q1 q2 q3 q4 q5 q6 q7 q8 =>
   cases q8
   rename_i b cap cs arr e bs1
   refine fin (some (b, n, cap)) (.inr ⟨b, cap, arr, e, bs1, by simp, q1, q2, q4, q5, q6, by rw [q3]; exact q7, by simp⟩) ?_;exact .sl (b := b) (n := n) (c := cap) (by simp) q5 (by simp) (by simp) .done
end
end Go.Eng
end
section
/- The abstract machine's rules for calls, and for whole functions. -/
namespace Go.Eng
open Go.RowKit
def BJ (P : Program) (f : FuncId) : Prop := ∃ fn, P.funcs[f]? = some fn ∧ fn.body.isNone = false ∧ (fn.name == "runtime.NumGoroutine") = false
def Fun (P : Program) (f : FuncId) (ds : List D) (r : D) : Prop := BJ P f ∧ Pure P f ds r
inductive ResL (s : St) : List D → List D → Prop
 | done : ResL s [] []
 | t {x ds es} : ResL s ds es → ResL s (.t x :: ds) (.t x :: es)
 | nil {ds es} (n : Nat) : ResL s ds es → ResL s (.nil :: ds) (.t (.list n []) :: es)
 | nil' {ds es} : ResL s ds es → ResL s (.nil :: ds) (.nil :: es)
 | own {n l ds es} : ResL s ds es → ResL s (.own (.list n l) :: ds) (.t (.list n l) :: es)
 | sl {id off len n xs ds es} : lookM s.M id = some (.L n xs) → off + len ≤ xs.length → ResL s ds es → ResL s (.sl id off len :: ds) (.t (.list n ((xs.drop off).take len)) :: es)
 | ref {id off cells ts ds es} : lookM s.M id = some (.box cells) → ResL s cells (ts.map D.t) → ResL s ds es → ResL s (.ref id 0 off :: ds) (.rp (.agg ts) off :: es)
 | rp {x off ds es} : ResL s ds es → ResL s (.rp x off :: ds) (.rp x off :: es)
 | agg {l l' ds es} : ResL s l l' → ResL s ds es → ResL s (.agg l :: ds) (.agg l' :: es)
 | aggT {l ts ds es} : ResL s l (ts.map D.t) → ResL s ds es → ResL s (.agg l :: ds) (.t (.agg ts) :: es)
 | clo {f l l' ds es} : ResL s l l' → ResL s ds es → ResL s (.clo f l :: ds) (.clo f l' :: es)
 | top {d ds es} : ResL s ds es → ResL s (d :: ds) (.top :: es)
 | raw {id j m : Nat} {u : Value} {zs : List T} {vs : List Value} {ts : List T} {ds es : List D} : lookM s.M id = some (.rawV vs ts) → vs[j]? = some u → ts[j]? = some (T.list m zs) → ResL s ds es → ResL s (.t (.v u) :: ds) (.t (.list m zs) :: es)
 | rawA {id : Nat} {vs : List Value} {ts : List T} {cells ds es : List D} : lookM s.M id = some (.rawV vs ts) → cells = vs.map (fun u => D.t (.v u)) → ResL s ds es → ResL s (.agg cells :: ds) (.t (.agg ts) :: es)
 | rawU {id : Nat} {vs : List Value} {ts ts' : List T} {cells ds es : List D} : lookM s.M id = some (.rawV vs ts) → cells = vs.map (fun u => D.t (.v u)) → ts.map T.unsub = ts' → ResL s ds es → ResL s (.agg cells :: ds) (.t (.agg ts') :: es)
 | rawS {id j : Nat} {u : Value} {zs : List T} {vs : List Value} {ts : List T} {ds es : List D} : lookM s.M id = some (.rawV vs ts) → vs[j]? = some u → ts[j]? = some (T.sub zs) → ResL s ds es → ResL s (.t (.v u) :: ds) (.t (.list 1 zs) :: es)
 | ownU {xs : List T} {ds es : List D} : ResL s ds es → ResL s (.own (.sub xs) :: ds) (.t (.list 1 xs) :: es)
def D.noImm : D → Bool
 | .t (.v _) => true
 | .own _ => true
 | .nil => true
 | .top => true
 | .agg l | .tup l => noImmL l
 | _ => false
where noImmL : List D → Bool
 | [] => true
 | d :: l => d.noImm && noImmL l
def D.closed : D → Bool
 | .t _ | .own _ | .nil | .top | .rp _ _ => true
 | .agg l | .tup l | .clo _ l => closedL l
 | _ => false
where closedL : List D → Bool
 | [] => true
 | d :: l => d.closed && closedL l
theorem RelD.noImm {w : World} {F F' : Nat → Prop} {β β' : Ag} {vs ds bs} (h : RelD w F β vs ds bs) (hh : D.noImm.noImmL ds = true) : RelD w F' β' vs ds bs := by
 induction h with
 | done => exact .done
 | agg h0 _ _ ih1 ih2 => simp only [D.noImm.noImmL, D.noImm, Nv] at hh; exact .agg h0 (ih1 hh.1) (ih2 hh.2)
 | clo _ _ ih1 ih2 => simp [D.noImm.noImmL, D.noImm] at hh
 | tup _ _ ih1 ih2 => simp only [D.noImm.noImmL, D.noImm, Nv] at hh; exact .tup (ih1 hh.1) (ih2 hh.2)
 | t h1 _ ih =>
  simp only [D.noImm.noImmL, Nv] at hh
  cases h1 with
  | v h2 h3 => exact .t (.v h2 .nil) (ih hh.2)
  | none _ => simp [D.noImm] at hh
  | list _ _ _ _ _ _ _ => simp [D.noImm] at hh
  | sub _ _ => simp [D.noImm] at hh
 | tagg h1 _ ih => simp [D.noImm.noImmL, D.noImm] at hh
 | nil _ ih => simp only [D.noImm.noImmL, Nv] at hh; exact .nil (ih hh.2)
 | ref h1 _ ih => simp [D.noImm.noImmL, D.noImm] at hh
 | sl h1 h2 h3 h4 _ ih => simp [D.noImm.noImmL, D.noImm] at hh
 | slnil h1 _ ih => simp [D.noImm.noImmL, D.noImm] at hh
 | rp h1 h2 h3 h4 _ ih => simp [D.noImm.noImmL, D.noImm] at hh
 | own h1 _ ih => simp only [D.noImm.noImmL, Nv] at hh; exact .own h1 (ih hh.2)
 | top _ ih => simp only [D.noImm.noImmL, Nv] at hh; exact .top (ih hh.2)
theorem RelD.closed {w : World} {F : Nat → Prop} {β β' : Ag} {vs ds bs} (h : RelD w F β vs ds bs) (hh : D.closed.closedL ds = true) : RelD w F β' vs ds bs := by
 induction h with
 | done => exact .done
 | agg h0 _ _ ih1 ih2 => simp only [D.closed.closedL, D.closed, Nv] at hh; exact .agg h0 (ih1 hh.1) (ih2 hh.2)
 | clo _ _ ih1 ih2 => simp only [D.closed.closedL, D.closed, Nv] at hh; exact .clo (ih1 hh.1) (ih2 hh.2)
 | tup _ _ ih1 ih2 => simp only [D.closed.closedL, D.closed, Nv] at hh; exact .tup (ih1 hh.1) (ih2 hh.2)
 | t h1 _ ih => simp only [D.closed.closedL, Nv] at hh; exact .t h1 (ih hh.2)
 | tagg h1 _ ih => simp only [D.closed.closedL, Nv] at hh; exact .tagg h1 (ih hh.2)
 | nil _ ih => simp only [D.closed.closedL, Nv] at hh; exact .nil (ih hh.2)
 | ref h1 _ ih => simp [D.closed.closedL, D.closed] at hh
 | sl h1 h2 h3 h4 _ ih => simp [D.closed.closedL, D.closed] at hh
 | slnil h1 _ ih => simp [D.closed.closedL, D.closed] at hh
 | rp h1 h2 h3 h4 _ ih => simp only [D.closed.closedL, Nv] at hh; exact .rp h1 h2 h3 h4 (ih hh.2)
 | own h1 _ ih => simp only [D.closed.closedL, Nv] at hh; exact .own h1 (ih hh.2)
 | top _ ih => simp only [D.closed.closedL, Nv] at hh; exact .top (ih hh.2)
section
variable {P : Program} {c : Ctx} {s : St} {Q : Exit → St → Prop} {ops : Array Oper} {rest : List Oper} {o : Oper}
theorem Cr {w : World} {F : Nat → Prop} {β : Ag} : ∀ {vs ts bs}, RelD w F β vs (ts.map D.t) bs → vs.all (·.oneCell') = true → RelL w F vs ts
 | [], [], _, _, _ => .nil
 | [], _ :: _, _, h, _ => by cases h
 | _ :: _, [], _, h, _ => by cases h
 | v :: vs, t :: ts, _, h, h1 => by
  rw [OP, Nv] at h1
  cases h with
  | t h2 h3 => exact RelL.cons' h2 (Cr h3 h1.2)
  | tagg h2 h3 => simp [Value.oneCell'] at h1
theorem RelL.unsub {w : World} {F : Nat → Prop} {vs : List Value} {ts : List T} (h : RelL w F vs ts) : RelL w F vs (ts.map T.unsub) := by
 induction h with
 | nil => exact .nil
 | v h _ ih => exact .v h ih
 | none _ ih => exact .none ih
 | list h1 h2 h3 h4 h5 h6 _ _ ih => exact .list h1 h2 h3 h4 h5 h6 ih
 | sub h1 _ _ ih => exact RelL.cons' h1 ih
theorem Ea {w : World} {F : Nat → Prop} {β : Ag} : ∀ {us vs : List Value} {bs : List Nat}, RelD w F β vs (us.map fun u => D.t (.v u)) bs → vs = us
 | [], _, _, h => by cases h; rfl
 | u :: us, vs, _, h => by
  rw [OV] at h
  cases h with
  | t h1 h2 => rw [Ea h2, DW h1]
theorem ResL.sound {a : Act} {w : World} {F β fb mb ow} (hi : Conc c s a w F β fb mb ow) {ds es : List D} (h : ResL s ds es) : ∀ {vs bs}, RelD w F β vs ds bs → (∀ b, b ∈ bs → b < w.heap.size) →
  RelD w (fun b => b < w.heap.size) (fun _ => none) vs es [] := by
 have hFa : ∀ b, F b → b < w.heap.size := hi.fin
 induction h with
 | done => intro vs bs hr _; cases hr; exact .done
 | t _ ih =>
  intro vs bs hr hb
  cases hr with
  | t h1 h2 => exact .t (h1.mono hFa fun _ _ => rfl) (ih h2 hb)
  | tagg h1 h2 => exact .tagg (h1.mono hFa fun _ _ => rfl) (ih h2 hb)
 | nil n _ ih =>
  intro vs bs hr hb
  cases hr with
  | nil h2 => exact .t (.none .nil) (ih h2 hb)
 | nil' _ ih =>
  intro vs bs hr hb
  cases hr with
  | nil h2 => exact .nil (ih h2 hb)
 | own _ ih =>
  intro vs bs hr hb
  cases hr with
  | own h1 h2 => exact .t (h1.rel fun b h => hb b (by simp [h])) (ih h2 fun b h => hb b (by simp [h]))
 | @sl id off len n xs ds es hM hle _ ih =>
  intro vs bs hr hb
  have hm := hi.mem id
  rw [hM] at hm
  have hlen : ((xs.drop off).take len).length = len := by simp; omega
  cases hr with
  | slnil q1 q2 =>
   refine .t ?_ (ih q2 hb);rw [List.take_zero];exact .none .nil
  | @sl _ _ _ ad b n' cap k _ _ _ q1 q2 q3 q4 q5 =>
   refine .t ?_ (ih q5 hb)
   rcases hm with ⟨h, _⟩ | ⟨b1, cap1, arr, e, bs1, h1, h2, h3, h4, h5, h6, h7, h8⟩
   ·rw [h] at q1; cases q1
   ·rw [h1] at q1
    cases q1
    by_cases h0 : k = 0
    ·have hl0 : len = 0 := by omega
     subst hl0;rw [List.take_zero];exact .none .nil
    ·have := q4 h0
     subst this
     have hrel := h7.rel (F := fun b => b < w.heap.size) fun b' hb' => (hi.own b' (by rw [hi.omem id b' (by rw [h8]; simp [hb'])]; simp)).2.1
     have h9 := (hrel.drop (off * n)).take (len * n)
     rw [FG h4, Bf fun z hz => h4 z (List.mem_of_mem_drop hz)] at h9
     have h10 := RelL.list (o := off * n) (cap := k) (xs := (xs.drop off).take len) (n := n) (fz := (0, 0)) (F := fun b => b < w.heap.size) (hi.own b (by rw [hi.omem id b (by rw [h8]; simp)]; simp)).2.1 h2 (fun j hj => by
      simp only [OO, OT, OD] at hj;simp only [List.getElem?_take, List.getElem?_drop];rw [if_pos (by omega), if_pos (by omega)]
      simp) (fun z hz => h4 z (List.mem_of_mem_drop (OX hz))) (by rw [hlen]; exact q2) h9 .nil
     rw [hlen] at h10;exact h10
 | @ref id off cells ts ds es hM _ _ ih1 ih2 =>
  intro vs bs hr hb
  have hm := hi.mem id
  rw [hM] at hm
  obtain ⟨b, arr, e, bs', h1, h2, h3, h4, h5⟩ := hm
  cases hr with
  | ref q1 q2 =>
   rw [h1] at q1;cases q1
   have hin : ∀ b', b' ∈ mb id → b' < w.heap.size := fun b' hb' => (hi.own b' (by rw [hi.omem id b' hb']; simp)).2.1
   have h6 := ih1 h3 fun b' hb' => hin b' (by rw [h5]; simp [hb'])
   rw [Nat.zero_mul];exact .rp (o := 0) (cs := arr.toList) (hin b (by rw [h5]; simp)) h2 (by simp) (Cr h6 h4) (ih2 q2 hb)
 | rp _ ih =>
  intro vs bs hr hb
  cases hr with
  | rp q1 q2 q3 q4 q5 => exact .rp (hFa _ q1) q2 q3 (q4.mono hFa fun _ _ => rfl) (ih q5 hb)
 | agg _ _ ih1 ih2 =>
  intro vs bs hr hb
  cases hr with
  | agg h0 h1 h2 => exact .agg h0 (ih1 h1 fun b h => hb b (by simp [h])) (ih2 h2 fun b h => hb b (by simp [h]))
 | aggT _ _ ih1 ih2 =>
  intro vs bs hr hb
  cases hr with
  | agg h0 h1 h2 => exact .tagg (Cr (ih1 h1 fun b h => hb b (by simp [h])) h0) (ih2 h2 fun b h => hb b (by simp [h]))
 | clo _ _ ih1 ih2 =>
  intro vs bs hr hb
  cases hr with
  | clo h1 h2 => exact .clo (ih1 h1 fun b h => hb b (by simp [h])) (ih2 h2 fun b h => hb b (by simp [h]))
 | @raw id j m u zs us ts ds es hM hu ht _ ih =>
  intro vs bs hr hb
  have hm := hi.mem id
  rw [hM] at hm
  have hrel := OwnL.rel (F := fun b => b < w.heap.size) hm fun b hb' => (hi.own b (by rw [hi.omem id b hb']; simp)).2.1
  obtain ⟨v', h1, h2⟩ := hrel.get j ht
  rw [hu] at h1;cases h1
  cases hr with
  | t q1 q2 =>
   have e := DW q1
   subst e;exact .t h2 (ih q2 hb)
 | @rawA id us ts cells ds es hM hc _ ih =>
  intro vs bs hr hb;subst hc
  have hm := hi.mem id
  rw [hM] at hm
  have hrel := OwnL.rel (F := fun b => b < w.heap.size) hm fun b hb' => (hi.own b (by rw [hi.omem id b hb']; simp)).2.1
  cases hr with
  | agg h0 h1 h2 =>
   rw [← Ea h1] at hrel;exact .tagg hrel (ih h2 fun b h => hb b (by simp [h]))
 | @rawU id us ts ts' cells ds es hM hc hu _ ih =>
  intro vs bs hr hb;subst hc; subst hu
  have hm := hi.mem id
  rw [hM] at hm
  have hrel := (OwnL.rel (F := fun b => b < w.heap.size) hm fun b hb' => (hi.own b (by rw [hi.omem id b hb']; simp)).2.1).unsub
  cases hr with
  | agg h0 h1 h2 =>
   rw [← Ea h1] at hrel;exact .tagg hrel (ih h2 fun b h => hb b (by simp [h]))
 | @rawS id j u zs us ts ds es hM hu ht _ ih =>
  intro vs bs hr hb
  have hm := hi.mem id
  rw [hM] at hm
  have hrel := OwnL.rel (F := fun b => b < w.heap.size) hm fun b hb' => (hi.own b (by rw [hi.omem id b hb']; simp)).2.1
  obtain ⟨v', h1, h2⟩ := hrel.get j ht
  rw [hu] at h1;cases h1
  cases hr with
  | t q1 q2 =>
   have e := DW q1
   subst e
   cases h2 with
   | sub q _ => exact .t q (ih q2 hb)
 | ownU _ ih =>
  intro vs bs hr hb
  cases hr with
  | own h1 h2 =>
   refine .t ?_ (ih h2 fun b h => hb b (by simp [h]))
   have h3 := h1.rel (F := fun b => b < w.heap.size) fun b h => hb b (by simp [h])
   cases h3 with
   | sub q _ => exact q
 | top _ ih =>
  intro vs bs hr hb
  cases vs with
  | nil => cases hr
  | cons v vs =>
   obtain ⟨b1, b2, _, h2, rfl⟩ := hr.cons
   exact .top (ih h2 fun b h => hb b (by simp [h]))
theorem Conc.called {a : Act} {w w' : World} {F F2 : Nat → Prop} {β fb mb ow} (hi : Conc c s a w F β fb mb ow) {t : Nat} (ht : t < c.n) {v : Value} {r : D} {bs : List Nat} (hb : Below w.heap.size w w') (hF : ∀ b, F b → F2 b)
  (hF2 : ∀ b, F2 b → F b ∨ (w.heap.size ≤ b ∧ b < w'.heap.size)) (hr : RelD w' F2 β [v] [r] bs) (hnd : bs.Nodup) (hbs : ∀ b, b ∈ bs → w.heap.size ≤ b ∧ b < w'.heap.size ∧ ¬ F2 b) :
  Conc c ⟨(t, r) :: s.fr, s.M⟩ (a.put (some t) v) w' F2 β (fun u => if t = u then bs else fb u) mb (fun b => if b ∈ bs then some (.inl t) else ow b) := by
 have hFw : ∀ b, F b → w'.heap[b]? = w.heap[b]? := fun b h => hb.block b (hi.fin b h)
 have how : ∀ b, ow b ≠ none → w'.heap[b]? = w.heap[b]? := fun b h => hb.block b (hi.own b h).2.1
 have hnot : ∀ b, ow b ≠ none → b ∉ bs := fun b h h' => by have := (hi.own b h).2.1; have := (hbs b h').1; omega
 exact { hi with
  fr := fun u => by
   rw [Bs _ _ _ _ (by rw [hi.tmps]; exact ht)];simp only [look];split
   ·exact hr
   ·exact (hi.fr u).mono hF hFw (fun b h => how b (by rw [hi.ofr u b h]; simp)) fun _ => rfl
  mem := fun id => by
   have := hi.mem id
   cases h : lookM s.M id with
   | none => rw [h] at this; exact this
   | some k =>
    rw [h] at this
    have h2 := RelB.mono this hFw fun b h => how b (by rw [hi.omem id b h]; simp)
    cases k with
    | L n xs => exact h2
    | box cells =>
     obtain ⟨b, arr, e, bs', q1, q2, q3, q4, q5⟩ := h2
     exact ⟨b, arr, e, bs', q1, q2, q3.mono hF (fun _ _ => rfl) (fun _ _ => rfl) fun _ => rfl, q4, q5⟩
    | raw b sz vs ts => exact h2
    | rawV vs ts => exact h2
    | ro vs ts => exact ⟨h2.1.mono hF (fun _ _ => rfl), h2.2⟩
    | pin j b n c => exact h2
    | obox pv cells =>
     rcases h2 with h2 | ⟨b, arr, e, bs', q1, q2, q3, q4, q5⟩
     ·exact .inl h2
     ·exact .inr ⟨b, arr, e, bs', q1, q2, q3.mono hF (fun _ _ => rfl) (fun _ _ => rfl) fun _ => rfl, q4, q5⟩
    | bld T e b l => exact h2
    | row b cap n xs => exact h2
  ofr := fun u b h => by
   split at h
   ·rename_i e; subst e; rw [if_pos h]
   ·have h1 := hi.ofr u b h
    rw [if_neg (hnot b (by rw [h1]; simp))]; exact h1
  omem := fun id b h => by
   have h1 := hi.omem id b h
   rw [if_neg (hnot b (by rw [h1]; simp))]; exact h1
  nfr := fun u => by
   split
   ·exact hnd
   ·exact hi.nfr u
  own := fun b h => by
   split at h
   ·rename_i h1
    obtain ⟨h2, h3, h4⟩ := hbs b h1
    exact ⟨h4, h3, .inl (Nat.le_trans hi.size h2)⟩
   ·obtain ⟨h2, h3, h4⟩ := hi.own b h
    refine ⟨fun h5 => ?_, Od h3 hb.size, h4⟩
    rcases hF2 b h5 with h6 | h6
    ·exact h2 h6
    ·omega
  fin := fun b h => by
   rcases hF2 b h with h6 | h6
   ·exact Od (hi.fin b h6) hb.size
   ·exact h6.2
  f0 := fun b h => hF b (hi.f0 b h)
  fnew := fun b h => by
   rcases hF2 b h with h6 | h6
   ·exact hi.fnew b h6
   ·exact .inr (.inl (Nat.le_trans hi.size h6.1))
  os := hb.os.trans hi.os
  tape := hb.tape.trans hi.tape
  output := hb.output.trans hi.output
  size := Nat.le_trans hi.size hb.size
  keep := fun b h hg => (hb.block b (Od h hi.size)).trans (hi.keep b h hg)
  defers := (BT a _ v).trans hi.defers
  tmps := (B4 a _ v).trans hi.tmps }
theorem A9 {f : FuncId} (h : BJ P f) (args : Array Value) (w : World) : (callFunc f args).run P w = .ok (.enter f args) w := by
 obtain ⟨fn, h1, h2, h3⟩ := h
 have h4 : ¬ fn.name = "runtime.NumGoroutine" := by simpa using h3
 have h5 : ¬ fn.body = none := by cases hb : fn.body <;> simp_all
 simp [callFunc, h1, h4, h5]
theorem DX {a : Act} {w : World} {F β fb mb ow} (h : Conc c s a w F β fb mb ow) : ∀ l : List Operand, ∃ bs, RelD w F β (l.map a.eval) (l.map (opd s.fr)) bs ∧ ∀ b, b ∈ bs → b < w.heap.size
 | [] => ⟨[], .done, by simp⟩
 | x :: l => by
  obtain ⟨bs, hr, h1⟩ := h.opd x
  obtain ⟨bs', hr', h2⟩ := DX h l
  refine ⟨bs ++ bs', RelD.cons' hr hr', fun b hb => ?_⟩
  rcases N3.1 hb with hb | hb
  ·rcases h1 with rfl | ⟨t, _, rfl⟩
   ·cases hb
   ·exact (h.own b (by rw [h.ofr t b hb]; simp)).2.1
  ·exact h2 b hb
theorem BA {w : World} {F : Nat → Prop} {β : Ag} {v : Value} {f : FuncId} {l : List D} {bs : List Nat} (h : RelD w F β [v] [.clo f l] bs) : ∃ arr bs', v = .func (.func f) #[] arr ∧ RelD w F β arr.toList l bs' ∧ bs' = bs := by
 cases h with
 | clo h1 h2 => cases h2; exact ⟨_, _, rfl, h1, by simp⟩
theorem Ba {t : Nat} {fo : Operand} {args : Array Operand} {tys : Array TypeId} {f : FuncId} {caps es : List D} {r : D} (hg : o.guard = none) (hd : o.dst = some t) (ht : t < c.n)
  (ho : o.op = .call { callee := .value fo, args := args, argTypes := tys }) (hf : opd s.fr fo = .clo f caps) (hes : ResL s (args.toList.map (opd s.fr) ++ caps) es) (hc : Fun P f es r) (hn : r.noImm = true)
  (k : WO P c ops rest ⟨(t, r) :: s.fr, s.M⟩ Q) : WO P c ops (o :: rest) s Q := by
 rintro a w ⟨F, β, fb, mb, ow, hi⟩
 obtain ⟨bf, hrf, h1⟩ := hi.opd fo
 rw [hf] at hrf
 obtain ⟨arr, bs', hv, hr1, rfl⟩ := BA hrf
 obtain ⟨bs, hr2, h2⟩ := DX hi args.toList
 have hall := hr2.append hr1
 have hsound := hes.sound hi hall fun b hb => by
  rcases N3.1 hb with hb | hb
  ·exact h2 b hb
  ·rcases h1 with rfl | ⟨u, _, rfl⟩
   ·cases hb
   ·exact (hi.own b (by rw [hi.ofr u b hb]; simp)).2.1
 have hrun : (execOp a.eval o).run P w = .ok (.enter f (args.map a.eval ++ arr)) w := by
  simp [execOp, ho, resolve, hv, Deferred.ofValue, invoke, A9 hc.1]
 refine wpList_plain hg fun K hK => ?_
 unfold Oper.wp;rw [hrun, Oper.upon_enter];refine (hc.2 w (fun b => b < w.heap.size) (args.map a.eval ++ arr) (fun b h => h) (by simpa using hsound)).mono ?_
 rintro e w' ⟨v, F', bs2, rfl, hb, _, _, hr, hnd, hbs⟩
 dsimp only;rw [hd];refine hK _ _ (k _ _ ⟨F, β, _, mb, _, hi.called ht hb (fun _ h => h) (fun _ h => .inl h) (hr.noImm (by simp [D.noImm.noImmL, hn])) hnd fun b h => ?_⟩)
 obtain ⟨h3, h4, h5⟩ := hbs b h
 exact ⟨h3, h4, fun h6 => by have := hi.fin b h6; omega⟩
theorem MY {t : Nat} {fo : Operand} {args : Array Operand} {tys : Array TypeId} {f : FuncId} {caps es : List D} {r : D} (hg : o.guard = none) (hd : o.dst = some t) (ht : t < c.n)
  (ho : o.op = .call { callee := .value fo, args := args, argTypes := tys }) (hf : opd s.fr fo = .clo f caps) (hes : args.toList.map (opd s.fr) ++ caps = es) (hcl : D.closed.closedL es = true) (hfr : D.free.freeL es = true)
  (hc : Fun P f es r) (hn : r.closed = true)
  (k : WO P c ops rest ⟨(t, r) :: s.fr, s.M⟩ Q) : WO P c ops (o :: rest) s Q := by
 rintro a w ⟨F, β, fb, mb, ow, hi⟩
 obtain ⟨bf, hrf, h1⟩ := hi.opd fo
 rw [hf] at hrf
 obtain ⟨arr, bs', hv, hr1, rfl⟩ := BA hrf
 obtain ⟨bs, hr2, h2⟩ := DX hi args.toList
 have hall := hr2.append hr1
 rw [hes] at hall
 have hb0 := hall.free hfr
 rw [hb0] at hall
 have hrun : (execOp a.eval o).run P w = .ok (.enter f (args.map a.eval ++ arr)) w := by
  simp [execOp, ho, resolve, hv, Deferred.ofValue, invoke, A9 hc.1]
 refine wpList_plain hg fun K hK => ?_
 unfold Oper.wp;rw [hrun, Oper.upon_enter];refine (hc.2 w F (args.map a.eval ++ arr) hi.fin (by simpa using hall.closed (β' := fun _ => none) hcl)).mono ?_
 rintro e w' ⟨v, F', bs2, rfl, hb, hF, hF', hr, hnd, hbs⟩
 dsimp only;rw [hd];exact hK _ _ (k _ _ ⟨F', β, _, mb, _, hi.called ht hb hF hF' (hr.closed (by simp [D.closed.closedL, hn])) hnd hbs⟩)
/-! ### Whole functions -/
theorem RelD.get0 {w : World} {F : Nat → Prop} {β} : ∀ {vs ds} (k : Nat) {d}, RelD w F β vs ds [] → ds[k]? = some d → ∃ v, vs[k]? = some v ∧ RelD w F β [v] [d] []
 | [], [], _, _, _, e => by simp at e
 | [], _ :: _, _, _, h, _ => by cases h
 | _ :: _, [], _, _, h, _ => by cases h
 | x0 :: _, _ :: _, k, _, h, e => by
  obtain ⟨b1, b2, h1, h2, h3⟩ := h.cons
  have hb1 : b1 = [] := by cases b1 with
   | nil => exact rfl
   | cons _ _ => simp at h3
  subst hb1
  have hb2 : b2 = [] := by simpa using h3.symm
  subst hb2
  cases k with
  | zero => simp at e; subst e; exact ⟨x0, rfl, h1⟩
  | succ k =>
   obtain ⟨v, h3, h4⟩ := RelD.get0 k h2 (by simpa using e)
   exact ⟨v, by simpa using h3, h4⟩
def Fm (tmps : Array Value) : ResultVar → Sem Value
 | .tmp t => Pure.pure (tmps.getD t undef)
 | .cell t ty => do loadVar ty (← asAddr (tmps.getD t undef))
theorem CP (fn : Func) (tmps : Array Value) {vs : List Value} {w : World} (h : (fn.results.toList.mapM (Fm tmps)).run P w = .ok vs w) :
  (results fn tmps).run P w = .ok (match vs with | [v] => v | vs => .tuple vs.toArray) w := by
 have e : results fn tmps = (do let vs ← fn.results.mapM (Fm tmps); pure (if h : vs.size = 1 then vs[0] else .tuple vs)) := by
  unfold results
  congr 1
 rw [e, Array.mapM_eq_mapM_toList];simp only [N8, Sem.run_map, h, N2, OS]
 match vs with
 | [] => rfl
 | [v] => rfl
 | _ :: _ :: _ => rfl
def EP (Γ : Tys) (s : St) : List ResultVar → List D → List (Nat ⊕ Nat) → Prop
 | [], [], [] => True
 | .tmp t :: rs, d :: ds, y :: ys => look s.fr t = d ∧ y = .inl t ∧ EP Γ s rs ds ys
 | .cell t ty :: rs, d :: ds, y :: ys => (∃ id cells ti, look s.fr t = .ref id 0 0 ∧ lookM s.M id = some (.box cells) ∧ A7 Γ ty = some ti ∧ ti.kind.isAgg = true ∧ cells.length = ti.size ∧ d = .agg cells ∧ y = .inr id) ∧ EP Γ s rs ds ys
 | _, _, _ => False
def Aq : List D → D
 | [d] => d
 | l => .tup l
theorem DV {Γ : Tys} (hΓ : Γ.ok P) {a : Act} {w : World} {F β fb mb ow} (hi : Conc c s a w F β fb mb ow) : ∀ {rs : List ResultVar} {ds : List D} {ys : List (Nat ⊕ Nat)}, EP Γ s rs ds ys → ys.Nodup →
  ∃ vs bs, (rs.mapM (Fm a.tmps)).run P w = .ok vs w ∧ RelD w F β vs ds bs ∧ bs.Nodup ∧
   ∀ b, b ∈ bs → ∃ y, ow b = some y ∧ y ∈ ys
 | [], [], [], _, _ => ⟨[], [], by simp, .done, by simp, by simp⟩
 | [], _ :: _, _, h, _ => by cases ‹List (Nat ⊕ Nat)› <;> exact h.elim
 | [], [], _ :: _, h, _ => h.elim
 | .tmp t :: rs, [], _, h, _ => by cases ‹List (Nat ⊕ Nat)› <;> exact h.elim
 | .tmp t :: rs, _ :: _, [], h, _ => h.elim
 | .cell t ty :: rs, [], _, h, _ => by cases ‹List (Nat ⊕ Nat)› <;> exact h.elim
 | .cell t ty :: rs, _ :: _, [], h, _ => h.elim
 | .tmp t :: rs, d :: ds, y :: ys, ⟨h1, h2, h3⟩, hn => by
  obtain ⟨hy, hn'⟩ := N7.1 hn
  obtain ⟨vs, bs, q1, q2, q3, q4⟩ := DV hΓ hi h3 hn'
  have hr := hi.fr t
  rw [h1] at hr;subst h2;refine ⟨_ :: vs, fb t ++ bs, ?_, RelD.cons' hr q2, ?_, fun b hb => ?_⟩
  ·rw [List.mapM_cons]
   simp only [Fm, N8, OS, N2];rw [q1];rfl
  ·refine N5.2 ⟨hi.nfr t, q3, fun p hp q hq e => ?_⟩
   subst e
   obtain ⟨y, h5, h6⟩ := q4 p hq
   rw [hi.ofr t p hp] at h5;cases h5;exact hy h6
  ·rcases N3.1 hb with hb | hb
   ·exact ⟨_, hi.ofr t b hb, by simp⟩
   ·obtain ⟨y, h5, h6⟩ := q4 b hb
    exact ⟨y, h5, by simp [h6]⟩
 | .cell t ty :: rs, d :: ds, y :: ys, ⟨⟨id, cells, ti, h1, h2, h3, h4, h5, h6, h7⟩, h8⟩, hn => by
  obtain ⟨hy, hn'⟩ := N7.1 hn
  obtain ⟨vs, bs, q1, q2, q3, q4⟩ := DV hΓ hi h8 hn'
  have hr := hi.fr t
  rw [h1] at hr;subst h7
  have hm := hi.mem id
  rw [h2] at hm
  obtain ⟨b, arr, e, bs1, m1, m2, m3, m4, m5⟩ := hm
  have hnd := hi.nmem id
  rw [m5] at hnd
  have hlen := m3.length
  have hld : (do loadVar ty (← asAddr (a.tmps.getD t undef)) : Sem Value).run P w = .ok (.agg arr) w := by
   generalize a.tmps.getD t undef = xv at hr
   cases hr with
   | ref p1 p2 =>
    rw [m1] at p1;cases p1;simp only [asAddr, N8, OS, N2, Nat.zero_mul, Nat.add_zero]
    have := BV (hΓ.get h3) h4 (w := w) (a := ⟨b, 0, none⟩) (cs := arr.toList) (by rw [hlen, h5]) fun j v hj => by
     rw [As, B2 m2]; simpa using hj
    simpa using this
  refine ⟨.agg arr :: vs, bs1 ++ bs, ?_, ?_, ?_, fun b' hb => ?_⟩
  ·rw [List.mapM_cons, N8]
   have hld' : (Fm a.tmps (.cell t ty)).run P w = .ok (.agg arr) w := hld
   rw [hld'];simp only [N2, N8, q1, OS]
  ·rw [h6]
   exact .agg m4 m3 q2
  ·refine N5.2 ⟨(N7.1 hnd).2, q3, fun p hp q hq e => ?_⟩
   subst e
   obtain ⟨y, h5, h6⟩ := q4 p hq
   rw [hi.omem id p (by rw [m5]; simp [hp])] at h5;cases h5;exact hy h6
  ·rcases N3.1 hb with hb | hb
   ·exact ⟨_, hi.omem id b' (by rw [m5]; simp [hb]), by simp⟩
   ·obtain ⟨y, h5, h6⟩ := q4 b' hb
    exact ⟨y, h5, by simp [h6]⟩
def Ends (Γ : Tys) (fn : Func) (ds : List D) : Exit → St → Prop
 | .normal, s | .ret, s => ∃ ys, EP Γ s fn.results.toList ds ys ∧ ys.Nodup ∧ D.closed.closedL ds = true
 | _, _ => False
theorem Fun.intro {Γ : Tys} (hΓ : Γ.ok P) {f : FuncId} {fn : Func} {code : Code} (hf : P.funcs[f]? = some fn) (hb : fn.body = some code) (hname : (fn.name == "runtime.NumGoroutine") = false) {N : Nat} {ds rs : List D} (hN : ds.length + (fn.ntmps - ds.length) = N)
  (h : ∀ w0 G F0, W P ⟨w0, G, F0, N⟩ code ⟨(List.range ds.length).zip ds, []⟩ (Ends Γ fn rs)) : Fun P f ds (Aq rs) := by
 refine ⟨⟨fn, hf, by rw [hb]; rfl, hname⟩, ?_⟩;intro w F args hF hargs
 have hlen := hargs.length
 simp only [OD] at hlen;refine calls_of_wp hf hb ?_
 have h0 : Is ⟨w, fun _ => False, F, N⟩ ⟨(List.range ds.length).zip ds, []⟩ { tmps := args ++ Array.replicate (fn.ntmps - args.size) undef, defers := [] } w := by
  refine ⟨F, fun _ => none, fun _ => [], fun _ => [], fun _ => none, ?_⟩
  have hlook : ∀ (l : List D) (k t : Nat), look ((List.range' k l.length).zip l) (k + t) = (l[t]?).getD .top := by
   intro l
   induction l with
   | nil => intro k t; simp [look]
   | cons d l ih =>
    intro k t;rw [Nx, List.range'_succ, List.zip_cons_cons];simp only [look]
    cases t with
    | zero => simp
    | succ t =>
     rw [if_neg (by omega), show k + (t + 1) = k + 1 + t from by omega, ih]
     simp
  have hl0 : ∀ t, look ((List.range ds.length).zip ds) t = (ds[t]?).getD .top := fun t => by
   have := hlook ds 0 t
   simpa [List.range_eq_range'] using this
  exact {
   fr := fun t => by
    rw [hl0]
    cases hd : ds[t]? with
    | none => exact .top .done
    | some d =>
     have hlt := (List.getElem?_eq_some_iff.1 hd).1
     obtain ⟨v, h1, h2⟩ := hargs.get0 t hd
     have hlt2 : t < args.size := by rw [hlen]; exact hlt
     have hv : (args ++ Array.replicate (fn.ntmps - args.size) undef).getD t undef = v := by
      rw [Ny, Array.getElem?_append_left hlt2]
      have : args[t]? = some v := by simpa using h1
      rw [this]; rfl
     rw [hv];exact h2
   mem := fun id => rfl
   ofr := by simp
   omem := by simp
   nfr := by simp
   nmem := by simp
   own := by simp
   fin := hF
   f0 := fun _ h => h
   fnew := fun _ h => .inl h
   f0in := fun b h => ⟨hF b h, by simp⟩
   gin := by simp
   os := rfl
   tape := rfl
   output := rfl
   size := OJ _
   keep := fun _ _ _ => rfl
   defers := rfl
   tmps := by simp [hlen, hN] }
 refine Code.wp_mono ?_ (h w (fun _ => False) F _ _ h0)
 rintro e a' w' ⟨s', ⟨F', β, fb, mb, ow, hi⟩, hq⟩
 have key : ∀ ys, EP Γ s' fn.results.toList rs ys → ys.Nodup → D.closed.closedL rs = true → a'.defers = [] ∧ ∃ v, (results fn a'.tmps).run P w' = .ok v w' ∧
   ∃ v' F'' bs, Ending.returned v = .returned v' ∧ Below w.heap.size w w' ∧ (∀ b, F b → F'' b) ∧ (∀ b, F'' b → F b ∨ (w.heap.size ≤ b ∧ b < w'.heap.size)) ∧
   RelD w' F'' (fun _ => none) [v'] [Aq rs] bs ∧ bs.Nodup ∧ ∀ b, b ∈ bs → w.heap.size ≤ b ∧ b < w'.heap.size ∧ ¬ F'' b := by
  intro ys h1 h2 h3
  obtain ⟨vs, bs, q1, q2, q3, q4⟩ := DV hΓ hi h1 h2
  have q5 := q2.closed (β' := fun _ => none) h3
  have hres := CP (P := P) fn a'.tmps q1
  refine ⟨hi.defers, _, hres, _, F', bs, rfl, ⟨hi.os, hi.tape, hi.output, hi.size, fun b hb => hi.keep b hb (by simp)⟩, hi.f0, fun b hb => ?_, ?_, q3, fun b hb => ?_⟩
  ·rcases hi.fnew b hb with h | h | h
   ·exact .inl h
   ·exact .inr ⟨h, hi.fin b hb⟩
   ·exact h.elim
  ·have hl := q5.length
   match vs, rs, hl, q5 with
   | [], [], _, q5 => cases q5; exact RelD.tup (arr := #[]) (l := []) .done .done
   | [v], [d], _, q5 => exact q5
   | v :: v2 :: vs, d :: d2 :: ds', _, q5 => simpa [Aq] using RelD.tup (arr := (v :: v2 :: vs).toArray) q5 .done
  ·obtain ⟨y, h5, _⟩ := q4 b hb
   obtain ⟨h6, h7, h8⟩ := hi.own b (by rw [h5]; simp)
   exact ⟨h8.resolve_right (by simp), h7, h6⟩
 cases e with
 | normal => obtain ⟨ys, h1, h2, h3⟩ := hq; exact key ys h1 h2 h3
 | ret => obtain ⟨ys, h1, h2, h3⟩ := hq; exact key ys h1 h2 h3
 | _ => exact hq.elim
end
end Go.Eng
end
section
/- The table of types held against the program; the words in which a function's walk is typed. -/
namespace Go.Eng
open Go.RowKit
def eqV : Value → Value → Bool
 | .int k a, .int k' b => k == k' && a == b
 | .bool a, .bool b => a == b
 | .string a, .string b => a.data.toList == b.data.toList
 | .slice none 0 0, .slice none 0 0 => true
 | .pointer none, .pointer none => true
 | .map none, .map none => true
 | .nilFunc, .nilFunc => true
 | .nilIface, .nilIface => true
 | _, _ => false
theorem K7 {a b : Value} (h : eqV a b = true) : a = b := by
  unfold eqV at h
  split at h <;> first
    | rfl
    | (cases h; done)
    | (simp only [Nv, beq_iff_eq] at h; rw [h.1, h.2]; done)
    | (simp only [beq_iff_eq] at h; rw [h]; done)
    | (rename_i x y
       cases x; cases y;simp only [beq_iff_eq] at h
       rw [Array.toList_inj.1 h])
def eqVs : List Value → List Value → Bool
 | [], [] => true
 | a :: l, b :: m => eqV a b && eqVs l m
 | _, _ => false
theorem Fu : ∀ {a b : List Value}, eqVs a b = true → a = b
 | [], [], _ => rfl
 | [], _ :: _, h => by cases h
 | _ :: _, [], h => by cases h
 | a :: l, b :: m, h => by
  simp only [eqVs, Nv] at h;rw [K7 h.1, Fu h.2]
def TK.okB (P : Program) (t : Nat) (size : Nat) : TK → Bool
 | .one => size == 1 && match P.underlying t with | some (.struct _) => false | some (.array _ _) => false | some _ => true | none => false
 | .bool => size == 1 && match P.underlying t with | some .bool => true | _ => false
 | .str => size == 1 && match P.underlying t with | some .string => true | _ => false
 | .ptr => size == 1 && match P.underlying t with | some (.pointer _) => true | _ => false
 | .slice e => size == 1 && match P.underlying t with | some (.slice e') => e == e' | _ => false
 | .agg offs => match P.underlying t with
  | some (.struct fs) => fs.toList.map (·.offset) == offs && fs.toList.all fun f => match P.info? f.type with | some i => i.size != 0 | none => false
  | _ => false
def TI.okB (P : Program) (t : Nat) (x : TI) : Bool :=
 (match P.info? t with
 | some i => i.size == x.size && i.bytes == x.bytes && match i.zero with | some z => eqVs z.cells.toList x.zero | none => false
 | none => false) && x.kind.okB P t x.size
theorem TI.okB_sound {P : Program} {t : Nat} {x : TI} (h : x.okB P t = true) : x.ok P t := by
 unfold TI.okB at h;rw [Nv] at h
 obtain ⟨h1, h2⟩ := h
 refine ⟨?_, ?_⟩
 ·split at h1
  ·rename_i i hi
   simp only [Nv, beq_iff_eq] at h1
   obtain ⟨⟨h3, h4⟩, h5⟩ := h1
   split at h5
   ·rename_i z hz
    exact ⟨i, z, hi, h3, h4, hz, Fu h5⟩
   ·cases h5
  ·cases h1
 ·unfold TK.okB at h2
  cases hk : x.kind with
  | one =>
   rw [hk] at h2;simp only [Nv, beq_iff_eq] at h2;refine ⟨h2.1, ?_⟩
   cases hu : P.underlying t with
   | none => rw [hu] at h2; simp at h2
   | some d => rw [hu] at h2; refine ⟨d, rfl, ?_⟩; cases d <;> simp_all
  | bool =>
   rw [hk] at h2;simp only [Nv, beq_iff_eq] at h2;refine ⟨h2.1, ?_⟩
   have h3 := h2.2
   split at h3
   ·assumption
   ·cases h3
  | str =>
   rw [hk] at h2;simp only [Nv, beq_iff_eq] at h2;refine ⟨h2.1, ?_⟩
   have h3 := h2.2
   split at h3
   ·assumption
   ·cases h3
  | ptr =>
   rw [hk] at h2;simp only [Nv, beq_iff_eq] at h2;refine ⟨h2.1, ?_⟩
   have h3 := h2.2
   split at h3
   ·exact ⟨_, by assumption⟩
   ·cases h3
  | slice e =>
   rw [hk] at h2;simp only [Nv, beq_iff_eq] at h2;refine ⟨h2.1, ?_⟩
   have h3 := h2.2
   split at h3
   ·rename_i e' he; simp only [beq_iff_eq] at h3; rw [h3]; exact he
   ·cases h3
  | agg offs =>
   rw [hk] at h2;dsimp only at h2 ⊢;split at h2
   ·rename_i fs hfs
    simp only [Nv, beq_iff_eq, N1] at h2;refine ⟨fs, hfs, h2.1, fun f hf => ?_⟩
    have h3 := h2.2 f hf
    split at h3
    ·rename_i i hi; exact ⟨i, hi, by simpa using h3⟩
    ·cases h3
   ·cases h2
def Tys.okB (P : Program) (l : Tys) : Bool := l.all fun p => p.2.okB P p.1
theorem Tys.okB_sound {P : Program} : ∀ {l : Tys}, Tys.okB P l = true → Tys.ok P l
 | [], _ => trivial
 | (k, x) :: l, h => by
  simp only [Tys.okB, OP, Nv] at h;exact ⟨TI.okB_sound h.1, Tys.okB_sound h.2⟩
/-! ### A state written out -/
def Ik {α : Type} : List T → (List T → Option α) → Option α
 | [], k => k []
 | x :: l, k => Ik l fun l' => k (x :: l')
def NS {α : Type} (x : T) (k : T → Option α) : Option α := match x with
 | .v y => k (.v y)
 | .list n l => k (.list n l)
 | .agg l => Ik l fun l' => k (.agg l')
 | .sub l => k (.sub l)
def LG {α : Type} (d : D) (k : D → Option α) : Option α := match d with
 | .t x => NS x fun x' => k (.t x')
 | .nil => k .nil
 | .agg l => k (.agg l)
 | .ref a b c => k (.ref a b c)
 | .sl a b c => k (.sl a b c)
 | .rp x o => k (.rp x o)
 | .clo f l => k (.clo f l)
 | .tup l => k (.tup l)
 | .own x => k (.own x)
 | .top => k .top
def CC {α : Type} : List D → (List D → Option α) → Option α
 | [], k => k []
 | d :: l, k => LG d fun d' => CC l fun l' => k (d' :: l')
def headD {α : Type} (d : D) (k : D → Option α) : Option α := match d with
 | .agg l => CC l fun l' => k (.agg l')
 | .tup l => CC l fun l' => k (.tup l')
 | .clo f l => CC l fun l' => k (.clo f l')
 | d => LG d k
def headF {α : Type} (d : D) (k : D → Option α) : Option α := match d with
 | .agg l => CC l fun l' => k (.agg l')
 | .tup l => CC l fun l' => k (.tup l')
 | d => LG d k
def Il {α : Type} : List (Nat × D) → (List (Nat × D) → Option α) → Option α
 | [], k => k []
 | (t, d) :: l, k => headF d fun d' => Il l fun l' => k ((t, d') :: l')
def BO {α : Type} : List (Nat × Blk) → (List (Nat × Blk) → Option α) → Option α
 | [], k => k []
 | (t, b) :: l, k => match b with
  | .L n xs => BO l fun l' => k ((t, .L n xs) :: l')
  | .box cells => CC cells fun c' => BO l fun l' => k ((t, .box c') :: l')
  | .raw b sz vs ts => BO l fun l' => k ((t, .raw b sz vs ts) :: l')
  | .rawV vs ts => BO l fun l' => k ((t, .rawV vs ts) :: l')
  | .ro vs ts => BO l fun l' => k ((t, .ro vs ts) :: l')
  | .pin i b n c => BO l fun l' => k ((t, .pin i b n c) :: l')
  | .obox pv cells => CC cells fun c' => BO l fun l' => k ((t, .obox pv c') :: l')
  | .bld T e b x => BO l fun l' => k ((t, .bld T e b x) :: l')
  | .row b cap n x => BO l fun l' => k ((t, .row b cap n x) :: l')
def B6 (s : St) : Option St := Il s.fr fun fr => BO s.M fun M => some ⟨fr, M⟩
theorem G0 {α : Type} : ∀ (l : List T) (k : List T → Option α), Ik l k = k l
 | [], _ => rfl
 | x :: l, k => by rw [Ik, G0]
theorem ME {α : Type} (x : T) (k : T → Option α) : NS x k = k x := by cases x <;> simp [NS, G0]
theorem Gi {α : Type} (d : D) (k : D → Option α) : LG d k = k d := by cases d <;> simp [LG, ME]
theorem spineD_eq {α : Type} : ∀ (l : List D) (k : List D → Option α), CC l k = k l
 | [], _ => rfl
 | x :: l, k => by rw [CC, Gi, spineD_eq]
theorem MI {α : Type} (d : D) (k : D → Option α) : headD d k = k d := by cases d <;> simp [headD, spineD_eq, Gi]
theorem JC {α : Type} (d : D) (k : D → Option α) : headF d k = k d := by cases d <;> simp [headF, spineD_eq, Gi]
theorem G1 {α : Type} : ∀ (l : List (Nat × D)) (k : List (Nat × D) → Option α), Il l k = k l
 | [], _ => rfl
 | (t, d) :: l, k => by rw [Il, JC, G1]
theorem BF {α : Type} : ∀ (l : List (Nat × Blk)) (k : List (Nat × Blk) → Option α), BO l k = k l
 | [], _ => rfl
 | (t, .L n xs) :: l, k => by rw [BO, BF]
 | (t, .box c) :: l, k => by rw [BO, spineD_eq, BF]
 | (t, .raw _ _ _ _) :: l, k => by rw [BO, BF]
 | (t, .rawV _ _) :: l, k => by rw [BO, BF]
 | (t, .ro _ _) :: l, k => by rw [BO, BF]
 | (t, .pin _ _ _ _) :: l, k => by rw [BO, BF]
 | (t, .obox _ c) :: l, k => by rw [BO, spineD_eq, BF]
 | (t, .bld _ _ _ _) :: l, k => by rw [BO, BF]
 | (t, .row _ _ _ _) :: l, k => by rw [BO, BF]
theorem CH {s s' : St} (h : B6 s = some s') : s = s' := by
 rw [B6, G1, BF] at h;exact Option.some.inj h
def evF (Γ : Tys) (s : St) (o : Op) : Option D := match evV Γ s o with
 | some d => (match o with | .makeFunc .. => headD d some | _ => headF d some)
 | none => none
section
variable {P : Program} {c : Ctx} {s : St} {Q : Exit → St → Prop} {ops : Array Oper} {rest : List Oper} {o : Oper} {y : Code}
theorem LQ {l : List Oper} {s' : St} (h : B6 s = some s') (k : WO P c ops l s' Q) : WO P c ops l s Q := by rw [CH h]; exact k
theorem FP {x : Code} {s' : St} (h : B6 s = some s') (k : W P c x s' Q) : W P c x s Q := by rw [CH h]; exact k
theorem WO_evF {Γ : Tys} (hΓ : Γ.ok P) {t : Nat} {d : D} (hg : o.guard = none) (hd : o.dst = some t) (ht : t < c.n) (he : evF Γ s o.op = some d)
  (k : WO P c ops rest ⟨(t, d) :: s.fr, s.M⟩ Q) : WO P c ops (o :: rest) s Q := by
 refine Nm hΓ hg hd ht ?_ k;unfold evF at he;split at he
 ·rename_i d' h
  rw [h];split at he
  ·rw [← MI d' some, he]
  ·rw [← JC d' some, he]
 ·cases he
theorem Fun.begin {Γ : Tys} (hΓ : Γ.ok P) {f : FuncId} {fn : Func} {code : Code} (hf : P.funcs[f]? = some fn) (hb : fn.body = some code) (hname : (fn.name == "runtime.NumGoroutine") = false) {N : Nat} {ds rs : List D} (fr : List (Nat × D)) (hN : ds.length + (fn.ntmps - ds.length) = N)
  (hfr : (List.range ds.length).zip ds = fr)
  (h : ∀ w0 G F0, W P ⟨w0, G, F0, N⟩ code ⟨fr, []⟩ (Ends Γ fn rs)) : Fun P f ds (Aq rs) := by
 subst hfr;exact Fun.intro hΓ hf hb hname hN h
theorem AA {a b : Nat} (h : Nat.blt a b = true) : a < b := by simpa using h
theorem thenQ_n (h : W P c y s Q) : EF P c y Q .normal s := h
theorem thenQ_e {id : Nat} (h : Q (.exit id) s) : EF P c y Q (.exit id) s := h
theorem thenQ_r (h : Q .ret s) : EF P c y Q .ret s := h
theorem inBlk_n {id : Nat} (h : Q .normal s) : HU id Q .normal s := h
theorem inBlk_r {id : Nat} (h : Q .ret s) : HU id Q .ret s := h
theorem AK {id : Nat} (h : Q .normal s) : HU id Q (.exit id) s := by simp only [HU, if_true]; exact h
def C5 (fr : List (Nat × D)) (ks : List Nat) : List (Nat × D) := ks.map fun k => (k, look fr k)
def keepM (M : List (Nat × Blk)) : List Nat → List (Nat × Blk)
 | [] => []
 | k :: ks => match lookM M k with
  | some b => (k, b) :: keepM M ks
  | none => keepM M ks
def Js {α : Type} (c : Ctx) (S : α → St) (inv : α → Prop) (μ : α → Nat) (x : α) (Q : Exit → St → Prop) : Exit → St → Prop
 | .normal, s' => ∃ x', Le c s' (S x') ∧ inv x' ∧ μ x' < μ x
 | e, s' => Q e s'
theorem AP {α : Type} {S : α → St} {inv : α → Prop} {μ : α → Nat} {x : α} {id : Nat} (h : Q (.exit id) s) : Js c S inv μ x Q (.exit id) s := h
theorem AO {α : Type} {S : α → St} {inv : α → Prop} {μ : α → Nat} {x : α} (h : Q .ret s) : Js c S inv μ x Q .ret s := h
theorem NG {α : Type} {S : α → St} {inv : α → Prop} {μ : α → Nat} {x : α} (x' : α) (h1 : Sub (S x').fr s.fr) (h2 : SubM (S x').M s.M) (h3 : inv x') (h4 : μ x' < μ x) : Js c S inv μ x Q .normal s :=
 ⟨x', Le.sub h1 h2, h3, h4⟩
theorem Nj {α : Type} {body : Code} (ks km : List Nat) (fr : α → List (Nat × D)) (M : α → List (Nat × Blk)) (inv : α → Prop) (μ : α → Nat) (x0 : α)
  (h1 : Sub (fr x0 ++ C5 s.fr ks) s.fr) (h2 : SubM (M x0 ++ keepM s.M km) s.M) (h3 : inv x0)
  (round : ∀ x, inv x → W P c body ⟨fr x ++ C5 s.fr ks, M x ++ keepM s.M km⟩ (Js c (fun x => ⟨fr x ++ C5 s.fr ks, M x ++ keepM s.M km⟩) inv μ x Q)) : W P c (.loop body) s Q := by
 refine W_loop (α := { x : α // inv x }) (fun x => ⟨fr x.1 ++ C5 s.fr ks, M x.1 ++ keepM s.M km⟩) (fun x => μ x.1) ⟨x0, h3⟩ (Le.sub h1 h2) fun x => ?_
 refine W_mono (round x.1 x.2) fun e s' h => ?_
 cases e with
 | normal => obtain ⟨x', h4, h5, h6⟩ := h; exact ⟨⟨x', h5⟩, h4, h6⟩
 | _ => exact h
theorem C8 {n : Int} (h1 : -9223372036854775808 ≤ n) (h2 : n ≤ 9223372036854775807) : IntKind.i64.wrap n = n := by
 rw [IntKind.wrap_i64]; omega
theorem LR {Γ : Tys} (hΓ : Γ.ok P) {t : Nat} {n : Int} (hg : o.guard = none) (hd : o.dst = some t) (ht : t < c.n) (he : evV Γ s o.op = some (.t (.int (IntKind.i64.wrap n)))) (hw : IntKind.i64.wrap n = n)
  (k : WO P c ops rest ⟨(t, .t (.int n)) :: s.fr, s.M⟩ Q) : WO P c ops (o :: rest) s Q := by
 refine Nm hΓ hg hd ht he ?_;rw [hw]; exact k
theorem AW {x : Operand} {y z : Code} (h : opd s.fr x = .t (.bool true)) (k : W P c y s Q) : W P c (.cond x y z) s Q :=
 AC h (fun _ => k) (fun h => by cases h)
theorem Ax {x : Operand} {y z : Code} (h : opd s.fr x = .t (.bool false)) (k : W P c z s Q) : W P c (.cond x y z) s Q :=
 AC h (fun h => by cases h) (fun _ => k)
theorem FW {α : Type} (f : α → T) (l : List α) {i : Int} (h0 : 0 ≤ i) (h1 : i < l.length) : (l.map f)[i.toNat]? = some (f (l[i.toNat]'(by omega))) := by
 rw [List.getElem?_map, List.getElem?_eq_getElem (by omega)]; rfl
theorem Ends_of {Γ : Tys} {fn : Func} {ds ds' : List D} {e : Exit} {ys : List (Nat ⊕ Nat)} (he : e = .normal ∨ e = .ret) (h : EP Γ s fn.results.toList ds' ys) (hn : ys.Nodup) (hc : D.closed.closedL ds' = true) (hd : ds' = ds) : Ends Γ fn ds e s := by
 subst hd
 rcases he with rfl | rfl <;> exact ⟨ys, h, hn, hc⟩
theorem Sub.nil' {fr : List (Nat × D)} : Sub [] fr := trivial
theorem Sub.cons' {fr l : List (Nat × D)} {k : Nat} {d : D} (h : look fr k = d) (h' : Sub l fr) : Sub ((k, d) :: l) fr := ⟨h, h'⟩
theorem SubM.nil' {M : List (Nat × Blk)} : SubM [] M := trivial
theorem SubM.cons' {M l : List (Nat × Blk)} {k : Nat} {d : Blk} (h : lookM M k = some d) (h' : SubM l M) : SubM ((k, d) :: l) M := ⟨h, h'⟩
def ret1 (Γ : Tys) (s : St) : ResultVar → Option (D × (Nat ⊕ Nat))
 | .tmp t => some (look s.fr t, .inl t)
 | .cell t ty => match look s.fr t with
  | .ref id 0 0 => match lookM s.M id with
   | some (.box cells) => match A7 Γ ty with
    | some ti => if ti.kind.isAgg && cells.length == ti.size then some (.agg cells, .inr id) else none
    | none => none
   | _ => none
  | _ => none
def retD (Γ : Tys) (s : St) : List ResultVar → Option (List D × List (Nat ⊕ Nat))
 | [] => some ([], [])
 | r :: rs => match ret1 Γ s r with
  | some (d, y) => match retD Γ s rs with
   | some (ds, ys) => some (d :: ds, y :: ys)
   | none => none
  | none => none
theorem ret_ok {Γ : Tys} : ∀ {rs : List ResultVar} {ds : List D} {ys : List (Nat ⊕ Nat)}, retD Γ s rs = some (ds, ys) → EP Γ s rs ds ys
 | [], _, _, h => by cases h; trivial
 | r :: rs, ds, ys, h => by
  simp only [retD] at h;split at h
  ·rename_i d y h1
   split at h
   ·rename_i ds' ys' h2
    cases h
    have ih := ret_ok h2
    cases r with
    | tmp t => cases h1; exact ⟨rfl, rfl, ih⟩
    | cell t ty =>
     simp only [ret1] at h1;split at h1
     ·rename_i id hl
      split at h1
      ·rename_i cells hM
       split at h1
       ·rename_i ti hti
        split at h1
        ·rename_i hb
         cases h1;simp only [Nv, beq_iff_eq] at hb;exact ⟨⟨id, cells, ti, hl, hM, hti, hb.1, hb.2, rfl, rfl⟩, ih⟩
        ·cases h1
       ·cases h1
      ·cases h1
     ·cases h1
   ·cases h
  ·cases h
def retF (Γ : Tys) (s : St) (rs : List ResultVar) : Option (List D × List (Nat ⊕ Nat)) := match retD Γ s rs with
 | some (ds, ys) => CC ds fun ds' => some (ds', ys)
 | none => none
theorem Kc {Γ : Tys} {rs : List ResultVar} {ds : List D} {ys : List (Nat ⊕ Nat)} (h : retF Γ s rs = some (ds, ys)) : EP Γ s rs ds ys := by
 unfold retF at h;split at h
 ·rename_i ds' ys' h1; rw [spineD_eq] at h; cases h; exact ret_ok h1
 ·cases h
theorem AbsL.nil' : AbsL [] [] := trivial
theorem AbsL.v' {x : Value} {ds ts} (h : AbsL ds ts) : AbsL (.t (.v x) :: ds) (.v x :: ts) := ⟨rfl, h⟩
theorem AbsL.own' {x : T} {ds ts} (h : AbsL ds ts) : AbsL (.own x :: ds) (x :: ts) := ⟨by unfold AbsD; cases x <;> rfl, h⟩
theorem AbsL.none' {n : Nat} {ds ts} (h : AbsL ds ts) : AbsL (.nil :: ds) (.list n [] :: ts) := ⟨rfl, h⟩
theorem PartsOk.nil' {fr : List (Nat × D)} {n : Nat} : PartsOk fr n [] [] := trivial
theorem PartsOk.cons' {fr : List (Nat × D)} {n : Nat} {x : Operand} {xs : List Operand} {y : T} {ys : List T} {ds : List D} (h1 : boxD (opd fr x) = some ds) (h2 : AbsL ds y.cells) (h3 : y.cells.length = n) (h : PartsOk fr n xs ys) : PartsOk fr n (x :: xs) (y :: ys) :=
 ⟨⟨ds, h1, h2, h3⟩, h⟩
theorem FR {j d t : Nat} {want : Bool} (hg : o.guard = some (j, want)) (hj : (ops[j]?).bind (·.dst) = some d) (hl : look s.fr d = .t (.bool want)) (hd : o.dst = some t) (ht : t < c.n)
  (h1 : WO P c ops ({ o with guard := none } :: rest) s Q) : WO P c ops (o :: rest) s Q := by
 refine Gp hg hj hl hd ht (fun _ => ?_) (fun h => by cases want <;> cases h);refine AI ?_ h1;refine Le.of (fun t => ?_) (fun _ => .inl rfl);simp only [look];split
 ·rename_i e; subst e; exact .inl hl
 ·exact .inl rfl
theorem FS {j d t : Nat} {want b : Bool} (hg : o.guard = some (j, want)) (hj : (ops[j]?).bind (·.dst) = some d) (hl : look s.fr d = .t (.bool b)) (hb : b = !want) (hd : o.dst = some t) (ht : t < c.n)
  (h1 : WO P c ops rest ⟨(t, .tup []) :: s.fr, s.M⟩ Q) : WO P c ops (o :: rest) s Q := by
 subst hb;refine Gp hg hj hl hd ht (fun h => by cases want <;> cases h) (fun _ => ?_);refine AI ?_ h1;refine Le.of (fun u => ?_) (fun _ => .inl rfl);simp only [look];split
 ·exact .inl rfl
 ·split
  ·rename_i e; subst e; exact .inl hl
  ·exact .inl rfl
theorem LS {j d t : Nat} {want : Bool} (hg : o.guard = some (j, want)) (hj : (ops[j]?).bind (·.dst) = some d) (hl : look s.fr d = .tup []) (hd : o.dst = some t) (ht : t < c.n)
  (k : WO P c ops rest ⟨(t, .tup []) :: s.fr, s.M⟩ Q) : WO P c ops (o :: rest) s Q := by
 rintro a w ⟨F, β, fb, mb, ow, hi⟩
 have hr := hi.fr d
 rw [hl] at hr
 have hy : yielded ops a.tmps j = none := by
  unfold yielded;rw [hj];simp only [Option.bind_some];rw [Ny] at hr
  cases hq : a.tmps[d]? with
  | none => rfl
  | some v =>
   rw [hq, Option.getD_some] at hr;generalize fb d = bs at hr
   cases hr with
   | tup h1 h2 => rfl
 unfold wpList
 have hw : ¬ Region.wanted o (yielded ops a.tmps) = true := by simp [Region.wanted, hg, hy]
 rw [if_neg hw, hd];exact k _ _ ⟨_, _, _, _, _, hi.put ht (RelD.tup (arr := #[]) (l := []) .done .done)⟩
theorem Ao {t u k : Nat} {l : List D} {d : D} (hg : o.guard = none) (hd : o.dst = some t) (ht : t < c.n) (ho : o.op = .extract (.tmp u) k) (hu : look s.fr u = .tup l) (hk : l[k]? = some d) (hne : (t == u) = false)
  (kk : WO P c ops rest ⟨(t, d) :: (u, .tup (l.set k .top)) :: s.fr, s.M⟩ Q) : WO P c ops (o :: rest) s Q := by
 have hne' : ¬ t = u := by simpa using hne
 rintro a w ⟨F, β, fb, mb, ow, hi⟩
 have hr := hi.fr u
 rw [hu] at hr
 have hlt := (List.getElem?_eq_some_iff.1 hk).1
 have key : ∃ v b1 b2, (Instr.extract (a.tmps.getD u undef) k).run P w = .ok v w ∧ RelD w F β [v] [d] b1 ∧ RelD w F β [a.tmps.getD u undef] [.tup (l.set k .top)] b2 ∧ (b1 ++ b2).Nodup ∧ ∀ b, b ∈ b1 ++ b2 → b ∈ fb u := by
  have hnd := hi.nfr u
  generalize hfb : fb u = bs at hr hnd;generalize a.tmps.getD u undef = xv at hr
  cases hr with
  | tup h1 h2 =>
   cases h2
   rename_i arr bs
   rw [OI] at hfb hnd
   obtain ⟨c1, c2, rfl, s1, s2⟩ := h1.split k
   have hl1 := h1.length
   have hcons : (l.drop k) = d :: l.drop (k + 1) := by
    rw [List.drop_eq_getElem_cons hlt]
    congr 1
    have := (List.getElem?_eq_some_iff.1 hk).2
    exact this
   have hvk : k < arr.toList.length := by rw [hl1]; exact hlt
   rw [hcons, List.drop_eq_getElem_cons hvk] at s2
   obtain ⟨c3, c4, p1, p2, rfl⟩ := s2.cons
   refine ⟨arr.toList[k], c3, c1 ++ c4, ?_, p1, ?_, ?_, ?_⟩
   ·have : arr[k]? = some arr.toList[k] := by rw [← Array.getElem?_toList, List.getElem?_eq_getElem hvk]
    simp only [Instr.extract, this, OS]
   ·have e1 : l.set k D.top = l.take k ++ (D.top :: l.drop (k + 1)) := by
     rw [List.set_eq_take_append_cons_drop, if_pos hlt]
    have e2 : arr.toList = arr.toList.take k ++ (arr.toList[k] :: arr.toList.drop (k + 1)) := by
     rw [← List.drop_eq_getElem_cons hvk, List.take_append_drop]
    have := s1.append (RelD.top (x := arr.toList[k]) p2)
    rw [← e1, ← e2] at this
    simpa using RelD.tup (arr := arr) this .done
   ·rw [N5] at hnd ⊢
    obtain ⟨n1, n2, n3⟩ := hnd
    rw [N5] at n2
    obtain ⟨n4, n5, n6⟩ := n2
    refine ⟨n4, N5.2 ⟨n1, n5, fun p hp q hq => n3 p hp q (by simp [hq])⟩, fun p hp q hq e => ?_⟩
    rcases N3.1 hq with hq | hq
    ·exact n3 q hq p (by simp [hp]) e.symm
    ·exact n6 p hp q hq e
   ·intro b hb
    rcases N3.1 hb with h | h
    ·simp [h]
    ·rcases N3.1 h with h | h <;> simp [h]
 obtain ⟨v, b1, b2, q1, q2, q3, q4, q5⟩ := key
 have hrun : (execOp a.eval o).run P w = .ok (.value v) w := by
  simp only [execOp, ho, Act.eval, N8, q1, N2];rfl
 refine wpList_plain hg fun K hK => ?_
 unfold Oper.wp;rw [hrun, Oper.upon_value, hd];refine hK _ _ (kk _ _ ⟨F, β, fun x => if t = x then b1 else if u = x then b2 else fb x, mb, fun b => if b ∈ b1 then some (.inl t) else ow b, ?_⟩)
 have hob : ∀ b, b ∈ b1 ++ b2 → ow b = some (.inl u) := fun b hb => hi.ofr u b (q5 b hb)
 exact { hi with
  fr := fun x => by
   rw [Bs _ _ _ _ (by rw [hi.tmps]; exact ht)];simp only [look];split
   ·exact q2
   ·split
    ·rename_i e; subst e; exact q3
    ·exact hi.fr x
  ofr := fun x b hb => by
   split at hb
   ·rename_i e; subst e; rw [if_pos hb]
   ·have hb1 : b ∉ b1 := fun h => by
     split at hb
     ·exact (N5.1 q4).2.2 b h b hb rfl
     ·rename_i h1 h2
      have h3 := hi.ofr x b hb
      rw [hob b (by simp [h])] at h3;cases h3;exact h2 rfl
    rw [if_neg hb1];split at hb
    ·rename_i e; subst e; exact hob b (by simp [hb])
    ·exact hi.ofr x b hb
  omem := fun id b hb => by
   have h3 := hi.omem id b hb
   rw [if_neg (fun h => ?_)]
   ·exact h3
   ·rw [hob b (by simp [h])] at h3; cases h3
  nfr := fun x => by
   split
   ·exact (N5.1 q4).1
   ·split
    ·exact (N5.1 q4).2.1
    ·exact hi.nfr x
  own := fun b hb => by
   split at hb
   ·rename_i h; exact hi.own b (by rw [hob b (by simp [h])]; simp)
   ·exact hi.own b hb
  defers := (BT a _ v).trans hi.defers
  tmps := (B4 a _ v).trans hi.tmps }
end
end Go.Eng
end
