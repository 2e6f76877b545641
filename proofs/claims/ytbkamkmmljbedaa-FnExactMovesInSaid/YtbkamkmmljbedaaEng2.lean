/- The abstract machine's rules for memory: variables, slices that the call makes, stores. -/
import Derived.Test.YtbkamkmmljbedaaEng
set_option linter.unusedVariables false
set_option linter.unusedSimpArgs false
namespace Go.Eng
open Go.RowKit

/-! ### What is forgotten when an id stands for new memory -/

def D.has (i : Nat) : D → Bool
  | .ref id _ _ => id == i
  | .sl id _ _ => id == i
  | .agg l | .clo _ l | .tup l => hasL i l
  | _ => false
where hasL (i : Nat) : List D → Bool
  | [] => false
  | d :: l => d.has i || hasL i l

def D.kill (i : Nat) (d : D) : D := if d.has i then .top else d

def Blk.kill (i : Nat) : Blk → Blk
  | .L n xs => .L n xs
  | .box cells => .box (cells.map (D.kill i))
  | k => k

theorem RelD.other {w : World} {F : Nat → Prop} {β β' : Place} {i : Nat} (hβ : ∀ id, id ≠ i → β' id = β id) {vs ds bs} (h : RelD w F β vs ds bs) (hh : D.has.hasL i ds = false) : RelD w F β' vs ds bs := by
  induction h with
  | done => exact .done
  | agg h0 _ _ ih1 ih2 => simp only [D.has.hasL, D.has, Bool.or_eq_false_iff] at hh; exact .agg h0 (ih1 hh.1) (ih2 hh.2)
  | clo _ _ ih1 ih2 => simp only [D.has.hasL, D.has, Bool.or_eq_false_iff] at hh; exact .clo (ih1 hh.1) (ih2 hh.2)
  | tup _ _ ih1 ih2 => simp only [D.has.hasL, D.has, Bool.or_eq_false_iff] at hh; exact .tup (ih1 hh.1) (ih2 hh.2)
  | t h1 _ ih => simp only [D.has.hasL, Bool.or_eq_false_iff] at hh; exact .t h1 (ih hh.2)
  | tagg h1 _ ih => simp only [D.has.hasL, Bool.or_eq_false_iff] at hh; exact .tagg h1 (ih hh.2)
  | nil _ ih => simp only [D.has.hasL, Bool.or_eq_false_iff] at hh; exact .nil (ih hh.2)
  | ref h1 _ ih => simp only [D.has.hasL, D.has, Bool.or_eq_false_iff, beq_eq_false_iff_ne] at hh; exact .ref ((hβ _ hh.1).trans h1) (ih hh.2)
  | sl h1 h2 h3 h4 _ ih => simp only [D.has.hasL, D.has, Bool.or_eq_false_iff, beq_eq_false_iff_ne] at hh; exact .sl ((hβ _ hh.1).trans h1) h2 h3 h4 (ih hh.2)
  | slnil h1 _ ih => simp only [D.has.hasL, D.has, Bool.or_eq_false_iff, beq_eq_false_iff_ne] at hh; exact .slnil ((hβ _ hh.1).trans h1) (ih hh.2)
  | rp h1 h2 h3 h4 _ ih => simp only [D.has.hasL, Bool.or_eq_false_iff] at hh; exact .rp h1 h2 h3 h4 (ih hh.2)
  | own h1 _ ih => simp only [D.has.hasL, Bool.or_eq_false_iff] at hh; exact .own h1 (ih hh.2)
  | top _ ih => simp only [D.has.hasL, Bool.or_eq_false_iff] at hh; exact .top (ih hh.2)

theorem RelD.kill1 {w : World} {F : Nat → Prop} {β β' : Place} {i : Nat} (hβ : ∀ id, id ≠ i → β' id = β id) {v d bs} (h : RelD w F β [v] [d] bs) :
    ∃ bs', List.Sublist bs' bs ∧ RelD w F β' [v] [d.kill i] bs' := by
  unfold D.kill
  cases hh : d.has i with
  | true => exact ⟨[], by simp, .top .done⟩
  | false => exact ⟨bs, by simp, by simpa using h.other hβ (by simp [D.has.hasL, hh])⟩

theorem RelD.killL {w : World} {F : Nat → Prop} {β β' : Place} {i : Nat} (hβ : ∀ id, id ≠ i → β' id = β id) : ∀ {vs ds bs}, RelD w F β vs ds bs →
    ∃ bs', List.Sublist bs' bs ∧ RelD w F β' vs (ds.map (D.kill i)) bs'
  | [], [], _, h => by cases h; exact ⟨[], by simp, .done⟩
  | [], _ :: _, _, h => by cases h
  | _ :: _, [], _, h => by cases h
  | _ :: _, _ :: _, _, h => by
    obtain ⟨b1, b2, h1, h2, rfl⟩ := h.cons
    obtain ⟨b1', s1, r1⟩ := h1.kill1 hβ
    obtain ⟨b2', s2, r2⟩ := RelD.killL hβ h2
    exact ⟨b1' ++ b2', s1.append s2, RelD.cons' r1 r2⟩

theorem RelD.map_dup {w : World} {F : Nat → Prop} {β : Place} : ∀ {vs ds bs}, RelD w F β vs ds bs → RelD w F β vs (ds.map D.dup) []
  | [], [], _, h => .done
  | [], _ :: _, _, h => by cases h
  | _ :: _, [], _, h => by cases h
  | _ :: _, _ :: _, _, h => by
    obtain ⟨b1, b2, h1, h2, rfl⟩ := h.cons
    exact RelD.cons' h1.dup h2.map_dup

section
variable {P : Program} {c : Ctx} {s : St} {Q : Exit → St → Prop} {ops : Array Oper} {rest : List Oper} {o : Oper}

/-- How known things are told anew: the id i forgotten, or as they were. -/
structure Anew (i : Nat) (β β' : Place) (kl : D → D) (kb : Blk → Blk) : Prop where
  one : ∀ {w F v d bs}, RelD w F β [v] [d] bs → ∃ bs', List.Sublist bs' bs ∧ RelD w F β' [v] [kl d] bs'
  blk : ∀ {w F id k bs}, id ≠ i → RelB w F β id k bs → ∃ bs', List.Sublist bs' bs ∧ RelB w F β' id (kb k) bs'

theorem Anew.same (i : Nat) (β : Place) : Anew i β β (fun d => d) (fun k => k) := ⟨fun h => ⟨_, by simp, h⟩, fun _ h => ⟨_, by simp, h⟩⟩

theorem Anew.kill {i : Nat} {β β' : Place} (hβ : ∀ id, id ≠ i → β' id = β id) : Anew i β β' (D.kill i) (Blk.kill i) where
  one h := h.kill1 hβ
  blk {w F id k bs} hid h := by
    cases k with
    | L n xs =>
      refine ⟨bs, by simp, ?_⟩
      rcases h with ⟨h1, h2⟩ | ⟨b, cap, arr, e, bs', h1, h2⟩
      · exact .inl ⟨(hβ _ hid).trans h1, h2⟩
      · exact .inr ⟨b, cap, arr, e, bs', (hβ _ hid).trans h1, h2⟩
    | box cells =>
      obtain ⟨b, arr, e, bs', h1, h2, h3, h4, rfl⟩ := h
      obtain ⟨bs'', hs, h5⟩ := h3.killL hβ
      exact ⟨b :: bs'', by simpa using hs, b, arr, e, bs'', by simpa using (hβ _ hid).trans h1, h2, h5, h4, rfl⟩
    | raw b sz vs ts => exact ⟨bs, by simp, h⟩
    | rawV vs ts => exact ⟨bs, by simp, h⟩
    | ro vs ts => exact ⟨bs, by simp, h⟩

theorem RelB.mono {w w' : World} {F : Nat → Prop} {β : Place} {id : Nat} {k : Blk} {bs : List Nat} (h : RelB w F β id k bs) (hF : ∀ b, F b → w'.heap[b]? = w.heap[b]?) (hb : ∀ b, b ∈ bs → w'.heap[b]? = w.heap[b]?) : RelB w' F β id k bs := by
  cases k with
  | L n xs =>
    rcases h with h | ⟨b, cap, arr, e, bs', h1, h2, h3, h4, h5, h6, h7, rfl⟩
    · exact .inl h
    · exact .inr ⟨b, cap, arr, e, bs', h1, (hb _ (by simp)).trans h2, h3, h4, h5, h6, h7.mono fun b h => hb b (by simp [h]), rfl⟩
  | box cells =>
    obtain ⟨b, arr, e, bs', h1, h2, h3, h4, rfl⟩ := h
    exact ⟨b, arr, e, bs', h1, (hb _ (by simp)).trans h2, h3.mono (fun _ h => h) hF (fun b h => hb b (by simp [h])) fun _ => rfl, h4, rfl⟩
  | raw b sz vs ts =>
    obtain ⟨arr, e, bs', h1, h2, h3, h4, rfl⟩ := h
    exact ⟨arr, e, bs', (hb _ (by simp)).trans h1, h2, h3, h4.mono fun b h => hb b (by simp [h]), rfl⟩
  | rawV vs ts => exact OwnL.mono h hb
  | ro vs ts => exact ⟨h.1.mono (fun _ h => h) hF, h.2⟩

/-- Memory i is told anew (new, grown or written); what was consumed for it (src) is gone; a temporary may be set. -/
theorem Conc.renew {a : Act} {w : World} {F β fb mb ow} (hi : Conc c s a w F β fb mb ow) {s' : St} {a' : Act} {w' : World} {β' : Place} {kl : D → D} {kb : Blk → Blk} (i : Nat) (hnew : Anew i β β' kl kb)
    (src : Nat ⊕ Nat → Prop) (bs : List Nat) (blk : Blk) (dst : Option (Nat × Value × D))
    (ha : a' = (match dst with | some (t, v, _) => a.put (some t) v | none => a)) (hdst : ∀ t v d, dst = some (t, v, d) → t < c.n ∧ RelD w' F β' [v] [d] [] ∧ look s'.fr t = d)
    (hos : w'.os = w.os) (htape : w'.tape = w.tape) (hout : w'.output = w.output) (hsize : w.heap.size ≤ w'.heap.size)
    (hheap : ∀ b, b < w.heap.size → (∀ x, ow b = some x → ¬ src x ∧ x ≠ .inr i) → w'.heap[b]? = w.heap[b]?)
    (hfr : ∀ u, (∀ t v d, dst = some (t, v, d) → u ≠ t) → (look s'.fr u = kl (look s.fr u) ∧ ¬ src (.inl u)) ∨ look s'.fr u = .top)
    (hMi : lookM s'.M i = some blk) (hblk : RelB w' F β' i blk bs) (hbs : bs.Nodup)
    (hbo : ∀ b, b ∈ bs → (w.heap.size ≤ b ∧ b < w'.heap.size) ∨ ∃ x, ow b = some x ∧ (src x ∨ x = .inr i))
    (hM : ∀ id, id ≠ i → lookM s'.M id = none ∨ (¬ src (.inr id) ∧ lookM s'.M id = (lookM s.M id).map kb)) : Is c s' a' w' := by
  classical
  have hFb : ∀ b, F b → w'.heap[b]? = w.heap[b]? := fun b hb => hheap b (hi.fin b hb) fun x hx => absurd hb (hi.own b (by simp [hx])).1
  -- a temporary's, a block's relation in the new world
  have one : ∀ {v d bs}, RelD w F β [v] [d] bs → (∀ b, b ∈ bs → w'.heap[b]? = w.heap[b]?) → ∃ bs', List.Sublist bs' bs ∧ RelD w' F β' [v] [kl d] bs' := fun h hb => by
    obtain ⟨bs', hs, h'⟩ := hnew.one h
    exact ⟨bs', hs, h'.mono (fun _ h => h) hFb (fun b hb' => hb b (hs.subset hb')) fun _ => rfl⟩
  have keepFr : ∀ u, ¬ src (.inl u) → ∀ b, b ∈ fb u → w'.heap[b]? = w.heap[b]? := fun u hu b hb => by
    have := hi.ofr u b hb
    exact hheap b (hi.own b (by simp [this])).2.1 fun x hx => by rw [this] at hx; cases hx; exact ⟨hu, by simp⟩
  have keepM : ∀ id, id ≠ i → ¬ src (.inr id) → ∀ b, b ∈ mb id → w'.heap[b]? = w.heap[b]? := fun id hid hu b hb => by
    have := hi.omem id b hb
    exact hheap b (hi.own b (by simp [this])).2.1 fun x hx => by rw [this] at hx; cases hx; exact ⟨hu, by simpa using hid⟩
  have frE : ∀ u, ∃ l, List.Sublist l (fb u) ∧ (l ≠ [] → ¬ src (.inl u)) ∧ RelD w' F β' [a'.tmps.getD u undef] [look s'.fr u] l := fun u => by
    by_cases hu : ∃ t v d, dst = some (t, v, d) ∧ u = t
    · obtain ⟨t, v, d, hd, rfl⟩ := hu
      obtain ⟨h1, h2, h3⟩ := hdst _ _ _ hd
      refine ⟨[], by simp, by simp, ?_⟩
      rw [ha, hd]
      dsimp only
      rw [getD_put _ _ _ _ (by rw [hi.tmps]; exact h1), if_pos rfl, h3]
      exact h2
    · have hu' : ∀ t v d, dst = some (t, v, d) → u ≠ t := fun t v d h e => hu ⟨t, v, d, h, e⟩
      have hval : a'.tmps.getD u undef = a.tmps.getD u undef := by
        rw [ha]
        cases dst with
        | none => rfl
        | some x =>
          obtain ⟨t, v, d⟩ := x
          dsimp only
          rw [getD_put _ _ _ _ (by rw [hi.tmps]; exact (hdst _ _ _ rfl).1), if_neg (fun e => hu' _ _ _ rfl e.symm)]
      rw [hval]
      rcases hfr u hu' with ⟨h1, h2⟩ | h1
      · obtain ⟨l, hs, hr⟩ := one (hi.fr u) (keepFr u h2)
        exact ⟨l, hs, fun _ => h2, by rw [h1]; exact hr⟩
      · exact ⟨[], by simp, by simp, by rw [h1]; exact .top .done⟩
  have mE : ∀ id, ∃ l, (id = i → l = bs) ∧ (id ≠ i → List.Sublist l (mb id) ∧ (l ≠ [] → ¬ src (.inr id))) ∧ (match lookM s'.M id with | some k => RelB w' F β' id k l | none => l = []) := fun id => by
    by_cases hid : id = i
    · subst hid
      exact ⟨bs, fun _ => rfl, fun h => absurd rfl h, by rw [hMi]; exact hblk⟩
    · rcases hM id hid with h1 | ⟨h1, h2⟩
      · exact ⟨[], fun h => absurd h hid, fun _ => ⟨by simp, by simp⟩, by rw [h1]⟩
      · have hm := hi.mem id
        rw [h2]
        cases hk : lookM s.M id with
        | none => exact ⟨[], fun h => absurd h hid, fun _ => ⟨by simp, by simp⟩, rfl⟩
        | some k =>
          rw [hk] at hm
          obtain ⟨l, hs, hr⟩ := hnew.blk hid hm
          exact ⟨l, fun h => absurd h hid, fun _ => ⟨hs, fun _ => h1⟩, hr.mono hFb fun b hb => keepM id hid h1 b (hs.subset hb)⟩
  refine ⟨F, β', fun u => (frE u).choose, fun id => (mE id).choose, fun b => if b ∈ bs then some (.inr i) else ow b, ?_⟩
  have frP := fun u => (frE u).choose_spec
  have mP := fun id => (mE id).choose_spec
  -- a block of what stays is none of the new memory's
  have apart : ∀ b x, ow b = some x → ¬ src x → x ≠ .inr i → b ∉ bs := fun b x hx h1 h2 hb => by
    rcases hbo b hb with h | ⟨y, hy, h3⟩
    · have := (hi.own b (by simp [hx])).2.1; omega
    · rw [hx] at hy; cases hy; exact h3.elim h1 h2
  refine { hi with fr := fun u => (frP u).2.2, mem := fun id => (mP id).2.2, ofr := fun u b hb => ?_, omem := fun id b hb => ?_, nfr := fun u => ?_, nmem := fun id => ?_, own := fun b hb => ?_, fin := fun b hb => Nat.lt_of_lt_of_le (hi.fin b hb) hsize, os := hos.trans hi.os, tape := htape.trans hi.tape, output := hout.trans hi.output, size := Nat.le_trans hi.size hsize, keep := fun b hb hg => ?_, defers := ?_, tmps := ?_ }
  · have h1 := hi.ofr u b ((frP u).1.subset hb)
    have h2 := (frP u).2.1 (by intro e; rw [e] at hb; cases hb)
    rw [if_neg (apart b _ h1 h2 (by simp))]
    exact h1
  · by_cases hid : id = i
    · subst hid
      rw [(mP id).1 rfl] at hb
      rw [if_pos hb]
    · obtain ⟨h1, h2⟩ := (mP id).2.1 hid
      have h3 := hi.omem id b (h1.subset hb)
      rw [if_neg (apart b _ h3 (h2 (by intro e; rw [e] at hb; cases hb)) (by simpa using hid))]
      exact h3
  · exact (hi.nfr u).sublist (frP u).1
  · by_cases hid : id = i
    · subst hid; rw [(mP id).1 rfl]; exact hbs
    · exact (hi.nmem id).sublist ((mP id).2.1 hid).1
  · by_cases hbb : b ∈ bs
    · rcases hbo b hbb with ⟨h1, h2⟩ | ⟨x, hx, _⟩
      · exact ⟨fun hf => by have := hi.fin b hf; omega, h2, .inl (Nat.le_trans hi.size h1)⟩
      · obtain ⟨h1, h2, h3⟩ := hi.own b (by simp [hx])
        exact ⟨h1, Nat.lt_of_lt_of_le h2 hsize, h3⟩
    · rw [if_neg hbb] at hb
      obtain ⟨h1, h2, h3⟩ := hi.own b hb
      exact ⟨h1, Nat.lt_of_lt_of_le h2 hsize, h3⟩
  · rw [← hi.keep b hb hg]
    refine hheap b (Nat.lt_of_lt_of_le hb hi.size) fun x hx => ?_
    have := (hi.own b (by simp [hx])).2.2
    rcases this with h | h
    · omega
    · exact absurd h hg
  · rw [ha]; split
    · rw [defers_put]; exact hi.defers
    · exact hi.defers
  · rw [ha]; split
    · rw [size_put]; exact hi.tmps
    · exact hi.tmps

def killF (i : Nat) (fr : List (Nat × D)) : List (Nat × D) := fr.map fun p => (p.1, p.2.kill i)
def killM (i : Nat) (M : List (Nat × Blk)) : List (Nat × Blk) := M.map fun p => (p.1, p.2.kill i)

theorem look_killF (i u : Nat) : ∀ fr : List (Nat × D), look (killF i fr) u = (look fr u).kill i
  | [] => rfl
  | (k, d) :: l => by
    simp only [killF, List.map_cons, look]
    split
    · rfl
    · exact look_killF i u l

theorem look_killM (i u : Nat) : ∀ M : List (Nat × Blk), lookM (killM i M) u = (lookM M u).map (Blk.kill i)
  | [] => rfl
  | (k, d) :: l => by
    simp only [killM, List.map_cons, lookM]
    split
    · rfl
    · exact look_killM i u l

/-- A temporary that has been moved away. -/
def eat (x : Operand) (d : D) (fr : List (Nat × D)) : List (Nat × D) :=
  if d.free then fr else match x with
  | .tmp u => (u, .top) :: fr
  | _ => fr

/-- Whose blocks an operand has. -/
def eats (x : Operand) (d : D) (y : Nat ⊕ Nat) : Prop := d.free = false ∧ ∃ u, x = .tmp u ∧ y = .inl u

theorem look_eat (x : Operand) (d : D) (fr : List (Nat × D)) (u : Nat) : (look (eat x d fr) u = look fr u ∧ ¬ eats x d (.inl u)) ∨ look (eat x d fr) u = .top := by
  unfold eat eats
  cases hd : d.free with
  | true => exact .inl ⟨by simp, by simp⟩
  | false =>
    cases x with
    | tmp v =>
      simp only [Bool.false_eq_true, if_false, look]
      split
      · exact .inr rfl
      · rename_i h
        exact .inl ⟨rfl, by rintro ⟨_, w, h1, h2⟩; cases h1; cases h2; exact h rfl⟩
    | _ => exact .inl ⟨by simp, by simp⟩

theorem relL_one' {w : World} {F : Nat → Prop} : ∀ {vs ts}, RelL w F vs ts → vs.all (·.oneCell') = true
  | _, _, .nil => rfl
  | _, _, .v h1 h2 => by rw [List.all_cons, h1, relL_one' h2]; rfl
  | _, _, .none h => by rw [List.all_cons, relL_one' h]; rfl
  | _, _, .list _ _ _ _ _ _ h => by rw [List.all_cons, relL_one' h]; rfl

/-- Of one cell. -/
def D.one : D → Bool
  | .t (.agg _) => false
  | .t _ | .nil | .ref _ _ _ | .sl _ _ _ | .rp _ _ | .clo _ _ => true
  | .own (.agg _) => false
  | .own _ => true
  | _ => false

theorem RelD.one {w : World} {F : Nat → Prop} {β : Place} {v d bs} (h : RelD w F β [v] [d] bs) (hd : d.one = true) : v.oneCell' = true ∧ v.cells = #[v] := by
  have key : v.oneCell' = true → v.oneCell' = true ∧ v.cells = #[v] := fun h => ⟨h, by cases v <;> first | rfl | (simp [Value.oneCell'] at h)⟩
  refine key ?_
  cases h with
  | t h1 _ => have := relL_one' h1; simpa using this
  | tagg => simp [D.one] at hd
  | agg => simp [D.one] at hd
  | tup => simp [D.one] at hd
  | top => simp [D.one] at hd
  | own h1 _ =>
    cases h1 with
    | v h _ => exact h
    | none _ => rfl
    | list _ _ _ _ _ _ _ _ => rfl
  | _ => rfl

/-- The cells of what is stored. -/
def boxD : D → Option (List D)
  | .agg l => some l
  | .t (.agg l) => some (l.map .t)
  | d => if d.one then some [d] else none

theorem relD_ts {w : World} {F : Nat → Prop} {β : Place} : ∀ {vs ts}, RelL w F vs ts → RelD w F β vs (ts.map D.t) []
  | [], [], _ => .done
  | [], _ :: _, h => by cases h
  | _ :: _, [], h => by cases h
  | _ :: _, _ :: _, h => .t h.cons.1 (relD_ts h.cons.2)

theorem RelD.boxD {w : World} {F : Nat → Prop} {β : Place} {v d bs ds} (h : RelD w F β [v] [d] bs) (hd : boxD d = some ds) : RelD w F β v.cells.toList ds bs ∧ v.cells.toList.all (·.oneCell') = true := by
  unfold Eng.boxD at hd
  split at hd
  · cases hd
    cases h with
    | agg h0 h1 h2 => cases h2; exact ⟨by simpa [Value.cells] using h1, h0⟩
  · cases hd
    cases h with
    | t h1 _ => cases h1
    | tagg h1 h2 => cases h2; exact ⟨relD_ts h1, relL_one' h1⟩
  · split at hd
    · rename_i hone
      cases hd
      obtain ⟨h1, h2⟩ := h.one hone
      rw [h2]
      exact ⟨h, by simpa using h1⟩
    · cases hd

theorem Conc.opdOwn {a : Act} {w : World} {F β fb mb ow} (h : Conc c s a w F β fb mb ow) (x : Operand) :
    ∃ bs, RelD w F β [a.eval x] [Eng.opd s.fr x] bs ∧ bs.Nodup ∧ ∀ b, b ∈ bs → ∃ y, ow b = some y ∧ eats x (Eng.opd s.fr x) y := by
  obtain ⟨bs, hr, h1⟩ := h.opd x
  refine ⟨bs, hr, ?_, fun b hb => ?_⟩
  · rcases h1 with rfl | ⟨t, _, rfl⟩
    · simp
    · exact h.nfr t
  · rcases h1 with rfl | ⟨t, rfl, rfl⟩
    · cases hb
    · refine ⟨_, h.ofr t b hb, ?_, t, rfl, rfl⟩
      cases hf : (Eng.opd s.fr (.tmp t)).free with
      | false => rfl
      | true => rw [hr.free1 hf] at hb; cases hb

theorem run_new_var {w : World} (e : TypeId) (v : Value) : (newVar e v).run P w = .ok ⟨w.heap.size, 0, none⟩ (w.alloc (.cells v.cells e)) := rfl

/-- A new variable. -/
theorem Conc.newbox {a : Act} {w : World} {F β fb mb ow} (hi : Conc c s a w F β fb mb ow) {t : Nat} (ht : t < c.n) (x : Operand) (dx : D) {arr : Array Value} {ds : List D} {bs : List Nat} (e : TypeId)
    (hr : RelD w F β arr.toList ds bs) (hone : arr.toList.all (·.oneCell') = true) (hnd : bs.Nodup) (hbs : ∀ b, b ∈ bs → ∃ y, ow b = some y ∧ eats x dx y) :
    Is c ⟨(t, .ref t 0 0) :: eat x dx (killF t s.fr), (t, .box (ds.map (D.kill t))) :: killM t s.M⟩ (a.put (some t) (.pointer (some ⟨w.heap.size, 0, none⟩))) (w.alloc (.cells arr e)) := by
  have hβ : ∀ id, id ≠ t → (fun id => if id = t then some (w.heap.size, ds.length, 1) else β id) id = β id := fun id h => by simp [h]
  have hold : ∀ b, b < w.heap.size → (w.alloc (.cells arr e)).heap[b]? = w.heap[b]? := fun b hb => Below.heap_alloc w _ b hb
  obtain ⟨bs', hs, hr'⟩ := hr.killL (i := t) hβ
  have hin : ∀ b, b ∈ bs → b < w.heap.size := fun b hb => by
    obtain ⟨y, hy, _⟩ := hbs b hb
    exact (hi.own b (by simp [hy])).2.1
  refine hi.renew t (Anew.kill hβ) (eats x dx) (w.heap.size :: bs') (.box (ds.map (D.kill t))) (some (t, .pointer (some ⟨w.heap.size, 0, none⟩), .ref t 0 0)) rfl ?_ rfl rfl rfl (by simp)
    (fun b hb _ => hold b hb) ?_ (by simp [lookM]) ?_ ?_ ?_ ?_
  · rintro t' v d h
    cases h
    refine ⟨ht, ?_, by simp [look]⟩
    have := RelD.ref (w := w.alloc (.cells arr e)) (F := F) (β := fun id => if id = t then some (w.heap.size, ds.length, 1) else β id) (id := t) (i := 0) (off := 0) (b := w.heap.size) (n := ds.length) (c := 1) (by simp) .done
    simpa using this
  · intro u hu
    have hut := hu _ _ _ rfl
    simp only [look, if_neg (Ne.symm hut)]
    rcases look_eat x dx (killF t s.fr) u with ⟨h1, h2⟩ | h1
    · exact .inl ⟨by rw [h1, look_killF], h2⟩
    · exact .inr h1
  · refine ⟨w.heap.size, arr, e, bs', by simp, heap_alloc_new w _, ?_, hone, rfl⟩
    exact hr'.mono (fun _ h => h) (fun b hb => hold b (hi.fin b hb)) (fun b hb => hold b (hin b (hs.subset hb))) fun _ => rfl
  · refine List.nodup_cons.2 ⟨fun h => ?_, hnd.sublist hs⟩
    have := hin _ (hs.subset h)
    omega
  · intro b hb
    rcases List.mem_cons.1 hb with rfl | hb
    · exact .inl ⟨Nat.le_refl _, by simp⟩
    · obtain ⟨y, h1, h2⟩ := hbs b (hs.subset hb)
      exact .inr ⟨y, h1, .inl h2⟩
  · intro id hid
    simp only [lookM, if_neg (Ne.symm hid)]
    rw [look_killM]
    exact .inr ⟨(by rintro ⟨_, u, _, h⟩; cases h), rfl⟩

theorem WO_box {t e : Nat} {x : Operand} {ds : List D} (hg : o.guard = none) (hd : o.dst = some t) (ht : t < c.n) (ho : o.op = .box e x) (hx : boxD (opd s.fr x) = some ds)
    (k : WO P c ops rest ⟨(t, .ref t 0 0) :: eat x (opd s.fr x) (killF t s.fr), (t, .box (ds.map (D.kill t))) :: killM t s.M⟩ Q) : WO P c ops (o :: rest) s Q := by
  rintro a w ⟨F, β, fb, mb, ow, hi⟩
  obtain ⟨bs, hr, h1, h2⟩ := hi.opdOwn x
  obtain ⟨h3, h4⟩ := hr.boxD hx
  refine wpList_plain hg fun K hK => ?_
  unfold Oper.wp
  have hrun : (execOp a.eval o).run P w = .ok (.value (.pointer (some ⟨w.heap.size, 0, none⟩))) (w.alloc (.cells (a.eval x).cells e)) := by
    simp [execOp, ho, Instr.box, run_new_var]
  rw [hrun, Oper.upon_value, hd]
  exact hK _ _ (k _ _ (hi.newbox ht x _ e h3 h4 h1 h2))

/-- A value that a type begins with. -/
def constD (v : Value) : D := match v with
  | .slice none 0 0 => .nil
  | .agg _ => .top
  | .tuple _ => .top
  | v => .t (.v v)

theorem constD_rel {w : World} {F : Nat → Prop} {β : Place} (v : Value) : RelD w F β [v] [constD v] [] := by
  unfold constD
  split
  · exact .nil .done
  · exact .top .done
  · exact .top .done
  · rename_i h1 h2 h3
    refine .t (.v ?_ .nil) .done
    cases v <;> first | rfl | exact (h2 _ rfl).elim | exact (h3 _ rfl).elim

theorem constD_rels {w : World} {F : Nat → Prop} {β : Place} : ∀ l : List Value, RelD w F β l (l.map constD) []
  | [] => .done
  | v :: l => RelD.cons' (constD_rel v) (constD_rels l)

theorem WO_alloc {Γ : Tys} (hΓ : Γ.ok P) {t e : Nat} {ti : TI} (hg : o.guard = none) (hd : o.dst = some t) (ht : t < c.n) (ho : o.op = .alloc e) (h1 : tyOf Γ e = some ti) (h2 : ti.zero.all (·.oneCell') = true)
    (k : WO P c ops rest ⟨(t, .ref t 0 0) :: killF t s.fr, (t, .box (ti.zero.map constD)) :: killM t s.M⟩ Q) : WO P c ops (o :: rest) s Q := by
  rintro a w ⟨F, β, fb, mb, ow, hi⟩
  obtain ⟨⟨i, z, q1, q2, q3, q4, q5⟩, _⟩ := hΓ.get h1
  refine wpList_plain hg fun K hK => ?_
  unfold Oper.wp
  have hrun : (execOp a.eval o).run P w = .ok (.value (.pointer (some ⟨w.heap.size, 0, none⟩))) (w.alloc (.cells z.cells e)) := by
    simp [execOp, ho, Instr.alloc, zeroValue, typeInfo, q1, q4, run_new_var]
  rw [hrun, Oper.upon_value, hd]
  refine hK _ _ (k _ _ ?_)
  have := hi.newbox ht (.const .nilIface) (.nil) (arr := z.cells) (ds := ti.zero.map constD) e (by rw [q5]; exact constD_rels _) (by rw [q5]; exact h2) List.nodup_nil (by simp)
  have hk : (ti.zero.map constD).map (D.kill t) = ti.zero.map constD := by
    rw [List.map_map]
    refine List.map_congr_left fun v _ => ?_
    show D.kill t (constD v) = constD v
    unfold constD D.kill
    split <;> rfl
  rw [hk] at this
  simpa [eat, D.free] using this

def splice {α : Type} (l : List α) (off : Nat) (ds : List α) : List α := l.take off ++ ds ++ l.drop (off + ds.length)

theorem RelD.append {w : World} {F : Nat → Prop} {β : Place} : ∀ {vs ds bs vs' ds' bs'}, RelD w F β vs ds bs → RelD w F β vs' ds' bs' → RelD w F β (vs ++ vs') (ds ++ ds') (bs ++ bs')
  | [], [], _, _, _, _, h, k => by cases h; exact k
  | [], _ :: _, _, _, _, _, h, _ => by cases h
  | _ :: _, [], _, _, _, _, h, _ => by cases h
  | _ :: _, _ :: _, _, _, _, _, h, k => by
    obtain ⟨b1, b2, h1, h2, rfl⟩ := h.cons
    rw [List.append_assoc]
    exact RelD.cons' h1 (RelD.append h2 k)

theorem RelD.split {w : World} {F : Nat → Prop} {β : Place} : ∀ {vs ds bs} (k : Nat), RelD w F β vs ds bs → ∃ b1 b2, bs = b1 ++ b2 ∧ RelD w F β (vs.take k) (ds.take k) b1 ∧ RelD w F β (vs.drop k) (ds.drop k) b2
  | _, _, bs, 0, h => ⟨[], bs, rfl, by simpa using RelD.done, h⟩
  | [], [], _, _ + 1, h => by cases h; exact ⟨[], [], rfl, .done, .done⟩
  | [], _ :: _, _, _, h => by cases h
  | _ :: _, [], _, _, h => by cases h
  | _ :: _, _ :: _, _, k + 1, h => by
    obtain ⟨b1, b2, h1, h2, rfl⟩ := h.cons
    obtain ⟨b3, b4, rfl, h3, h4⟩ := RelD.split k h2
    exact ⟨b1 ++ b3, b4, by simp, RelD.cons' h1 h3, h4⟩

theorem RelD.splice {w : World} {F : Nat → Prop} {β : Place} {vs ds bs vs' ds' bs'} (h : RelD w F β vs ds bs) (h' : RelD w F β vs' ds' bs') (off : Nat) :
    ∃ b1 b3, List.Sublist (b1 ++ b3) bs ∧ RelD w F β (Eng.splice vs off vs') (Eng.splice ds off ds') (b1 ++ bs' ++ b3) := by
  obtain ⟨b1, b2, rfl, h1, h2⟩ := h.split off
  obtain ⟨b3, b4, rfl, _, h4⟩ := h2.split ds'.length
  refine ⟨b1, b4, by simp, (h1.append h').append ?_⟩
  rw [h'.length]
  simpa [List.drop_drop] using h4

theorem nodup_splice {b1 b3 bs bs' : List Nat} (hs : List.Sublist (b1 ++ b3) bs) (h : bs.Nodup) (h' : bs'.Nodup) (hd : ∀ b, b ∈ bs → b ∉ bs') : (b1 ++ bs' ++ b3).Nodup := by
  have h1 := h.sublist hs
  rw [List.nodup_append] at h1
  have hb1 : ∀ x, x ∈ b1 → x ∉ bs' := fun x hx => hd x (hs.subset (by simp [hx]))
  have hb3 : ∀ x, x ∈ b3 → x ∉ bs' := fun x hx => hd x (hs.subset (by simp [hx]))
  rw [List.nodup_append, List.nodup_append]
  refine ⟨⟨h1.1, h', fun a ha b hb e => hb1 a ha (e ▸ hb)⟩, h1.2.1, fun a ha b hb e => ?_⟩
  rcases List.mem_append.1 ha with ha | ha
  · exact h1.2.2 a ha b hb e
  · exact hb3 b hb (e ▸ ha)

theorem run_storeAt {ty : Nat} {ti : TI} (ht : ti.ok P ty) {b off : Nat} {arr : Array Value} {e : TypeId} {v : Value} {w : World} (hh : w.heap[b]? = some (.cells arr e (0, 0))) (hl : v.cells.size = ti.size)
    (hone : v.cells.toList.all (·.oneCell') = true) (hle : off + v.cells.size ≤ arr.size) :
    (Instr.storeAt ty (.pointer (some ⟨b, off, none⟩)) v).run P w = .ok () (w.setRow b (splice arr.toList off v.cells.toList).toArray) := by
  have := run_storeCells_at (P := P) b off e v.cells.toList 0 arr w hh (by simpa using hle) (fun v hv => List.all_eq_true.1 hone v hv)
  simp only [Nat.add_zero] at this
  simp only [Instr.storeAt, Sem.run_bind, Instr.sureAddr, Sem.run_pure, Result.andThen_ok, storeVar, run_sizeOf ht, hl, ne_eq, not_true, if_false, Sem.run_ite]
  exact this

theorem setRow_os (w : World) (g : Nat) (cs : Array Value) : (w.setRow g cs).os = w.os ∧ (w.setRow g cs).tape = w.tape ∧ (w.setRow g cs).output = w.output := ⟨rfl, rfl, rfl⟩

theorem all_splice {arr vs : List Value} (off : Nat) (h1 : arr.all (·.oneCell') = true) (h2 : vs.all (·.oneCell') = true) : (splice arr off vs).all (·.oneCell') = true := by
  rw [List.all_eq_true] at *
  intro x hx
  unfold splice at hx
  rcases List.mem_append.1 hx with hx | hx
  · rcases List.mem_append.1 hx with hx | hx
    · exact h1 x (List.mem_of_mem_take hx)
    · exact h2 x hx
  · exact h1 x (List.mem_of_mem_drop hx)

theorem length_splice {α : Type} {l ds : List α} {off : Nat} (h : off + ds.length ≤ l.length) : (splice l off ds).length = l.length := by
  simp [splice]; omega

/-- A store into a variable. -/
theorem WO_store {Γ : Tys} (hΓ : Γ.ok P) {ty id off : Nat} {x y : Operand} {ti : TI} {cells ds : List D} (hg : o.guard = none) (hd : o.dst = none) (ho : o.op = .store ty x y) (h1 : tyOf Γ ty = some ti)
    (hx : opd s.fr x = .ref id 0 off) (hM : lookM s.M id = some (.box cells)) (hy : boxD (opd s.fr y) = some ds) (hl : ds.length = ti.size) (hle : off + ds.length ≤ cells.length)
    (k : WO P c ops rest ⟨eat y (opd s.fr y) s.fr, (id, .box (splice cells off ds)) :: s.M⟩ Q) : WO P c ops (o :: rest) s Q := by
  rintro a w ⟨F, β, fb, mb, ow, hi⟩
  obtain ⟨bs, hr, hnd, hbs⟩ := hi.opdOwn y
  obtain ⟨h3, h4⟩ := hr.boxD hy
  obtain ⟨bx, hrx, _⟩ := hi.opd x
  rw [hx] at hrx
  have hm := hi.mem id
  rw [hM] at hm
  obtain ⟨b, arr, e, bs1, hb1, hb2, hb3, hb4, hb5⟩ := hm
  have hmb : b ∈ mb id := by rw [hb5]; simp
  have hob := hi.omem id b hmb
  have hlen := h3.length
  have hlen2 := hb3.length
  simp only [Array.length_toList] at hlen hlen2
  generalize hev : a.eval x = xv at hrx
  cases hrx with
  | ref q1 q2 =>
    rw [hb1] at q1
    cases q1
    refine wpList_plain hg fun K hK => ?_
    unfold Oper.wp
    have hrun : (execOp a.eval o).run P w = .ok .skip (w.setRow b (splice arr.toList off (a.eval y).cells.toList).toArray) := by
      have := run_storeAt (hΓ.get h1) (off := off) hb2 (by rw [hlen, hl]) h4 (by omega)
      simp only [execOp, ho, hev, Sem.run_bind, Nat.zero_mul, Nat.zero_add, this, Result.andThen_ok]
      rfl
    rw [hrun, Oper.upon_skip, hd]
    refine hK _ _ (k _ _ ?_)
    have hkeep : ∀ b', b' ≠ b → (w.setRow b (splice arr.toList off (a.eval y).cells.toList).toArray).heap[b']? = w.heap[b']? := fun b' h => setRow_other w b b' _ h
    have hbF : ¬ F b := (hi.own b (by simp [hob])).1
    have hF : ∀ b', F b' → (w.setRow b (splice arr.toList off (a.eval y).cells.toList).toArray).heap[b']? = w.heap[b']? := fun b' h => hkeep b' fun e => hbF (e ▸ h)
    obtain ⟨b1, b3, hs, hsp⟩ := hb3.splice h3 off
    have hbnot : ∀ b', b' ∈ bs → b' ≠ b := fun b' h e => by
      subst e
      obtain ⟨z, h5, _, u, _, h6⟩ := hbs _ h
      rw [hob] at h5
      cases h5
      cases h6
    have hnd1 := hi.nmem id
    rw [hb5] at hnd1
    have hbnot1 : ∀ b', b' ∈ bs1 → b' ≠ b := fun b' h e => by subst e; exact (List.nodup_cons.1 hnd1).1 h
    have hdis : ∀ b', b' ∈ bs1 → b' ∉ bs := fun b' h h' => by
      obtain ⟨z, h5, _, u, _, h6⟩ := hbs _ h'
      have := hi.omem id b' (by rw [hb5]; simp [h])
      rw [this] at h5
      cases h5
      cases h6
    refine hi.renew id (Anew.same id β) (eats y (opd s.fr y)) (b :: (b1 ++ bs ++ b3)) (.box (splice cells off ds)) none rfl (by simp) rfl rfl rfl (by simp)
      (fun b' hb' h => hkeep b' fun e => (h _ (e ▸ hob)).2 rfl) ?_ (by simp [lookM]) ?_ ?_ ?_ ?_
    · intro u _
      rcases look_eat y (opd s.fr y) s.fr u with ⟨h5, h6⟩ | h5
      · exact .inl ⟨h5, h6⟩
      · exact .inr h5
    · refine ⟨b, _, e, _, by rw [length_splice hle]; exact hb1, setRow_heap w b arr _ e _ hb2, ?_, ?_, rfl⟩
      · refine (hsp.mono (fun _ h => h) hF (fun b' h => hkeep b' ?_) fun _ => rfl)
        rcases List.mem_append.1 h with h | h
        · rcases List.mem_append.1 h with h | h
          · exact hbnot1 b' (hs.subset (by simp [h]))
          · exact hbnot b' h
        · exact hbnot1 b' (hs.subset (by simp [h]))
      · exact all_splice off hb4 h4
    · refine List.nodup_cons.2 ⟨fun h => ?_, nodup_splice hs (List.nodup_cons.1 hnd1).2 hnd hdis⟩
      rcases List.mem_append.1 h with h | h
      · rcases List.mem_append.1 h with h | h
        · exact hbnot1 b (hs.subset (by simp [h])) rfl
        · exact hbnot b h rfl
      · exact hbnot1 b (hs.subset (by simp [h])) rfl
    · intro b' h
      rcases List.mem_cons.1 h with rfl | h
      · exact .inr ⟨_, hob, .inr rfl⟩
      · rcases List.mem_append.1 h with h | h
        · rcases List.mem_append.1 h with h | h
          · exact .inr ⟨_, hi.omem id b' (by rw [hb5]; exact List.mem_cons_of_mem _ (hs.subset (by simp [h]))), .inr rfl⟩
          · obtain ⟨z, h5, h6⟩ := hbs b' h
            exact .inr ⟨z, h5, .inl h6⟩
        · exact .inr ⟨_, hi.omem id b' (by rw [hb5]; exact List.mem_cons_of_mem _ (hs.subset (by simp [h]))), .inr rfl⟩
    · intro id' hid
      simp only [lookM, if_neg (Ne.symm hid)]
      refine .inr ⟨(by rintro ⟨_, u, _, h⟩; cases h), ?_⟩
      cases lookM s.M id' <;> rfl

end
end Go.Eng
