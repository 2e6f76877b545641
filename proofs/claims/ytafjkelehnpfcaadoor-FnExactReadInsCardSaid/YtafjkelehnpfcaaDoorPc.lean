/- Which functions calls lead to, how deep, and by how much fuel: plain laws. -/
import Derived.Test.YtafjkelehnpfcaaDoorPo
set_option linter.unusedVariables false
set_option linter.unusedSimpArgs false
namespace Go.Proofs.YtafjkelehnpfcaaDoor

/-- Rising lists with the same members are the same. -/
theorem rise_ext : ∀ {a b : List Int}, a.Pairwise (· < ·) → b.Pairwise (· < ·) → (∀ x, x ∈ a ↔ x ∈ b) → a = b
  | [], [], _, _, _ => rfl
  | [], y :: b, _, _, h => by have := (h y).2 (List.mem_cons_self ..); cases this
  | x :: a, [], _, _, h => by have := (h x).1 (List.mem_cons_self ..); cases this
  | x :: a, y :: b, ha, hb, h => by
    rw [List.pairwise_cons] at ha hb
    have e : x = y := by
      have h1 := (h x).1 (List.mem_cons_self ..)
      have h2 := (h y).2 (List.mem_cons_self ..)
      rcases List.mem_cons.1 h1 with h1 | h1
      · exact h1
      · rcases List.mem_cons.1 h2 with h2 | h2
        · exact h2.symm
        · have := ha.1 _ h2; have := hb.1 _ h1; omega
    subst e
    rw [rise_ext ha.2 hb.2 fun z => ?_]
    constructor
    · intro hz
      rcases List.mem_cons.1 ((h z).1 (List.mem_cons_of_mem _ hz)) with e | e
      · have := ha.1 _ hz; omega
      · exact e
    · intro hz
      rcases List.mem_cons.1 ((h z).2 (List.mem_cons_of_mem _ hz)) with e | e
      · have := hb.1 _ hz; omega
      · exact e

/-- Those of the first N that are so. -/
def pickN (N : Nat) (p : Int → Bool) : List Int := (upto N).filter p
theorem mem_pickN {N : Nat} {p : Int → Bool} {x : Int} : x ∈ pickN N p ↔ (0 ≤ x ∧ x < N) ∧ p x = true := by
  rw [pickN, List.mem_filter, mem_upto]
theorem pickN_lt (N : Nat) (p : Int → Bool) : (pickN N p).Pairwise (· < ·) := (upto_lt N).filter _
theorem pickN_len (N : Nat) (p : Int → Bool) : (pickN N p).length ≤ N := by
  have := List.length_filter_le p (upto N)
  unfold pickN
  have e : (upto N).length = N := by unfold upto; simp
  omega

/-- What calls lead to. -/
inductive Lead (calls : Int → List Int) (a : Int) : Int → Prop
  | refl : Lead calls a a
  | step {b c : Int} : Lead calls a b → c ∈ calls b → Lead calls a c
theorem Lead.trans {calls : Int → List Int} {a b c : Int} (h : Lead calls a b) (h2 : Lead calls b c) : Lead calls a c := by
  induction h2 with
  | refl => exact h
  | step _ hc ih => exact .step ih hc
theorem Lead.head {calls : Int → List Int} {a b c : Int} (h : b ∈ calls a) (h2 : Lead calls b c) : Lead calls a c := (Lead.step .refl h).trans h2

def InN (N : Nat) (calls : Int → List Int) : Prop := ∀ a c, c ∈ calls a → 0 ≤ c ∧ c < N
def grow (N : Nat) (calls : Int → List Int) (S : Int → Bool) (b : Int) : Bool := S b || (upto N).any fun c => S c && decide (b ∈ calls c)
def stepN (N : Nat) (calls : Int → List Int) (a : Int) : Nat → Int → Bool
  | 0 => fun b => decide (a = b)
  | n + 1 => grow N calls (stepN N calls a n)
def reachB (N : Nat) (calls : Int → List Int) (a b : Int) : Bool := stepN N calls a N b
def reachL (N : Nat) (calls : Int → List Int) (a : Int) : List Int := pickN N (reachB N calls a)

section
variable {N : Nat} {calls : Int → List Int} {a : Int}
theorem stepN_lead : ∀ (n : Nat) {b : Int}, stepN N calls a n b = true → Lead calls a b
  | 0, b, h => by
    have : a = b := of_decide_eq_true h
    subst this; exact .refl
  | n + 1, b, h => by
    rw [stepN, grow, Bool.or_eq_true] at h
    rcases h with h | h
    · exact stepN_lead n h
    · rw [List.any_eq_true] at h
      obtain ⟨c, _, hc⟩ := h
      rw [Bool.and_eq_true, decide_eq_true_iff] at hc
      exact .step (stepN_lead n hc.1) hc.2
theorem stepN_up (n : Nat) {b : Int} (h : stepN N calls a n b = true) : stepN N calls a (n + 1) b = true := by
  rw [stepN, grow, h]; rfl
theorem stepN_le {n m : Nat} (hnm : n ≤ m) {b : Int} (h : stepN N calls a n b = true) : stepN N calls a m b = true := by
  induction hnm with
  | refl => exact h
  | step _ ih => exact stepN_up _ ih
def stable (N : Nat) (calls : Int → List Int) (a : Int) (n : Nat) : Prop := ∀ b : Int, 0 ≤ b → b < N → stepN N calls a (n + 1) b = true → stepN N calls a n b = true
theorem filter_lt {α : Type} {p q : α → Bool} : ∀ {l : List α}, (∀ x, x ∈ l → p x = true → q x = true) → (∃ x, x ∈ l ∧ q x = true ∧ p x = false) → (l.filter p).length < (l.filter q).length
  | [], _, h => by obtain ⟨x, hx, _⟩ := h; cases hx
  | x :: l, h1, h2 => by
    have hle : ∀ {l : List α}, (∀ x, x ∈ l → p x = true → q x = true) → (l.filter p).length ≤ (l.filter q).length := by
      intro l
      induction l with
      | nil => intro _; simp
      | cons y l ih =>
        intro h
        have ih := ih fun z hz => h z (List.mem_cons_of_mem _ hz)
        have hy := h y (List.mem_cons_self ..)
        rw [List.filter_cons, List.filter_cons]
        by_cases hp : p y = true
        · rw [if_pos hp, if_pos (hy hp), List.length_cons, List.length_cons]; omega
        · rw [if_neg hp]; split <;> (try rw [List.length_cons]) <;> omega
    have h1' : ∀ y, y ∈ l → p y = true → q y = true := fun y hy => h1 y (List.mem_cons_of_mem _ hy)
    obtain ⟨y, hy, hq, hp⟩ := h2
    rcases List.mem_cons.1 hy with rfl | hy
    · have := hle h1'
      rw [List.filter_cons, List.filter_cons, if_neg (by simp [hp]), if_pos hq, List.length_cons]; omega
    · have ih := filter_lt h1' ⟨y, hy, hq, hp⟩
      have hx := h1 x (List.mem_cons_self ..)
      rw [List.filter_cons, List.filter_cons]
      by_cases hp : p x = true
      · rw [if_pos hp, if_pos (hx hp), List.length_cons, List.length_cons]; omega
      · rw [if_neg hp]; split <;> (try rw [List.length_cons]) <;> omega
theorem stepN_grows (h0 : 0 ≤ a) (h1 : a < N) : ∀ n : Nat, (∃ m, m ≤ n ∧ stable N calls a m) ∨ n + 1 ≤ (pickN N (stepN N calls a n)).length
  | 0 => by
    right
    have : a ∈ pickN N (stepN N calls a 0) := mem_pickN.2 ⟨⟨h0, h1⟩, decide_eq_true rfl⟩
    have := List.length_pos_of_mem this
    omega
  | n + 1 => by
    rcases stepN_grows h0 h1 n with ⟨m, hm, h⟩ | h
    · exact .inl ⟨m, by omega, h⟩
    · by_cases hs : stable N calls a n
      · exact .inl ⟨n, by omega, hs⟩
      · right
        have : ∃ b : Int, (0 ≤ b ∧ b < N) ∧ stepN N calls a (n + 1) b = true ∧ stepN N calls a n b = false := by
          refine Classical.byContradiction fun hc => hs fun b b0 b1 hb => ?_
          cases e : stepN N calls a n b with
          | true => rfl
          | false => exact absurd ⟨b, ⟨b0, b1⟩, hb, e⟩ hc
        obtain ⟨b, hb, hb1, hb2⟩ := this
        have := filter_lt (l := upto N) (p := stepN N calls a n) (q := stepN N calls a (n + 1)) (fun x _ hx => stepN_up n hx) ⟨b, mem_upto.2 hb, hb1, hb2⟩
        unfold pickN at h ⊢
        omega
theorem stable_next (hc : InN N calls) {n : Nat} (h : stable N calls a n) : stable N calls a (n + 1) := by
  intro b b0 b1 hb
  rw [stepN, grow, Bool.or_eq_true] at hb
  rcases hb with hb | hb
  · exact hb
  · rw [List.any_eq_true] at hb
    obtain ⟨c, hcN, hcb⟩ := hb
    rw [Bool.and_eq_true] at hcb
    have hcN := mem_upto.1 hcN
    have := h c hcN.1 hcN.2 hcb.1
    rw [stepN, grow, Bool.or_eq_true, List.any_eq_true]
    exact .inr ⟨c, mem_upto.2 hcN, by rw [Bool.and_eq_true]; exact ⟨this, hcb.2⟩⟩
theorem stable_all (hc : InN N calls) (h0 : 0 ≤ a) (h1 : a < N) : stable N calls a N := by
  rcases stepN_grows (calls := calls) h0 h1 N with ⟨m, hm, h⟩ | h
  · obtain ⟨d, rfl⟩ : ∃ d, N = m + d := ⟨N - m, by omega⟩
    generalize hK : m + d = K at h hc h1 ⊢
    have : ∀ d, stable K calls a (m + d) := by
      intro d
      induction d with
      | zero => exact h
      | succ d ih => exact stable_next hc ih
    rw [← hK] at *
    exact this d
  · have := pickN_len N (stepN N calls a N)
    omega
theorem lead_in (hc : InN N calls) (h0 : 0 ≤ a) (h1 : a < N) {b : Int} (h : Lead calls a b) : 0 ≤ b ∧ b < N := by
  cases h with
  | refl => exact ⟨h0, h1⟩
  | step _ h => exact hc _ _ h
theorem reachB_iff (hc : InN N calls) (h0 : 0 ≤ a) (h1 : a < N) {b : Int} : reachB N calls a b = true ↔ Lead calls a b := by
  refine ⟨stepN_lead N, fun h => ?_⟩
  induction h with
  | refl => exact stepN_le (Nat.zero_le N) (decide_eq_true rfl)
  | step h hcb ih =>
    rename_i b c
    have hb := lead_in hc h0 h1 h
    have hcc := hc _ _ hcb
    refine stable_all hc h0 h1 c hcc.1 hcc.2 ?_
    rw [stepN, grow, Bool.or_eq_true, List.any_eq_true]
    exact .inr ⟨b, mem_upto.2 hb, by rw [Bool.and_eq_true, decide_eq_true_iff]; exact ⟨ih, hcb⟩⟩
theorem mem_reachL (hc : InN N calls) (h0 : 0 ≤ a) (h1 : a < N) {b : Int} : b ∈ reachL N calls a ↔ Lead calls a b := by
  rw [reachL, mem_pickN, reachB_iff hc h0 h1]
  exact ⟨fun h => h.2, fun h => ⟨lead_in hc h0 h1 h, h⟩⟩
/-- What is closed under calls, holds the first, and holds but what is led to, is what is led to. -/
theorem reach_closed (hc : InN N calls) (h0 : 0 ≤ a) (h1 : a < N) {S : Int → Prop} (ha : S a) (hs : ∀ x, S x → ∀ c, c ∈ calls x → S c) (hl : ∀ x, S x → Lead calls a x) {b : Int} : b ∈ reachL N calls a ↔ S b := by
  rw [mem_reachL hc h0 h1]
  refine ⟨fun h => ?_, hl b⟩
  induction h with
  | refl => exact ha
  | step _ hcb ih => exact hs _ ih _ hcb
end

/-- A number is put to its place, once. -/
def put (l : List Int) (n : Int) : List Int := if n ∈ l then l else l.takeWhile (fun x => decide (x < n)) ++ n :: l.dropWhile (fun x => decide (x < n))
/-- The numbers of a list, rising, each once. -/
def setN (N : Nat) (l : List Int) : List Int := pickN N fun x => decide (x ∈ l)
theorem mem_setN {N : Nat} {l : List Int} {x : Int} : x ∈ setN N l ↔ (0 ≤ x ∧ x < N) ∧ x ∈ l := by rw [setN, mem_pickN]; simp
end Go.Proofs.YtafjkelehnpfcaaDoor
