/- Walks of what is reached from a function. -/
import Derived.Test.YtafjkelehnpfcaaDoorGe
set_option linter.unusedVariables false
set_option linter.unusedSimpArgs false
set_option maxRecDepth 10000
set_option maxHeartbeats 1000000
namespace Go.Proofs.YtafjkelehnpfcaaDoor
open Go.Eng

theorem nodup_len {l : List Int} : ∀ {m : List Int}, l.Nodup → (∀ x, x ∈ l → x ∈ m) → l.length ≤ m.length := by
  induction l with
  | nil => intro m _ _; exact Nat.zero_le _
  | cons x l ih =>
    intro m hn hm
    rw [List.nodup_cons] at hn
    have hx := hm x (List.mem_cons_self ..)
    have := ih (m := m.erase x) hn.2 fun y hy => (List.mem_erase_of_ne fun e => hn.1 (by rw [← e]; exact hy)).2 (hm y (List.mem_cons_of_mem _ hy))
    have h2 := List.length_erase_of_mem hx
    have h3 := List.length_pos_of_mem hx
    rw [List.length_cons]; omega

/-- The functions that have been met, those before k with all that they call. -/
structure Met (N : Nat) (calls : Int → List Int) (fn : Int) (met : List Int) (k : Nat) : Prop where
  nodup : met.Nodup
  lead : ∀ x, x ∈ met → Lead calls fn x
  first : fn ∈ met
  closed : ∀ (i : Nat) (h : i < met.length), i < k → ∀ c, c ∈ calls met[i] → c ∈ met
section
variable {N : Nat} {calls : Int → List Int} {fn : Int} {met : List Int} {k : Nat}
theorem Met.inN (h : Met N calls fn met k) (hc : InN N calls) (h0 : 0 ≤ fn) (h1 : fn < N) {x : Int} (hx : x ∈ met) : 0 ≤ x ∧ x < N := lead_in hc h0 h1 (h.lead x hx)
theorem Met.len (h : Met N calls fn met k) (hc : InN N calls) (h0 : 0 ≤ fn) (h1 : fn < N) : met.length ≤ N := by
  have := nodup_len (m := upto N) h.nodup fun x hx => mem_upto.2 (h.inN hc h0 h1 hx)
  rwa [upto_len] at this
theorem Met.add (h : Met N calls fn met k) (hk : k ≤ met.length) {x y : Int} (hx : x ∈ met) (hy : y ∈ calls x) (hn : y ∉ met) : Met N calls fn (met ++ [y]) k := by
  refine ⟨?_, fun z hz => ?_, List.mem_append_left _ h.first, fun i hi hik c hcc => ?_⟩
  · rw [List.nodup_append]
    exact ⟨h.nodup, by simp, fun a ha b hb e => hn (by rw [List.mem_singleton] at hb; rw [← hb, ← e]; exact ha)⟩
  · rcases List.mem_append.1 hz with hz | hz
    · exact h.lead z hz
    · rw [List.mem_singleton] at hz; subst hz; exact .step (h.lead x hx) hy
  · rw [List.getElem_append_left (by omega)] at hcc
    exact List.mem_append_left _ (h.closed i (by omega) hik c hcc)
theorem Met.next (h : Met N calls fn met k) (hk : k < met.length) (hc : ∀ c, c ∈ calls met[k] → c ∈ met) : Met N calls fn met (k + 1) :=
  ⟨h.nodup, h.lead, h.first, fun i hi hik => by
    by_cases e : i = k
    · subst e; exact hc
    · exact h.closed i hi (by omega)⟩
theorem Met.done (h : Met N calls fn met k) (hc : InN N calls) (h0 : 0 ≤ fn) (h1 : fn < N) (hN : N ≤ 5) (hk : met.length ≤ k) : setN 5 met = reachL N calls fn := by
  refine rise_ext (pickN_lt ..) (pickN_lt ..) fun x => ?_
  rw [reach_closed (S := fun x => x ∈ met) hc h0 h1 h.first (fun x hx c hcc => by
    obtain ⟨i, hi, rfl⟩ := List.getElem_of_mem hx
    exact h.closed i hi (by omega) c hcc) h.lead]
  rw [mem_setN]
  refine ⟨fun h => h.2, fun hx => ⟨?_, hx⟩⟩
  have := h.inN hc h0 h1 hx
  omega
end
/-- A search: what has been seen, and what is still open. -/
structure Dfs (calls : Int → List Int) (fn : Int) (S ol : List Int) : Prop where
  leadS : ∀ x, x ∈ S → Lead calls fn x
  leadO : ∀ x, x ∈ ol → Lead calls fn x
  first : fn ∈ S ∨ fn ∈ ol
  closed : ∀ x, x ∈ S → ∀ c, c ∈ calls x → c ∈ S ∨ c ∈ ol
section
variable {N : Nat} {calls : Int → List Int} {fn x : Int} {S ol : List Int}
theorem Dfs.skip (h : Dfs calls fn S (ol ++ [x])) (hx : x ∈ S) : Dfs calls fn S ol := by
  have key : ∀ c, c ∈ ol ++ [x] → c ∈ S ∨ c ∈ ol := fun c hc => by
    rcases List.mem_append.1 hc with hc | hc
    · exact .inr hc
    · rw [List.mem_singleton] at hc; subst hc; exact .inl hx
  exact ⟨h.leadS, fun y hy => h.leadO y (List.mem_append_left _ hy), h.first.elim .inl (key fn), fun y hy c hc => (h.closed y hy c hc).elim .inl (key c)⟩
theorem Dfs.take (h : Dfs calls fn S (ol ++ [x])) : Dfs calls fn (S ++ [x]) (ol ++ calls x) := by
  have hx : Lead calls fn x := h.leadO x (List.mem_append_right _ (List.mem_singleton.2 rfl))
  have key : ∀ c, c ∈ S ∨ c ∈ ol ++ [x] → c ∈ S ++ [x] ∨ c ∈ ol ++ calls x := fun c hc => by
    rcases hc with hc | hc
    · exact .inl (List.mem_append_left _ hc)
    · rcases List.mem_append.1 hc with hc | hc
      · exact .inr (List.mem_append_left _ hc)
      · exact .inl (List.mem_append_right _ hc)
  refine ⟨fun y hy => ?_, fun y hy => ?_, key fn h.first, fun y hy c hc => ?_⟩
  · rcases List.mem_append.1 hy with hy | hy
    · exact h.leadS y hy
    · rw [List.mem_singleton] at hy; subst hy; exact hx
  · rcases List.mem_append.1 hy with hy | hy
    · exact h.leadO y (List.mem_append_left _ hy)
    · exact .step hx hy
  · rcases List.mem_append.1 hy with hy | hy
    · exact key c (h.closed y hy c hc)
    · rw [List.mem_singleton] at hy; subst hy; exact .inr (List.mem_append_right _ hc)
theorem Dfs.done (h : Dfs calls fn S []) (hc : InN N calls) (h0 : 0 ≤ fn) (h1 : fn < N) : pickN N (fun x => decide (x ∈ S)) = reachL N calls fn := by
  refine rise_ext (pickN_lt ..) (pickN_lt ..) fun x => ?_
  rw [reach_closed (S := fun x => x ∈ S) hc h0 h1 (h.first.elim id fun h => by cases h) (fun x hx c hcc => (h.closed x hx c hcc).elim id fun h => by cases h) h.leadS]
  rw [mem_pickN, decide_eq_true_eq]
  exact ⟨fun h => h.2, fun hx => ⟨lead_in hc h0 h1 (h.leadS x hx), hx⟩⟩
end
end Go.Proofs.YtafjkelehnpfcaaDoor
