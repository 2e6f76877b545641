/- Plain law: reading an instruction, both ways alike. -/
import Derived.Test.YtafjkelehnpfcaaDoorXg
set_option linter.unusedVariables false
set_option linter.unusedSimpArgs false
set_option maxRecDepth 10000
set_option maxHeartbeats 1000000
namespace Go.Proofs.YtafjkelehnpfcaaDoor
open Go.Eng

theorem idxT_not {w : Tx} : ∀ {l : List Tx} {k : Int}, w ∉ l → idxT w l k = -1
  | [], k, h => rfl
  | x :: l, k, h => by
    have hx : ¬ w = x := fun e => h (by rw [e]; exact List.mem_cons_self ..)
    rw [idxT, if_neg hx, idxT_not (fun e => h (List.mem_cons_of_mem _ e))]
theorem idxT_found {w : Tx} : ∀ {l : List Tx} {k : Int}, idxT w l k = -1 ∨ ∃ i : Nat, l[i]? = some w ∧ idxT w l k = k + (i : Int)
  | [], k => .inl rfl
  | x :: l, k => by
    rw [idxT]
    split
    · rename_i h; exact .inr ⟨0, by rw [h]; rfl, by omega⟩
    · rcases idxT_found (w := w) (l := l) (k := k + 1) with h | ⟨i, h1, h2⟩
      · exact .inl h
      · exact .inr ⟨i + 1, by simpa using h1, by omega⟩
theorem idxT_shift {w : Tx} : ∀ {l : List Tx} {k : Int}, 0 ≤ k → idxT w l k + 1 = if idxT w l k = -1 then 0 else idxT w l (k + 1)
  | [], k, h => rfl
  | x :: l, k, h => by
    rw [idxT, idxT]
    split
    · rw [if_neg (by omega)]
    · exact idxT_shift (by omega)

theorem head_dig {s : Tx} (hs : s ≠ []) (h : ∀ b, b ∈ s → isD b) {c : UInt8} (hc : ¬ isD c) : s.head? ≠ some c := by
  cases s with
  | nil => exact absurd rfl hs
  | cons x l =>
    intro e
    have : x = c := by simpa using e
    exact hc (this ▸ h x (List.mem_cons_self ..))
theorem not_word {s : Tx} (h : ∀ w, w ∈ wordsT.drop 3 → s.head? ≠ w.head? ∨ s.length ≠ w.length) : idxT s (wordsT.drop 3) 3 = -1 := by
  refine idxT_not fun hm => ?_
  rcases h s hm with h | h <;> exact h rfl
theorem notD (c : UInt8) (h : c.toNat < 48 ∨ 57 < c.toNat) : ¬ isD c := fun e => by unfold isD at e; omega
theorem int19_itoa {n : Int} (h0 : -2147483648 ≤ n) (h1 : n ≤ 2147483647) : int19 (Lib.itoa n) = (n, true) := by
  unfold Lib.itoa
  split
  · rename_i hn
    obtain ⟨d1, d2, d3, d4, d5⟩ := dec_facts n.natAbs
    have hw : idxT (45 :: Lib.decDigits n.natAbs) (wordsT.drop 3) 3 = -1 := by
      refine not_word fun w hw => ?_
      have hl : 0 < (Lib.decDigits n.natAbs).length := List.length_pos_iff.2 d3
      by_cases e : w.head? = some 45
      · right
        have : w = [45] := by
          have hall : ∀ w, w ∈ wordsT.drop 3 → w.head? = some 45 → w = [45] := by decide
          exact hall w hw e
        subst this
        simp; omega
      · left; exact fun e2 => e e2.symm
    have hd := digS_dec (u := n.natAbs) (by have : (10 : Nat) ^ 10 = 10000000000 := by decide
                                            omega)
    have e1 : readTok (45 :: Lib.decDigits n.natAbs) = (⟨1, n⟩, true) := by
      unfold readTok
      rw [hw, if_neg (by decide), if_neg (by simp), if_neg (by simp), if_neg (by simp), if_pos (by rfl)]
      show ((⟨1, 0 - digS (Lib.decDigits n.natAbs)⟩ : Tok), decide (0 - digS (Lib.decDigits n.natAbs) < 0) && tokB ⟨1, 0 - digS (Lib.decDigits n.natAbs)⟩) = _
      rw [hd]
      have e2 : (0 : Int) - (n.natAbs : Int) = n := by omega
      rw [e2]
      have e3 : tokB ⟨1, n⟩ = true := by unfold tokB; simp; omega
      rw [e3]; simp [hn]
    unfold int19; rw [e1]; rfl
  · rename_i hn
    obtain ⟨d1, d2, d3, d4, d5⟩ := dec_facts n.toNat
    have hw : idxT (Lib.decDigits n.toNat) (wordsT.drop 3) 3 = -1 := by
      refine not_word fun w hw => .inl ?_
      have hall : ∀ w, w ∈ wordsT.drop 3 → ∃ c, w.head? = some c ∧ (c.toNat < 48 ∨ 57 < c.toNat) := by
        intro w hw
        have : w = [43] ∨ w = [45] ∨ w = [42] ∨ w = [47] ∨ w = [60] ∨ w = [61] ∨ w = [105, 110] ∨ w = [114, 101, 99] := by simpa [wordsT] using hw
        rcases this with rfl | rfl | rfl | rfl | rfl | rfl | rfl | rfl <;> exact ⟨_, rfl, by decide⟩
      obtain ⟨c, hc, hc2⟩ := hall w hw
      rw [hc]
      exact head_dig d3 d1 (notD c hc2)
    have hd := digS_dec (u := n.toNat) (by have : (10 : Nat) ^ 10 = 10000000000 := by decide
                                           omega)
    have e1 : readTok (Lib.decDigits n.toNat) = (⟨1, n⟩, true) := by
      unfold readTok
      rw [hw, if_neg (by decide), if_neg d3, if_neg (head_dig d3 d1 (notD _ (by decide))), if_neg (head_dig d3 d1 (notD _ (by decide))), if_neg (head_dig d3 d1 (notD _ (by decide))), hd]
      have e2 : (n.toNat : Int) = n := by omega
      rw [e2]
      have e3 : tokB ⟨1, n⟩ = true := by unfold tokB; simp; omega
      rw [e3]; simp; omega
    unfold int19; rw [e1]; rfl
theorem int19_inv {s : Tx} (h : (int19 s).2 = true) : s = Lib.itoa (int19 s).1 := by
  unfold int19 at h ⊢
  unfold readTok at h ⊢
  split at h
  · rename_i h1
    rcases idxT_found (w := s) (l := wordsT.drop 3) (k := 3) with h2 | ⟨i, _, h2⟩
    · omega
    · simp at h; omega
  · split at h
    · simp at h
    · rename_i h1 h2
      split at h
      · simp at h
      · split at h
        · simp at h
        · rename_i h3 h4
          rw [if_neg h1, if_neg h2, if_neg h3, if_neg h4]
          split at h
          · rename_i h5
            rw [if_pos h5]
            simp only [Bool.and_eq_true, decide_eq_true_eq] at h
            have hp : 0 ≤ digS (s.drop 1) := by omega
            have hi := digS_inv hp
            cases s with
            | nil => exact absurd rfl h2
            | cons x l =>
              have hx : x = 45 := by simpa using h5
              subst hx
              simp only [List.drop_one, List.tail_cons] at hi h ⊢
              unfold Lib.itoa
              rw [if_pos (by omega)]
              have e : (0 - digS l).natAbs = (digS l).toNat := by omega
              rw [e, ← hi]
          · rename_i h5
            rw [if_neg h5]
            simp only [Bool.and_eq_true, decide_eq_true_eq] at h
            have hp : 0 ≤ digS s := by omega
            unfold Lib.itoa
            rw [if_neg (by show ¬ digS s < 0; omega)]
            exact digS_inv hp
theorem atoi_itoa {n : Int} (h0 : -2147483648 ≤ n) (h1 : n ≤ 2147483647) : Lib.atoiAll (Lib.itoa n) = .ok n := by
  have hlen : (Lib.itoa n).length ≤ 18 := by
    unfold Lib.itoa
    split
    · have := dec_len (k := 9) (u := n.natAbs) (by have : (10 : Nat) ^ 10 = 10000000000 := by decide
                                                   omega)
      simp; omega
    · have := dec_len (k := 9) (u := n.toNat) (by have : (10 : Nat) ^ 10 = 10000000000 := by decide
                                                  omega)
      omega
  rw [Lib.atoiAll_short _ hlen]
  have hdn : ∀ u, Lib.decNat (Lib.decDigits u) = some u := by
    intro u
    obtain ⟨d1, d2, d3, _, _⟩ := dec_facts u
    unfold Lib.decNat
    rw [if_neg (by simpa using d3), decFrom_all d1, d2]
  have key : Lib.atoi (Lib.itoa n) = some n := by
    unfold Lib.itoa
    split
    · rename_i hn
      show (Lib.decNat (Lib.decDigits n.natAbs)).map (fun (m : Nat) => -(m : Int)) = some n
      rw [hdn]
      show some (-(n.natAbs : Int)) = some n
      congr 1; omega
    · rename_i hn
      obtain ⟨d1, d2, d3, _, _⟩ := dec_facts n.toNat
      have hh := hdn n.toNat
      cases hd : Lib.decDigits n.toNat with
      | nil => exact absurd hd d3
      | cons b r =>
        rw [hd] at hh d1
        have hb := d1 b (List.mem_cons_self ..)
        have b1 : (b == 45) = false := by rw [beq_eq_false_iff_ne]; intro e; subst e; exact notD 45 (by decide) hb
        have b2 : (b == 43) = false := by rw [beq_eq_false_iff_ne]; intro e; subst e; exact notD 43 (by decide) hb
        rw [Lib.atoi, b1, b2, hh]
        show some ((n.toNat : Int)) = some n
        congr 1; omega
  rw [key]; rfl

theorem splitG_no {c : UInt8} : ∀ {l pre : Tx}, c ∉ l → splitG c pre l = [pre ++ l]
  | [], pre, h => by rw [splitG, List.append_nil]
  | x :: l, pre, h => by
    have hx : ¬ x = c := fun e => h (by rw [← e]; exact List.mem_cons_self ..)
    rw [splitG, if_neg hx, splitG_no (fun e => h (List.mem_cons_of_mem _ e)), List.append_assoc]; rfl
theorem splitG_two {c : UInt8} {b : Tx} : ∀ {a pre : Tx}, c ∉ a → splitG c pre (a ++ c :: b) = (pre ++ a) :: splitG c [] b
  | [], pre, h => by rw [List.nil_append, splitG, if_pos rfl, List.append_nil]
  | x :: l, pre, h => by
    have hx : ¬ x = c := fun e => h (by rw [← e]; exact List.mem_cons_self ..)
    rw [List.cons_append, splitG, if_neg hx, splitG_two (fun e => h (List.mem_cons_of_mem _ e)), List.append_assoc]; rfl
theorem splitG_one' {c : UInt8} {w : Tx} : ∀ {l pre : Tx}, splitG c pre l = [w] → pre ++ l = w
  | [], pre, h => by rw [splitG] at h; rw [List.append_nil]; exact (List.cons.inj h).1
  | x :: l, pre, h => by
    rw [splitG] at h
    split at h
    · obtain ⟨_, h2⟩ := List.cons.inj h
      obtain ⟨w', ws, h3⟩ := splitG_cons (c := c) (l := l) (pre := [])
      rw [h3] at h2; cases h2
    · have := splitG_one' h
      rw [← this]; simp
theorem splitG_two' {c : UInt8} {w v : Tx} : ∀ {l pre : Tx}, splitG c pre l = [w, v] → pre ++ l = w ++ c :: v
  | [], pre, h => by rw [splitG] at h; cases h
  | x :: l, pre, h => by
    rw [splitG] at h
    split at h
    · rename_i hx
      obtain ⟨h1, h2⟩ := List.cons.inj h
      have := splitG_one' h2
      rw [h1, hx, ← this]; rfl
    · have := splitG_two' h
      rw [← this]; simp
end Go.Proofs.YtafjkelehnpfcaaDoor
