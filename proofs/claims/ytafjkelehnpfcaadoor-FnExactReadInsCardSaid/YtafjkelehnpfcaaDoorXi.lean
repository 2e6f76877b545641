/- Plain law: reading an instruction, both ways alike; the program's walk and the law's. -/
import Derived.Test.YtafjkelehnpfcaaDoorXh
set_option linter.unusedVariables false
set_option linter.unusedSimpArgs false
set_option maxRecDepth 10000
set_option maxHeartbeats 1000000
namespace Go.Proofs.YtafjkelehnpfcaaDoor
open Go.Eng

theorem index_no : ∀ {a : Tx}, (32 : UInt8) ∉ a → Lib.index a [32] = -1
  | [], h => rfl
  | x :: l, h => by
    have hx : ((32 : UInt8) == x) = false := by rw [beq_eq_false_iff_ne]; exact fun e => h (by rw [← e]; exact List.mem_cons_self ..)
    rw [Lib.index, index_no (fun e => h (List.mem_cons_of_mem _ e))]
    simp [List.isPrefixOf, hx]
theorem index_at {b : Tx} : ∀ {a : Tx}, (32 : UInt8) ∉ a → Lib.index (a ++ 32 :: b) [32] = (a.length : Int)
  | [], h => by
    rw [List.nil_append, Lib.index]
    simp [List.isPrefixOf]
  | x :: l, h => by
    have hx : ((32 : UInt8) == x) = false := by rw [beq_eq_false_iff_ne]; exact fun e => h (by rw [← e]; exact List.mem_cons_self ..)
    rw [List.cons_append, Lib.index, index_at (fun e => h (List.mem_cons_of_mem _ e))]
    have h2 : (((l.length : Nat) : Int) == -1) = false := by rw [beq_eq_false_iff_ne]; omega
    simp [List.isPrefixOf, hx, h2]
theorem cut_no {a : Tx} (h : (32 : UInt8) ∉ a) : Lib.cut a [32] = (a, [], false) := by
  unfold Lib.cut; rw [index_no h, if_neg (by decide)]
theorem cut_at {a b : Tx} (h : (32 : UInt8) ∉ a) : Lib.cut (a ++ 32 :: b) [32] = (a, b, true) := by
  unfold Lib.cut
  rw [index_at h, if_pos (by omega), Int.toNat_natCast, List.take_left]
  have : (a ++ 32 :: b).drop (a.length + [(32 : UInt8)].length) = b := by
    rw [List.drop_append]
    simp
  rw [this]
theorem words_no : ∀ w, w ∈ wordsL → (32 : UInt8) ∉ w := by decide
theorem wordI_no {op : Int} : (32 : UInt8) ∉ wordI op := by
  unfold wordI
  rw [List.getD_eq_getElem?_getD]
  cases hh : wordsL[op.toNat]? with
  | none => simp
  | some w => exact words_no w (List.mem_of_getElem? hh)
theorem itoa_no {n : Int} : (32 : UInt8) ∉ Lib.itoa n := by
  unfold Lib.itoa
  split
  · intro h
    rcases List.mem_cons.1 h with h | h
    · cases h
    · exact notD 32 (by decide) ((dec_facts _).1 _ h)
  · exact fun h => notD 32 (by decide) ((dec_facts _).1 _ h)
theorem wordI_idx {op : Int} (h0 : 1 ≤ op) (h1 : op ≤ 18) : idxT (wordI op) (wordsL.drop 1) 1 = op := by
  have h : ∀ k : Fin 18, idxT (wordI ((k.val : Int) + 1)) (wordsL.drop 1) 1 = (k.val : Int) + 1 := by decide
  have e : op = (((⟨(op - 1).toNat, by omega⟩ : Fin 18).val : Nat) : Int) + 1 := by
    show op = (((op - 1).toNat : Nat) : Int) + 1
    omega
  rw [e]; exact h _
theorem wordI_idx0 {op : Int} (h0 : 1 ≤ op) (h1 : op ≤ 18) : idxT (wordI op) (wordsL.drop 1) 0 + 1 = op := by
  have h := idxT_shift (w := wordI op) (l := wordsL.drop 1) (k := 0) (Int.le_refl 0)
  have h2 : idxT (wordI op) (wordsL.drop 1) (0 + 1) = op := wordI_idx h0 h1
  rw [h2] at h
  split at h
  · rename_i h3
    exfalso
    have h4 : ∀ k : Fin 18, idxT (wordI ((k.val : Int) + 1)) (wordsL.drop 1) 0 = (k.val : Int) := by decide
    have e : op = (((⟨(op - 1).toNat, by omega⟩ : Fin 18).val : Nat) : Int) + 1 := by
      show op = (((op - 1).toNat : Nat) : Int) + 1
      omega
    have h5 := h4 ⟨(op - 1).toNat, by omega⟩
    rw [← e] at h5
    have h6 : (((⟨(op - 1).toNat, by omega⟩ : Fin 18).val : Nat) : Int) = (((op - 1).toNat : Nat) : Int) := rfl
    omega
  · exact h
theorem idx_word {w : Tx} {k : Int} (h : idxT w (wordsL.drop 1) 1 = k) (hk : ¬ k < 0) : w = wordI k ∧ 1 ≤ k ∧ k ≤ 18 := by
  rcases idxT_found (w := w) (l := wordsL.drop 1) (k := 1) with h2 | ⟨i, h2, h3⟩
  · omega
  · have hi := (List.getElem?_eq_some_iff.1 h2).1
    have hl : (wordsL.drop 1).length = 18 := rfl
    refine ⟨?_, by omega, by omega⟩
    rw [List.getElem?_drop] at h2
    unfold wordI
    have e : k.toNat = 1 + i := by omega
    rw [e, List.getD_eq_getElem?_getD, h2]
    rfl
theorem insB_more {i : Ins} (h : insB i = true) : 1 ≤ i.op ∧ i.op ≤ 18 ∧ -2147483648 ≤ i.n ∧ i.n ≤ 2147483647 ∧ (hasNB i.op = false → i.n = 0) := by
  unfold insB hasNB at *
  grind
theorem insA_of {i : Ins} (h : insB i = true) : insA (insTx i) = (i, true) := by
  obtain ⟨h1, h2, h3, h4, h5⟩ := insB_more h
  have hi := wordI_idx0 h1 h2
  unfold insA
  by_cases hn : hasNB i.op = true
  · have e : insTx i = wordI i.op ++ 32 :: Lib.itoa i.n := by
      unfold insTx; rw [if_pos hn]; simp
    have ec : Lib.cut (insTx i) [32] = (wordI i.op, Lib.itoa i.n, true) := by rw [e]; exact cut_at wordI_no
    rw [ec]
    have en : numA (wordI i.op, Lib.itoa i.n, true) = some i.n := numA_ok rfl (atoi_itoa h3 h4)
    rw [en]
    have ei : (⟨idxT (wordI i.op) (wordsL.drop 1) 0 + 1, i.n⟩ : Ins) = i := by rw [hi]
    simp only [ei, h]
    simp
  · have e : insTx i = wordI i.op := by unfold insTx; rw [if_neg hn]
    have ec : Lib.cut (insTx i) [32] = (wordI i.op, [], false) := by rw [e]; exact cut_no wordI_no
    rw [ec]
    have en : numA (wordI i.op, [], false) = some 0 := numA_no rfl
    rw [en]
    have h0 := h5 (by simpa using hn)
    have ei : (⟨idxT (wordI i.op) (wordsL.drop 1) 0 + 1, 0⟩ : Ins) = i := by rw [hi, ← h0]
    simp only [ei, h]
    simp
theorem insA_inv {s : Tx} (h : (insA s).2 = true) : insB (insA s).1 = true ∧ insTx (insA s).1 = s := by
  unfold insA at h ⊢
  split at h
  · cases h
  · rename_i n hn
    split at h
    · rename_i h1
      simp only [h1]
      simpa using h1
    · cases h
theorem insA_no {s : Tx} (h : ¬ (insA s).2 = true) : insA s = (⟨0, 0⟩, false) := by
  unfold insA at h ⊢
  split at h
  · rfl
  · rename_i n hn
    split at h
    · exact absurd rfl h
    · rename_i h1; simp only [h1]; simp
theorem insRd_of {i : Ins} (h : insB i = true) : insRd (insTx i) = (i, true) := by
  obtain ⟨h1, h2, h3, h4, h5⟩ := insB_more h
  have hi := wordI_idx h1 h2
  unfold insRd
  by_cases hn : hasNB i.op = true
  · have e : insTx i = wordI i.op ++ 32 :: Lib.itoa i.n := by
      unfold insTx; rw [if_pos hn]; simp
    have ec : splitG 32 [] (insTx i) = [wordI i.op, Lib.itoa i.n] := by rw [e, splitG_two wordI_no, splitG_no itoa_no]; simp
    rw [ec]
    show insRd' (idxT (wordI i.op) (wordsL.drop 1) 1) _ = _
    rw [hi]
    have en : numI i.op [wordI i.op, Lib.itoa i.n] = some i.n := by
      unfold numI
      rw [if_pos hn, if_pos (show [wordI i.op, Lib.itoa i.n].length = 2 by rfl)]
      show (if (int19 (Lib.itoa i.n)).2 then some (int19 (Lib.itoa i.n)).1 else none) = _
      rw [int19_itoa h3 h4]; rfl
    unfold insRd'
    rw [if_neg (by omega), en]
    show (if insB ⟨i.op, i.n⟩ then _ else _) = _
    rw [if_pos h]
  · have e : insTx i = wordI i.op := by unfold insTx; rw [if_neg hn]
    have ec : splitG 32 [] (insTx i) = [wordI i.op] := by rw [e, splitG_no wordI_no]; rfl
    rw [ec]
    show insRd' (idxT (wordI i.op) (wordsL.drop 1) 1) _ = _
    rw [hi]
    have h0 := h5 (by simpa using hn)
    have en : numI i.op [wordI i.op] = some i.n := by
      unfold numI
      rw [if_neg hn, if_pos (show [wordI i.op].length = 1 by rfl), h0]
    unfold insRd'
    rw [if_neg (by omega), en]
    show (if insB ⟨i.op, i.n⟩ then _ else _) = _
    rw [if_pos h]
theorem insRd_inv {s : Tx} (h : (insRd s).2 = true) : insB (insRd s).1 = true ∧ insTx (insRd s).1 = s := by
  obtain ⟨u0, ws, hW⟩ : ∃ u0 ws, splitG 32 [] s = u0 :: ws := splitG_cons
  have hR : insRd s = insRd' (idxT u0 (wordsL.drop 1) 1) (u0 :: ws) := by unfold insRd; rw [hW]; rfl
  rw [hR] at h ⊢
  generalize hk : idxT u0 (wordsL.drop 1) 1 = k at h ⊢
  unfold insRd' at h ⊢
  split at h
  · cases h
  · rename_i hk0
    obtain ⟨w1, w2, w3⟩ := idx_word hk hk0
    rw [if_neg hk0]
    split at h
    · cases h
    · rename_i n hn
      split at h
      · rename_i hb
        simp only [hb, if_true]
        refine ⟨trivial, ?_⟩
        unfold numI at hn
        split at hn
        · rename_i hh
          split at hn
          · rename_i hl
            match ws, hl with
            | [v], _ =>
              have hv : (if (int19 v).2 then some (int19 v).1 else none) = some n := hn
              split at hv
              · rename_i h6
                have h7 := int19_inv h6
                have h8 : (int19 v).1 = n := Option.some.inj hv
                rw [h8] at h7
                have h9 := splitG_two' hW
                rw [List.nil_append] at h9
                unfold insTx
                rw [if_pos hh, h9, w1, ← h7]
                simp
              · cases hv
          · cases hn
        · rename_i hh
          split at hn
          · rename_i hl
            match ws, hl with
            | [], _ =>
              have h9 := splitG_one' hW
              rw [List.nil_append] at h9
              unfold insTx
              rw [if_neg hh, h9, w1]
          · cases hn
      · cases h
theorem insRd_no {s : Tx} (h : ¬ (insRd s).2 = true) : insRd s = (⟨0, 0⟩, false) := by
  unfold insRd insRd' at h ⊢
  split at h
  · rename_i h1; rw [if_pos h1]
  · rename_i h1
    rw [if_neg h1]
    split at h
    · rfl
    · rename_i n hn
      split at h
      · exact absurd rfl h
      · rename_i h2; simp only [h2]; simp
theorem insRd_insA (s : Tx) : insRd s = insA s := by
  by_cases h : (insRd s).2 = true
  · obtain ⟨h1, h2⟩ := insRd_inv h
    have e1 := insRd_of h1
    have e2 := insA_of h1
    rw [h2] at e1 e2
    rw [e1, e2, e1]
  · by_cases h3 : (insA s).2 = true
    · obtain ⟨h1, h2⟩ := insA_inv h3
      have e1 := insRd_of h1
      rw [h2] at e1
      exact absurd (by rw [e1]) h
    · rw [insRd_no h, insA_no h3]
end Go.Proofs.YtafjkelehnpfcaaDoor
