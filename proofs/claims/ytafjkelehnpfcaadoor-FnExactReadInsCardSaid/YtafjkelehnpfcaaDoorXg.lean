/- Plain law: both ways to read an instruction take just the canonical texts. -/
import Derived.Test.YtafjkelehnpfcaaDoorXf
import Derived.Lib.AtoiTie
set_option linter.unusedVariables false
set_option linter.unusedSimpArgs false
set_option maxRecDepth 10000
set_option maxHeartbeats 1000000
namespace Go.Proofs.YtafjkelehnpfcaaDoor
open Go.Eng

def isD (b : UInt8) : Prop := 48 ≤ b.toNat ∧ b.toNat ≤ 57
def valN : Tx → Nat → Nat
  | [], n => n
  | b :: l, n => valN l (10 * n + (b.toNat - 48))
theorem valN_app {d : UInt8} : ∀ {l : Tx} {n : Nat}, valN (l ++ [d]) n = 10 * valN l n + (d.toNat - 48)
  | [], n => rfl
  | b :: l, n => by rw [List.cons_append, valN, valN_app, valN]
theorem digG_all : ∀ {l : Tx} {n : Nat}, (∀ b, b ∈ l → isD b) → digG l (n : Int) = (valN l n : Int)
  | [], n, h => rfl
  | b :: l, n, h => by
    obtain ⟨h1, h2⟩ := h b (List.mem_cons_self ..)
    rw [digG, if_neg (by omega), valN, ← digG_all (fun x hx => h x (List.mem_cons_of_mem _ hx))]
    congr 1
    omega
theorem digG_inv : ∀ {l : Tx} {n : Int}, 0 ≤ digG l n → ∀ b, b ∈ l → isD b
  | [], n, h, b, hb => by cases hb
  | x :: l, n, h, b, hb => by
    rw [digG] at h
    split at h
    · omega
    · rcases List.mem_cons.1 hb with rfl | hb
      · unfold isD; omega
      · exact digG_inv h b hb
theorem decFrom_all : ∀ {l : Tx} {n : Nat}, (∀ b, b ∈ l → isD b) → Lib.decFrom n l = some (valN l n)
  | [], n, h => rfl
  | b :: l, n, h => by
    have h1 := h b (List.mem_cons_self ..)
    unfold isD at h1
    rw [Lib.decFrom, Lib.digitVal, if_pos h1]
    show Lib.decFrom _ l = _
    rw [decFrom_all (fun x hx => h x (List.mem_cons_of_mem _ hx)), valN, Nat.mul_comm]

theorem toNatD {k : Nat} (h : k < 10) : (UInt8.ofNat (48 + k)).toNat = 48 + k := by
  rw [UInt8.toNat_ofNat']; omega
theorem dec_facts (u : Nat) : (∀ b, b ∈ Lib.decDigits u → isD b) ∧ valN (Lib.decDigits u) 0 = u ∧ Lib.decDigits u ≠ [] ∧ (10 ≤ u → (Lib.decDigits u).head? ≠ some 48) ∧ (0 < u → (Lib.decDigits u).head? ≠ some 48) := by
  induction u using Nat.strongRecOn with
  | _ u ih =>
    by_cases h : u < 10
    · rw [Lib.decDigits_one h]
      have ht := toNatD h
      refine ⟨fun b hb => ?_, ?_, by simp, fun h2 => by omega, fun h2 => ?_⟩
      · rw [List.mem_singleton.1 hb]; unfold isD; omega
      · show 10 * 0 + ((UInt8.ofNat (48 + u)).toNat - 48) = u
        omega
      · intro e
        have e2 : UInt8.ofNat (48 + u) = 48 := by simpa using e
        have e3 : (UInt8.ofNat (48 + u)).toNat = 48 := by rw [e2]; rfl
        omega
    · obtain ⟨i1, i2, i3, i4, i5⟩ := ih (u / 10) (by omega)
      rw [Lib.decDigits, dif_neg h]
      have ht := toNatD (k := u % 10) (by omega)
      have hh : (Lib.decDigits (u / 10) ++ [UInt8.ofNat (48 + u % 10)]).head? = (Lib.decDigits (u / 10)).head? := by
        cases hd : Lib.decDigits (u / 10) with
        | nil => exact absurd hd i3
        | cons x l => rfl
      refine ⟨fun b hb => ?_, ?_, by simp, fun h2 => ?_, fun h2 => ?_⟩
      · rcases List.mem_append.1 hb with hb | hb
        · exact i1 b hb
        · rw [List.mem_singleton.1 hb]; unfold isD; omega
      · rw [valN_app, i2, ht]; omega
      · rw [hh]; exact i5 (by omega)
      · rw [hh]; exact i5 (by omega)
theorem dec_len : ∀ {k u : Nat}, u < 10 ^ (k + 1) → (Lib.decDigits u).length ≤ k + 1
  | 0, u, h => by rw [Lib.decDigits_one (by simpa using h)]; simp
  | k + 1, u, h => by
    by_cases h2 : u < 10
    · rw [Lib.decDigits_one h2]; simp
    · rw [Lib.decDigits, dif_neg h2]
      have := dec_len (k := k) (u := u / 10) (by rw [Nat.pow_succ] at h; omega)
      simp; omega
theorem canon : ∀ (n : Nat) (l : Tx), l.length = n → l ≠ [] → (∀ b, b ∈ l → isD b) → (l.head? = some 48 → l.length ≤ 1) → l = Lib.decDigits (valN l 0) := by
  intro n
  induction n with
  | zero => intro l h1 h2; exact absurd (List.length_eq_zero_iff.1 h1) h2
  | succ n ih =>
    intro l h1 h2 h3 h4
    rcases List.eq_nil_or_concat l with rfl | ⟨l', d, hl⟩
    · exact absurd rfl h2
    · rw [List.concat_eq_append] at hl
      subst hl
      have hd := h3 d (by simp)
      unfold isD at hd
      have hdd : UInt8.ofNat (48 + (d.toNat - 48)) = d := by
        apply UInt8.toNat_inj.1
        rw [toNatD (by omega)]; omega
      by_cases hl' : l' = []
      · subst hl'
        show [d] = Lib.decDigits (10 * 0 + (d.toNat - 48))
        rw [Lib.decDigits_one (by omega)]
        have e : 10 * 0 + (d.toNat - 48) = d.toNat - 48 := by omega
        rw [e, hdd]
      · have hh : (l' ++ [d]).head? = l'.head? := by
          cases l' with
          | nil => exact absurd rfl hl'
          | cons x l => rfl
        have hne : l'.head? ≠ some 48 := by
          intro e
          have := h4 (by rw [hh, e])
          have h5 : 0 < l'.length := List.length_pos_iff.2 hl'
          simp at this
          exact hl' this
        have hi := ih l' (by simp at h1; omega) hl' (fun b hb => h3 b (List.mem_append_left _ hb)) (fun e => absurd e hne)
        have hpos : 0 < valN l' 0 := by
          rcases Nat.eq_zero_or_pos (valN l' 0) with h0 | h0
          · rw [h0] at hi
            exact absurd (show l'.head? = some 48 by rw [hi, Lib.decDigits_one (by decide)]; rfl) hne
          · exact h0
        rw [valN_app, Lib.decDigits, dif_neg (by omega)]
        have e1 : (10 * valN l' 0 + (d.toNat - 48)) / 10 = valN l' 0 := by omega
        have e2 : (10 * valN l' 0 + (d.toNat - 48)) % 10 = d.toNat - 48 := by omega
        rw [e1, e2, ← hi, hdd]
theorem digS_dec {u : Nat} (h : u < 10 ^ 10) : digS (Lib.decDigits u) = u := by
  obtain ⟨h1, h2, h3, h4, h5⟩ := dec_facts u
  have h6 := dec_len (k := 9) (u := u) h
  have h7 : 0 < (Lib.decDigits u).length := List.length_pos_iff.2 h3
  rw [digS_eq]; unfold digS0
  rw [if_neg, ← Int.natCast_zero, digG_all h1, h2]
  rintro (h8 | h8 | ⟨h8, h9⟩)
  · omega
  · omega
  · by_cases h10 : u < 10
    · rw [Lib.decDigits_one h10] at h9; simp at h9
    · exact h4 (by omega) h8
theorem digS_inv {l : Tx} (h : 0 ≤ digS l) : l = Lib.decDigits (digS l).toNat := by
  rw [digS_eq] at h ⊢
  unfold digS0 at h ⊢
  split at h
  · omega
  · rename_i h1
    rw [if_neg h1]
    have hd := digG_inv h
    rw [← Int.natCast_zero, digG_all hd, Int.toNat_natCast]
    refine canon l.length l rfl (fun e => h1 (.inl (by rw [e]; rfl))) hd (fun e => ?_)
    by_cases h2 : 1 < l.length
    · exact absurd (.inr (.inr ⟨e, h2⟩)) h1
    · omega
end Go.Proofs.YtafjkelehnpfcaaDoor
