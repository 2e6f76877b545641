/- Texts of instructions: plain words for how a text is cut, and its digits read. -/
import Derived.Test.YtafjkelehnpfcaaDoorKf
import Derived.Test.YtafjkelehnpfcaaDoorMe
set_option linter.unusedVariables false
set_option linter.unusedSimpArgs false
namespace Go.Proofs.YtafjkelehnpfcaaDoor
open Go.Eng

abbrev Tx := List UInt8
def T.strs (l : List Tx) : T := .list 1 (l.map T.str)
/-- A text cut at each c. -/
def splitG (c : UInt8) : Tx → Tx → List Tx
  | pre, [] => [pre]
  | pre, x :: l => if x = c then pre :: splitG c [] l else splitG c (pre ++ [x]) l
theorem byteI {a b : UInt8} : ((a.toNat : Int) = (b.toNat : Int)) ↔ a = b :=
  ⟨fun h => UInt8.toNat_inj.1 (by omega), fun h => by rw [h]⟩
theorem splitG_at {c : UInt8} {s : Tx} {f i : Int} (h0 : 0 ≤ f) (h1 : f ≤ i) (h2 : i < s.length) :
    splitG c ((s.drop f.toNat).take (i.toNat - f.toNat)) (s.drop i.toNat) = if (s[i.toNat]'(by omega)) = c then ((s.drop f.toNat).take (i.toNat - f.toNat)) :: splitG c ((s.drop (i + 1).toNat).take ((i + 1).toNat - (i + 1).toNat)) (s.drop (i + 1).toNat)
      else splitG c ((s.drop f.toNat).take ((i + 1).toNat - f.toNat)) (s.drop (i + 1).toNat) := by
  have e1 : (i + 1).toNat = i.toNat + 1 := by omega
  have e2 : s.drop i.toNat = (s[i.toNat]'(by omega)) :: s.drop (i + 1).toNat := by rw [e1]; exact List.drop_eq_getElem_cons (by omega)
  rw [e2, splitG, Nat.sub_self, List.take_zero]
  split
  · rfl
  · congr 1
    have e3 : (i + 1).toNat - f.toNat = (i.toNat - f.toNat) + 1 := by omega
    rw [e3, List.take_add_one, List.getElem?_drop]
    have e4 : f.toNat + (i.toNat - f.toNat) = i.toNat := by omega
    rw [e4, List.getElem?_eq_getElem (by omega)]
    rfl
theorem splitG_end {c : UInt8} {s : Tx} {f i : Int} (h2 : ¬ i < s.length) (hi : i ≤ s.length) :
    splitG c ((s.drop f.toNat).take (i.toNat - f.toNat)) (s.drop i.toNat) = [s.drop f.toNat] := by
  rw [List.drop_eq_nil_of_le (show s.length ≤ i.toNat by omega), splitG, List.take_of_length_le (by rw [List.length_drop]; omega)]

/-- The value of a text of digits, or -1. -/
def digG : Tx → Int → Int
  | [], n => n
  | b :: l, n => if b.toNat < 48 ∨ 57 < b.toNat then -1 else digG l (10 * n + (b.toNat - 48))
def digS0 (s : Tx) : Int := if s.length = 0 ∨ 10 < s.length ∨ (s.head? = some 48 ∧ 1 < s.length) then -1 else digG s 0
theorem digEx : ∃ f : Tx → Int, ∀ s, f s = digS0 s := ⟨digS0, fun _ => rfl⟩
/-- (Chosen, so that nothing unfolds it.) -/
noncomputable def digS (s : Tx) : Int := Classical.choose digEx s
theorem digS_eq (s : Tx) : digS s = digS0 s := Classical.choose_spec digEx s
theorem digG_at {s : Tx} {i n : Int} (h0 : 0 ≤ i) (h1 : i < s.length) : digG (s.drop i.toNat) n = if (s[i.toNat]'(by omega)).toNat < 48 ∨ 57 < (s[i.toNat]'(by omega)).toNat then -1 else digG (s.drop (i + 1).toNat) (10 * n + ((s[i.toNat]'(by omega)).toNat - 48)) := by
  have e1 : (i + 1).toNat = i.toNat + 1 := by omega
  have e2 : s.drop i.toNat = (s[i.toNat]'(by omega)) :: s.drop (i + 1).toNat := by rw [e1]; exact List.drop_eq_getElem_cons (by omega)
  rw [e2, digG]
theorem digB {i n d : Int} (h0 : 0 ≤ i) (h : n < 10 ^ i.toNat) (hd : d ≤ 9) : 10 * n + d < 10 ^ (i + 1).toNat := by
  have e1 : (i + 1).toNat = i.toNat + 1 := by omega
  rw [e1, Int.pow_succ]; omega
theorem pow10_le {i : Int} (h : i ≤ 10) : (10 : Int) ^ i.toNat ≤ 10000000000 := by
  have h2 : i.toNat ≤ 10 := by omega
  generalize i.toNat = k at h2
  match k, h2 with
  | 0, _ | 1, _ | 2, _ | 3, _ | 4, _ | 5, _ | 6, _ | 7, _ | 8, _ | 9, _ | 10, _ => decide
  | k + 11, h => omega
theorem binSubB {a b : UInt8} (h : b.toNat ≤ a.toNat) {P : Program} : BinIs P .sub (.int .u8 (a.toNat : Int)) (.int .u8 (b.toNat : Int)) (.int .u8 ((a.toNat : Int) - b.toNat)) := fun ty ox oy w => by
  have h1 := a.toNat_lt
  have h2 : IntKind.u8.wrap ((a.toNat : Int) - b.toNat) = (a.toNat : Int) - b.toNat := by
    have h3 : ((a.toNat : Int) - b.toNat) % 256 = (a.toNat : Int) - b.toNat := by omega
    simp [IntKind.wrap, IntKind.bits, IntKind.signed, h3]
  simp only [eqGuard, binOp, Op.intArith]
  simp [h2]
theorem binSub48 {a : UInt8} (h : 48 ≤ (a.toNat : Int)) {P : Program} : BinIs P .sub (.int .u8 (a.toNat : Int)) (.int .u8 48) (.int .u8 ((a.toNat : Int) - 48)) := by
  have h1 : (48 : UInt8).toNat = 48 := rfl
  have := binSubB (P := P) (a := a) (b := 48) (by rw [h1]; omega)
  rw [h1] at this
  exact this
theorem digS_nil {s : Tx} (h : (s.length : Int) = 0) : digS s = -1 := by
  rw [digS_eq]; unfold digS0; rw [if_pos (.inl (by omega))]
theorem digS_long {s : Tx} (h : (10 : Int) < s.length) : digS s = -1 := by
  rw [digS_eq]; unfold digS0; rw [if_pos (.inr (.inl (by omega)))]
theorem lead_iff {s : Tx} (h : ¬ (s.length : Int) = 0) : s.head? = some 48 ↔ (((s[(0 : Int).toNat]'(by show 0 < s.length; omega)).toNat : Int) = 48) := by
  cases s with
  | nil => exact absurd rfl h
  | cons x l =>
    show some x = some 48 ↔ ((x.toNat : Int) = ((48 : UInt8).toNat : Int))
    rw [byteI]
    simp
theorem digS_z {s : Tx} (h : ¬ (s.length : Int) = 0) (h1 : ((s[(0 : Int).toNat]'(by show 0 < s.length; omega)).toNat : Int) = 48) (h2 : (1 : Int) < s.length) : digS s = -1 := by
  rw [digS_eq]; unfold digS0; rw [if_pos (.inr (.inr ⟨(lead_iff h).2 h1, by omega⟩))]
theorem digS_go {s : Tx} (h : ¬ (s.length : Int) = 0) (h1 : ¬ (10 : Int) < s.length) (h2 : ¬ (((s[(0 : Int).toNat]'(by show 0 < s.length; omega)).toNat : Int) = 48 ∧ (1 : Int) < s.length)) : digS s = digG s 0 := by
  rw [digS_eq]; unfold digS0; rw [if_neg]
  rintro (h3 | h3 | ⟨h3, h4⟩)
  · omega
  · omega
  · exact h2 ⟨(lead_iff h).1 h3, by omega⟩
theorem digG_bd : ∀ (l : Tx) (n : Int) (k : Nat), 0 ≤ n → n < 10 ^ k → l.length + k ≤ 10 → -1 ≤ digG l n ∧ digG l n < 10000000000
  | [], n, k, h0, h1, h2 => by
    have := pow10_le (i := (k : Int)) (by simp at h2; omega)
    rw [Int.toNat_natCast] at this
    simp only [digG]; omega
  | b :: l, n, k, h0, h1, h2 => by
    rw [digG]
    split
    · omega
    · refine digG_bd l _ (k + 1) (by omega) ?_ (by simp at h2; omega)
      rw [Int.pow_succ]; omega
theorem digS_bd (s : Tx) : -1 ≤ digS s ∧ digS s < 10000000000 := by
  rw [digS_eq]; unfold digS0
  split
  · omega
  · rename_i h
    exact digG_bd s 0 0 (by omega) (by decide) (by omega)
theorem digG_no {s : Tx} {i n : Int} (h0 : 0 ≤ i) (h1 : i < s.length) (h : ((s[i.toNat]'(by omega)).toNat : Int) < 48 ∨ 57 < ((s[i.toNat]'(by omega)).toNat : Int)) : digG (s.drop i.toNat) n = -1 := by
  rw [digG_at h0 h1, if_pos (by omega)]
theorem digG_yes {s : Tx} {i n : Int} (h0 : 0 ≤ i) (h1 : i < s.length) (h : ¬ ((s[i.toNat]'(by omega)).toNat : Int) < 48) (h' : ¬ 57 < ((s[i.toNat]'(by omega)).toNat : Int)) : digG (s.drop i.toNat) n = digG (s.drop (i + 1).toNat) (10 * n + (((s[i.toNat]'(by omega)).toNat : Int) - 48)) := by
  rw [digG_at h0 h1, if_neg (by omega)]
theorem digG_end {s : Tx} {i n : Int} (h1 : (s.length : Int) ≤ i) : digG (s.drop i.toNat) n = n := by
  rw [List.drop_of_length_le (by omega)]; rfl
end Go.Proofs.YtafjkelehnpfcaaDoor
