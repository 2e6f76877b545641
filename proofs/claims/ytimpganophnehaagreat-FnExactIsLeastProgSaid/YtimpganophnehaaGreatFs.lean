/- Sizes, sameness and bounds of data, put together from their parts'. -/
import Derived.Test.YtimpganophnehaaGreatFb
set_option linter.unusedVariables false
set_option linter.unusedSimpArgs false
set_option maxRecDepth 10000
namespace Go.Proofs.YtimpganophnehaaGreat
open Go.Eng

def okN {α : Type} (B : Nat) (l : List α) : Prop := l.length ≤ B
def okL {α : Type} (B : Nat) (ok : α → Prop) (l : List α) : Prop := l.length ≤ B ∧ ∀ x, x ∈ l → ok x

theorem take_at {α : Type} {l : List α} {k : Int} (h0 : 0 ≤ k) (h1 : k < l.length) : l.take (k + 1).toNat = l.take k.toNat ++ [l[k.toNat]'(by omega)] := by
 rw [show (k + 1).toNat = k.toNat + 1 from by omega, List.take_add_one, List.getElem?_eq_getElem (by omega)]
 rfl
theorem take_end {α : Type} {l : List α} {k : Int} (h1 : (l.length : Int) ≤ k) : l.take k.toNat = l := List.take_of_length_le (by omega)
def szSeq : List (Int → Int) → Int → Int
 | [], left => left
 | f :: fs, left => if f left < 0 then -1 else szSeq fs (f left)
def szLen {α : Type} (l : List α) (left : Int) : Int := szN l.length left
def szIntS (l : List Int) (left : Int) : Int := szN l.length left
def SzA (f : Int → Int) (p : Prop) : Prop := ∀ left : Int, 0 ≤ left → left ≤ 1048576 → f left ≤ left ∧ -1 ≤ f left ∧ (0 ≤ f left → p)
def SzG {α : Type} (f : α → Int → Int) (ok : α → Prop) : Prop := ∀ x, SzA (f x) (ok x)
theorem szN_g {α : Type} : SzG (fun (l : List α) => szN l.length) (okN 1048576) := by
 intro l left h0 hh
 unfold szN okN
 dsimp only
 split <;> refine ⟨by omega, by omega, fun h => by omega⟩
theorem szLen_g {α : Type} (l : List α) : SzA (szLen l) (okN 1048576 l) := szN_g l
theorem szIntS_g (l : List Int) : SzA (szIntS l) (okN 1048576 l) := szN_g l
theorem szGo_g {α : Type} {f : α → Int → Int} {ok : α → Prop} : ∀ {l : List α}, (∀ x, x ∈ l → SzA (f x) (ok x)) → SzA (szGo f l) (∀ x, x ∈ l → ok x)
 | [], _, left, h0, hh => ⟨by simp [szGo], by simp [szGo]; omega, fun _ x hx => by cases hx⟩
 | x :: l, h, left, h0, hh => by
  have h1 := h x (List.mem_cons_self ..) left h0 hh
  rw [szGo]
  split
  ·exact ⟨by omega, by omega, fun h => by omega⟩
  ·have h2 := szGo_g (fun y hy => h y (List.mem_cons_of_mem _ hy)) (f x left) (by omega) (by omega)
   refine ⟨by omega, by omega, fun h3 y hy => ?_⟩
   rcases List.mem_cons.1 hy with rfl | hy
   ·exact h1.2.2 (by omega)
   ·exact h2.2.2 h3 y hy
theorem szL_a {α : Type} {f : α → Int → Int} {ok : α → Prop} {l : List α} (h : ∀ x, x ∈ l → SzA (f x) (ok x)) : SzA (szL f l) (okL 1048576 ok l) := by
 intro left h0 hh
 unfold szL okL
 split
 ·exact ⟨by omega, by omega, fun h => by omega⟩
 ·have h2 := szGo_g h (left - l.length) (by omega) (by omega)
  exact ⟨by omega, by omega, fun h3 => ⟨by omega, h2.2.2 h3⟩⟩
theorem szL_g {α : Type} {f : α → Int → Int} {ok : α → Prop} (h : SzG f ok) : SzG (szL f) (okL 1048576 ok) := fun l => szL_a fun x _ => h x
theorem szSeq_nil : SzA (szSeq []) True := fun left h0 hh => ⟨by simp [szSeq], by simp [szSeq]; omega, fun _ => trivial⟩
theorem szSeq_step {f : Int → Int} {fs : List (Int → Int)} {p q : Prop} (h1 : SzA f p) (h2 : SzA (szSeq fs) q) : SzA (szSeq (f :: fs)) (p ∧ q) := by
 intro left h0 hh
 have g1 := h1 left h0 hh
 rw [szSeq]
 split
 ·exact ⟨by omega, by omega, fun h => by omega⟩
 ·have g2 := h2 (f left) (by omega) (by omega)
  exact ⟨by omega, by omega, fun h => ⟨g1.2.2 (by omega), g2.2.2 h⟩⟩

def eqB (a b : Bool) : Bool := a == b
theorem eqI_refl : ∀ x, eqI x x = true := fun x => by simp [eqI]
theorem szIntSo_fun (l : List Int) (left : Int) (hl : okN 9223372036854775807 l) (h0 : 0 ≤ left) (hh : left ≤ 1048576) : Fun Tryz.prog 42 [.t (T.ints l), .t (.int left)] (.t (.int (szIntS l left))) := szIntS_fun l left hl h0 hh
theorem toIntSo_fun (l : List Int) (hl : okN 1048576 l) : Fun Tryz.prog 10 [.t (T.ints l)] (.own (T.ints l)) := toIntS_fun l hl
theorem eqIntSo_fun (a b : List Int) (ha : okN 9223372036854775807 a) (hb : okN 9223372036854775807 b) : Fun Tryz.prog 13 [.t (T.ints a), .t (T.ints b)] (.t (.bool (eqL eqI a b))) := eqIntS_fun a b ha hb
end Go.Proofs.YtimpganophnehaaGreat
