/- What a good function's shape is, told of the mirrors: plain laws. -/
import Derived.Test.YtafjkelehnpfcaaDoorFf
set_option linter.unusedVariables false
set_option linter.unusedSimpArgs false
set_option maxRecDepth 10000
namespace Go.Proofs.YtafjkelehnpfcaaDoor
open Go.Eng

/-- The blocks of a statement, by its number. -/
def kids (l : List Stmt) (m : Int) : List Int × List Int := match l[m.toNat]? with
  | some s => (s.thn, s.els)
  | none => ([], [])
def inBB (N i : Int) (b : List Int) : Bool := b.all fun x => decide (i ≤ x ∧ x < N)
def downBB (l : List Stmt) : Bool := (upto l.length).all fun m => inBB l.length (m + 1) (kids l m).1 && inBB l.length (m + 1) (kids l m).2
/-- The blocks count up, each statement behind the one whose block it stands in. -/
def shapeB (l : List Stmt) (body : List Int) : Bool := downBB l && (inBB l.length 0 body && (ord l.length (kids l) body == upto l.length))
/-- Rising, within bounds. -/
def riseP (l : List Int) (lo hi : Int) : Prop := (∀ x, x ∈ l → lo ≤ x ∧ x ≤ hi) ∧ l.Pairwise (· < ·)
instance (l : List Int) (lo hi : Int) : Decidable (riseP l lo hi) := by unfold riseP; infer_instance
theorem upto_len (N : Nat) : (upto N).length = N := by unfold upto; simp
end Go.Proofs.YtafjkelehnpfcaaDoor
