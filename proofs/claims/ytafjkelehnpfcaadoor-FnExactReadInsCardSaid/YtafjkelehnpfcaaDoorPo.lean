/- The order of the statements of a function: which blocks make it count up. -/
namespace Go.Proofs.YtafjkelehnpfcaaDoor

/-- The statements of a block, each followed by those of its own blocks. -/
def ordK (kids : Int → List Int × List Int) : Nat → List Int → List Int
  | 0, _ => []
  | k + 1, b => b.flatMap fun n => n :: (ordK kids k (kids n).1 ++ ordK kids k (kids n).2)

/-- With steps enough. -/
def ord (N : Int) (kids : Int → List Int × List Int) (b : List Int) : List Int := ordK kids N.toNat b
def both (kids : Int → List Int × List Int) (m : Int) : List Int := (kids m).1 ++ (kids m).2

/-- The numbers from 0 on. -/
def upto (N : Nat) : List Int := (List.range N).map fun (k : Nat) => (k : Int)
theorem mem_upto {N : Nat} {x : Int} : x ∈ upto N ↔ 0 ≤ x ∧ x < N := by
  unfold upto
  rw [List.mem_map]
  constructor
  · rintro ⟨k, hk, rfl⟩; have := List.mem_range.1 hk; omega
  · intro h; exact ⟨x.toNat, List.mem_range.2 (by omega), by omega⟩
theorem upto_lt (N : Nat) : (upto N).Pairwise (· < ·) := by
  unfold upto
  rw [List.pairwise_map]
  exact List.Pairwise.imp (fun h => by omega) List.pairwise_lt_range
end Go.Proofs.YtafjkelehnpfcaaDoor
