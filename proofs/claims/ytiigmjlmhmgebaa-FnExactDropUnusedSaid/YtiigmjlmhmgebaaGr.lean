/- The law of MoveFuncs. -/
import Derived.Test.YtiigmjlmhmgebaaGq
set_option linter.unusedVariables false
set_option linter.unusedSimpArgs false
set_option maxRecDepth 10000
set_option maxHeartbeats 1000000
namespace Go.Proofs.Ytiigmjlmhmgebaa
open Go.Eng

theorem ctL_map {α β : Type} {ct : α → Int} {ct' : β → Int} {g : β → α} (h : ∀ x, ct (g x) = ct' x) (l : List β) : ctL ct (l.map g) = ctL ct' l := by
  induction l with
  | nil => rfl
  | cons x l ih => rw [List.map_cons, ctL_cons, ctL_cons, h, ih]
theorem ctL_perm {α : Type} (ct : α → Int) {l l' : List α} (h : l.Perm l') : ctL ct l = ctL ct l' := by
  induction h with
  | nil => rfl
  | cons x _ ih => rw [ctL_cons, ctL_cons, ih]
  | swap x y l => rw [ctL_cons, ctL_cons, ctL_cons, ctL_cons]; omega
  | trans _ _ h1 h2 => rw [h1, h2]
theorem ctS_mov (to : List Int) (s : Stmt) : ctStmt (movS to s) = ctStmt s := by
  have h : ctL ctTok (s.ex.map (movT to)) = ctL ctTok s.ex := ctL_map (fun _ => rfl) s.ex
  show 1 + 1 + ctL ctTok (s.ex.map (movT to)) + (s.thn.length : Int) + (s.els.length : Int) = ctStmt s
  rw [h]; rfl
theorem ctF_mov (to : List Int) (f : Func) : ctFunc (movF to f) = ctFunc f := by
  have h : ctL ctStmt (f.stmts.map (movS to)) = ctL ctStmt f.stmts := ctL_map (ctS_mov to) f.stmts
  show 1 + 1 + (f.body.length : Int) + ctL ctStmt (f.stmts.map (movS to)) = ctFunc f
  rw [h]; rfl
theorem okF_mov (to : List Int) {B : Nat} {f : Func} (h : f.ok B) : (movF to f).ok B := by
  refine ⟨h.1, ⟨by show (f.stmts.map (movS to)).length ≤ B; rw [List.length_map]; exact h.2.1.1, fun s hs => ?_⟩, trivial⟩
  obtain ⟨s', hs', rfl⟩ := List.mem_map.1 hs
  have := h.2.1.2 s' hs'
  exact ⟨by show (s'.ex.map (movT to)).length ≤ B; rw [List.length_map]; exact this.1, this.2.1, this.2.2.1, trivial⟩
end Go.Proofs.Ytiigmjlmhmgebaa
