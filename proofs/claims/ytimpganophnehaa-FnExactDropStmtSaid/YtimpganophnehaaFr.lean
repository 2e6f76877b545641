/- Marks of structs: numbers from k on, in the order of the fields. -/
import Derived.Test.YtimpganophnehaaFq
set_option linter.unusedVariables false
set_option linter.unusedSimpArgs false
set_option maxRecDepth 10000
namespace Go.Proofs.Ytimpganophnehaa
open Go.Eng

def mkL {α : Type} (mk : α → Int → α) (ct : α → Int) : List α → Int → List α
  | [], _ => []
  | x :: l, k => mk x k :: mkL mk ct l (k + ct x)
def ctL {α : Type} (ct : α → Int) (l : List α) : Int := (l.map ct).sum
section
variable {α : Type}
theorem mkL_len (mk : α → Int → α) (ct : α → Int) : ∀ (l : List α) (k : Int), (mkL mk ct l k).length = l.length
  | [], _ => rfl
  | _ :: l, k => by rw [mkL, List.length_cons, mkL_len mk ct l, List.length_cons]
theorem ctL_nil (ct : α → Int) : ctL ct [] = 0 := rfl
theorem ctL_cons (ct : α → Int) (x : α) (l : List α) : ctL ct (x :: l) = ct x + ctL ct l := by simp [ctL]
theorem ctL_at (ct : α → Int) {l : List α} {i : Int} (h0 : 0 ≤ i) (h1 : i < l.length) : ctL ct (l.drop i.toNat) = ct (l[i.toNat]'(by omega)) + ctL ct (l.drop (i + 1).toNat) := by
  rw [drop_at h0 h1, ctL_cons]
theorem ctL_take (ct : α → Int) {l : List α} {i : Int} (h0 : 0 ≤ i) (h1 : i < l.length) : ctL ct (l.take (i + 1).toNat) = ctL ct (l.take i.toNat) + ct (l[i.toNat]'(by omega)) := by
  unfold ctL; rw [take_at h0 h1, List.map_append, List.sum_append]; simp
theorem ctL_pos {ct : α → Int} {m : Int} (h : ∀ x, m ≤ ct x) (l : List α) (hm : 0 ≤ m := by decide) : 0 ≤ ctL ct l := by
  induction l with
  | nil => exact Int.le_refl 0
  | cons x l ih => have := h x; rw [ctL_cons]; omega
theorem ctL_len {ct : α → Int} (h : ∀ x, 1 ≤ ct x) (l : List α) : (l.length : Int) ≤ ctL ct l := by
  induction l with
  | nil => exact Int.le_refl 0
  | cons x l ih => have := h x; rw [ctL_cons, List.length_cons]; omega
theorem getMk (f : α → T) (mk : α → Int → α) (ct : α → Int) {l : List α} {k k' i : Int} (hk : k' = k + ctL ct (l.take i.toNat)) (h0 : 0 ≤ i) (h1 : i.toNat < l.length) : ((mkL mk ct l k).map f)[i.toNat]? = some (f (mk (l[i.toNat]) k')) := by
  rw [List.getElem?_map]
  have key : ∀ (l : List α) (k : Int) (n : Nat) (h : n < l.length), (mkL mk ct l k)[n]? = some (mk l[n] (k + ctL ct (l.take n))) := by
    intro l
    induction l with
    | nil => intro k n h; simp at h
    | cons x l ih =>
      intro k n h
      cases n with
      | zero => rw [mkL]; simp [ctL_nil]
      | succ n =>
        rw [mkL, List.getElem?_cons_succ, ih _ n (by simpa using h), List.getElem_cons_succ, List.take_succ_cons, ctL_cons]
        rw [Int.add_assoc]
  rw [key l k _ h1, ← hk]; rfl
theorem fget {D L : List α} {m f : Nat} (h : D.length = m) : (D ++ L)[m + f]? = L[f]? := by
  subst h; rw [List.getElem?_append_right (by omega)]; congr 1; omega
theorem fgetE {D L : List α} {m f : Nat} {y : α} (h : D.length = m) (e : L[f]? = some y) : (D ++ L)[m + f]? = some y := (fget h).trans e
theorem fset {D L : List α} {m f : Nat} {y : α} (h : D.length = m) : (D ++ L).set (m + f) y = D ++ L.set f y := by
  subst h; rw [List.set_append_right _ _ (by omega)]; congr 2; omega
theorem flat_lens {cl : α → List T} {n : Nat} (h : ∀ x, (cl x).length = n) (done : List α) {i : Int} (hd : done.length = i.toNat) : (done.flatMap cl).length = i.toNat * n := by
  rw [← hd]; clear hd
  induction done with
  | nil => simp
  | cons x l ih => rw [List.flatMap_cons, List.length_append, h, ih, List.length_cons, Nat.succ_mul]; omega
end

theorem heldIntS_mk {α : Type} (l : List α) (k : Int) (hk : 0 ≤ k) (hb : k + l.length ≤ 1073741824) : Fun Try.prog 62 [.t (T.ints (mkI l k)), .t (.int k)] (.t (.int (k + l.length))) := by
  rw [← heldI_mk l k]; exact heldIntS_fun _ k hk (by rw [mkI_len]; exact hb)

/-- How many marks there are, by the size: eight for each that the size counts, at most. -/
def SzC (f : Int → Int) (c : Int) : Prop := ∀ left : Int, 0 ≤ left → 0 ≤ f left → c + 8 * f left ≤ 8 * left
theorem szIntS_c (l : List Int) : SzC (szIntS l) l.length := by
  intro left h0 h
  unfold szIntS szN at *
  split at h <;> (try split) <;> omega
theorem szSeq_cn : SzC (szSeq []) 0 := fun left h0 h => by simp [szSeq]
theorem szSeq_cs {f : Int → Int} {fs : List (Int → Int)} {c d : Int} (h1 : SzC f c) (h2 : SzC (szSeq fs) d) : SzC (szSeq (f :: fs)) (c + d) := by
  intro left h0 h
  rw [szSeq] at h ⊢
  split at h
  · omega
  · rename_i hf
    rw [if_neg hf]
    have := h1 left h0 (by omega)
    have := h2 (f left) (by omega) h
    omega
theorem SzC.mono {f : Int → Int} {c d : Int} (h : SzC f c) (hd : d ≤ c) : SzC f d := fun left h0 hf => by have := h left h0 hf; omega
theorem szGo_cm {α : Type} {f : α → Int → Int} {ct : α → Int} : ∀ (l : List α), (∀ x, x ∈ l → SzC (f x) (ct x - 8)) → ∀ (left : Int), 0 ≤ left → 0 ≤ szGo f l left → ctL ct l - 8 * l.length + 8 * szGo f l left ≤ 8 * left
  | [], _, left, h0, _ => by simp [szGo, ctL]
  | x :: l, h, left, h0, hg => by
    rw [szGo] at hg ⊢
    split at hg
    · omega
    · rename_i hf
      rw [if_neg hf]
      have h1 := h x (List.mem_cons_self ..) left h0 (by omega)
      have h2 := szGo_cm l (fun y hy => h y (List.mem_cons_of_mem _ hy)) (f x left) (by omega) hg
      rw [ctL_cons, List.length_cons]
      omega
theorem szL_cm {α : Type} {f : α → Int → Int} {ct : α → Int} (l : List α) (h : ∀ x, x ∈ l → SzC (f x) (ct x - 8)) : SzC (szL f l) (ctL ct l) := by
  intro left h0 hg
  unfold szL at hg ⊢
  split at hg
  · omega
  · rename_i hf
    rw [if_neg hf]
    have := szGo_cm l h (left - l.length) (by omega) hg
    omega
theorem szL_c {α : Type} {f : α → Int → Int} {ct : α → Int} (h : ∀ x, SzC (f x) (ct x - 8)) (l : List α) : SzC (szL f l) (ctL ct l) := szL_cm l fun x _ => h x
theorem szLen_cl {α : Type} {ct : α → Int} (h : ∀ x, ct x ≤ 8) (l : List α) : SzC (szLen l) (ctL ct l) := by
  have e : ctL ct l ≤ 8 * l.length := by
    induction l with
    | nil => simp [ctL]
    | cons x l ih => have := h x; rw [ctL_cons, List.length_cons]; omega
  intro left h0 hg
  unfold szLen szN at *
  split at hg <;> (try split) <;> omega
end Go.Proofs.Ytimpganophnehaa
