/- Walks and laws of the claim. -/
import Derived.Test.YtimpganophnehaaGreatFa
import Derived.Test.YtimpganophnehaaGreatMb
import Derived.Test.YtimpganophnehaaGreatKj
set_option linter.unusedVariables false
set_option linter.unusedSimpArgs false
set_option maxRecDepth 10000
set_option maxHeartbeats 1000000
namespace Go.Proofs.YtimpganophnehaaGreat
open Go.Eng
open Go.Eng
def mkI {α : Type} : List α → Int → List Int
 | [], _ => []
 | _ :: l, k => k :: mkI l (k + 1)
theorem mkI_len {α : Type} : ∀ (l : List α) (k : Int), (mkI l k).length = l.length
 | [], _ => rfl
 | _ :: l, k => by rw [mkI, List.length_cons, mkI_len l, List.length_cons]
theorem flat_one {α : Type} {g : α → T} (h : ∀ a, (g a).cells = [g a]) : ∀ l : List α, (l.map g).flatMap T.cells = l.map g
 | [] => rfl
 | a :: l => by rw [List.map_cons, List.flatMap_cons, h, flat_one h l]; rfl
theorem cell1 {α : Type} {g : α → T} {done l : List α} {i : Int} (hd : done.length = i.toNat) (h0 : 0 ≤ i) (h1 : i < l.length) : ((done ++ l.drop i.toNat).map g)[i.toNat * 1]? = some (g (l[i.toNat]'(by omega))) := by
 rw [drop_at h0 h1, Nat.mul_one, List.getElem?_map, get_done hd]; rfl
theorem set1 {α : Type} {g : α → T} {done l : List α} {i : Int} (hd : done.length = i.toNat) (h0 : 0 ≤ i) (h1 : i < l.length) (y : α) : ((done ++ l.drop i.toNat).map g).set (i.toNat * 1) (g y) = ((done ++ [y]) ++ l.drop (i + 1).toNat).map g := by
 rw [drop_at h0 h1, Nat.mul_one, ← List.map_set, set_done hd]
theorem markIntS_nil (k : Int) : Fun Tryz.prog 24 [.t (.list 1 []), .t (.int k)] (tupD [.t (.int k)]) := by
 refine Fun.begin tys Tryz.func24 Z Z (N := 19) [(0, .t (.list 1 [])), (1, .t (.int k))] Z Z (fun w0 G F0 => ?_)
 refine sQ (rG (eZ Z (oN (tN (sQ (sQ (rG (eZ Z (oN (tN (W_block ?_)))))))))))
 refine lK (α := Int) [0, 1] [] (fun x => [(5, .t (.int x))]) (fun x => []) (fun x => 0 ≤ x) (fun x => Int.toNat (0)) 0 ?_ (fun z hx => ?_)
 ·exact Int.le_refl 0
 have hz := hx
 refine nY Z (sQ (sQ (rG (eK 2 Z (evE ?_)))))
 refine eZ Z (oN (tN ?_))
 refine W_cond Z (fun h1 => ?_) (fun h1 => ?_)
 ·
  simp only [HS] at h1
  exfalso; simp at h1; omega
 simp only [HS] at h1
 refine W_exit (tE (loopQ_e (inBlk_y (tN (sQ (rG (eK 2 Z (oN (tN (rT (eR ?_)))))))))))
 ·rfl
theorem markIntS_m (l : List Int) (k : Int) (hk : 0 ≤ k) (hb : k + l.length ≤ 1073741824) : MarkF Tryz.prog 24 (.list 1 (l.map T.int)) (k) (k + l.length) (.list 1 ((mkI l k).map T.int)) := by
 refine MarkF.slice Tryz.func24 rfl rfl (N := 19) rfl (fun y hy => (by obtain ⟨a, _, rfl⟩ := List.mem_map.1 hy; rfl) ) ( by simp [mkI_len]) (fun h => by cases l with | nil => (rw [show k + (([] : List Int).length : Int) = k from by simp]; exact markIntS_nil k) | cons _ _ => simp at h) (fun b cap vs w0 G F0 => ?_)
 refine sQ (rG (eZ Z (oN (tN (sQ (sQ (rG (eZ Z (oN (tN (W_block ?_)))))))))))
 refine lK (α := Int × Int × List Value × List T) [0] [] (fun x => [(5, .t (.int (x.1))), (1, .t (.int (x.2.1)))]) (fun x => [(19, .raw b (cap * 1) (x.2.2.1) (x.2.2.2))]) (fun x => 0 ≤ (x.1) ∧ (x.1) ≤ l.length ∧ (x.2.1) = k + (x.1) ∧ ∃ done : List Int, done.length = (x.1).toNat ∧ (x.2.2.2) = (done ++ l.drop (x.1).toNat).map T.int ∧ mkI l k = done ++ mkI (l.drop (x.1).toNat) (x.2.1)) (fun x => Int.toNat (l.length - (x.1))) (0, k, vs, (l.map T.int).flatMap T.cells) ?_ (fun x hx => ?_)
 ·exact ⟨by omega, by omega, by show k = k + 0; omega, [], rfl, by rw [flat_one fun _ => rfl]; rfl, rfl⟩
 obtain ⟨i, k', vs', ts⟩ := x
 obtain ⟨hi0, hi1, hk', done, hd, hts, he⟩ := hx
 dsimp only at hi0 hi1 hk' hd hts he ⊢
 refine nY Z (sQ (sQ (rG (eK 2 Z (WO_lenV Z Z (lt_of Z) Z ⟨3, by kernel_rfl⟩ rfl (eZ Z (oN (tN ?_))))))))
 refine W_cond Z (fun h1 => ?_) (fun h1 => ?_)
 ·
  simp only [HS] at h1
  refine W_skip (tN (sQ (W_block (sQ (rG (eK 3 Z (WO_idxV tys Z Z (lt_of Z) Z Z Z Z Z Z (by omega) (by first | omega | (simp only [List.length_map]; omega)) ?_)))))))
  refine WO_storeV tys (id := 19) Z Z Z Z Z Z Z (by rw [hts]; exact cell1 hd hi0 (by omega)) Z Z Z ?_
  refine nZ Z (kZ [0,1,5,6,7,8,9,12,13,14,15] Z (oN (tN (rG (eZ Z (evI ?_))))))
  refine eZ Z (oN (bN (tN (rG (eZ Z (evI ?_))))))
  refine eZ Z (oN ?_)
  refine lQ (_, _, _, _) ?_ ?_
  ·dsimp only
   exact ⟨by omega, by omega, by omega, done ++ [k'], by simp [hd]; omega, by rw [hts]; exact set1 hd hi0 h1 k', by rw [he, drop_at hi0 h1, mkI]; simp⟩
  ·(show Int.toNat _ < Int.toNat _); omega
 simp only [HS] at h1
 refine W_exit (tE (loopQ_e (inBlk_y (tN (sQ (rG (eK 2 Z (oN (tN (rT ?_))))))))))
 refine EndsM_slice (.inr Z) Z Z Z ?_ ?_
 ·omega
 ·rw [hts, drop_end h1, he, drop_end h1, flat_one fun _ => rfl]; rfl
def mkSS {α : Type} : List (List α) → Int → List (List Int)
 | [], _ => []
 | l :: ll, k => mkI l k :: mkSS ll (k + l.length)
theorem mkSS_len {α : Type} : ∀ (l : List (List α)) (k : Int), (mkSS l k).length = l.length
 | [], _ => rfl
 | _ :: l, k => by rw [mkSS, List.length_cons, mkSS_len l, List.length_cons]
theorem markIntSS_nil (k : Int) : Fun Tryz.prog 23 [.t (.list 1 []), .t (.int k)] (tupD [.t (.int k)]) := by
 refine Fun.begin tys Tryz.func23 Z Z (N := 19) [(0, .t (.list 1 [])), (1, .t (.int k))] Z Z (fun w0 G F0 => ?_)
 refine sQ (rG (eZ Z (oN (tN (sQ (sQ (rG (eZ Z (oN (tN (W_block ?_)))))))))))
 refine lK (α := Int) [0, 1] [] (fun x => [(5, .t (.int x))]) (fun x => []) (fun x => 0 ≤ x) (fun x => Int.toNat (0)) 0 ?_ (fun z hx => ?_)
 ·exact Int.le_refl 0
 have hz := hx
 refine nY Z (sQ (sQ (rG (eK 2 Z (evE ?_)))))
 refine eZ Z (oN (tN ?_))
 refine W_cond Z (fun h1 => ?_) (fun h1 => ?_)
 ·
  simp only [HS] at h1
  exfalso; simp at h1; omega
 simp only [HS] at h1
 refine W_exit (tE (loopQ_e (inBlk_y (tN (sQ (rG (eK 2 Z (oN (tN (rT (eR ?_)))))))))))
 ·rfl
theorem markIntSS_m (l : List (List Int)) (k : Int) (hk : 0 ≤ k) (hb : k + l.flatten.length ≤ 1073741824) (hl : l.length ≤ 1073741824) : MarkF Tryz.prog 23 (.list 1 (l.map T.ints)) (k) (k + l.flatten.length) (.list 1 ((mkSS l k).map T.ints)) := by
 refine MarkF.slice Tryz.func23 rfl rfl (N := 19) rfl (fun y hy => (by obtain ⟨a, _, rfl⟩ := List.mem_map.1 hy; rfl) ) ( by simp [mkSS_len]) (fun h => by cases l with | nil => (rw [show k + (([] : List (List Int)).flatten.length : Int) = k from by simp]; exact markIntSS_nil k) | cons _ _ => simp at h) (fun b cap vs w0 G F0 => ?_)
 refine sQ (rG (eZ Z (oN (tN (sQ (sQ (rG (eZ Z (oN (tN (W_block ?_)))))))))))
 refine lK (α := Int × Int × List Value × List T) [0] [] (fun x => [(5, .t (.int (x.1))), (1, .t (.int (x.2.1)))]) (fun x => [(19, .raw b (cap * 1) (x.2.2.1) (x.2.2.2))]) (fun x => 0 ≤ (x.1) ∧ (x.1) ≤ l.length ∧ k ≤ (x.2.1) ∧ (x.2.1) + (l.drop (x.1).toNat).flatten.length = k + l.flatten.length ∧ ∃ done : List (List Int), done.length = (x.1).toNat ∧ (x.2.2.2) = (done ++ l.drop (x.1).toNat).map T.ints ∧ mkSS l k = done ++ mkSS (l.drop (x.1).toNat) (x.2.1)) (fun x => Int.toNat (l.length - (x.1))) (0, k, vs, (l.map T.ints).flatMap T.cells) ?_ (fun x hx => ?_)
 ·exact ⟨by omega, by omega, Int.le_refl k, by simp, [], rfl, by rw [flat_one fun _ => rfl]; rfl, rfl⟩
 obtain ⟨i, k', vs', ts⟩ := x
 obtain ⟨hi0, hi1, hkk, hk', done, hd, hts, he⟩ := hx
 dsimp only at hi0 hi1 hkk hk' hd hts he ⊢
 refine nY Z (sQ (sQ (rG (eK 2 Z (WO_lenV Z Z (lt_of Z) Z ⟨25, by kernel_rfl⟩ rfl (eZ Z (oN (tN ?_))))))))
 refine W_cond Z (fun h1 => ?_) (fun h1 => ?_)
 ·
  simp only [HS] at h1
  refine W_skip (tN (sQ (W_block (rG (eK 2 Z (WO_idxV tys Z Z (lt_of Z) Z Z Z Z Z Z (by omega) (by first | omega | (simp only [List.length_map]; omega)) ?_))))))
  refine WO_loadV tys (id := 19) Z Z (lt_of Z) Z Z Z Z Z (by rw [hts]; exact cell1 hd hi0 (by omega)) (fun u15 hu15 => ?_)
  refine eZ Z (kZ [0,1,5,6,7,8,9,12,13,14,15,16] Z (WO_markN (id := 19) (j := i.toNat * 1) Z Z (lt_of Z) Z Z Z Z Z Z (hu15) (by rw [hts]; exact cell1 hd hi0 (by omega)) (markIntS_m _ k' (by omega) (by rw [flat_at hi0 h1, List.length_append] at hk'; omega)) ?_))
  refine eZ Z (oN (bN (tN (rG (eZ Z (evI ?_))))))
  refine eZ Z (oN ?_)
  refine lQ (_, _, _, _) ?_ ?_
  ·dsimp only
   exact ⟨by omega, by omega, by omega, by rw [flat_at hi0 h1, List.length_append] at hk'; omega, done ++ [mkI (l[i.toNat]'(by omega)) k'], by simp [hd]; omega, by rw [hts]; exact set1 hd hi0 h1 _, by rw [he, drop_at hi0 h1, mkSS]; simp⟩
  ·(show Int.toNat _ < Int.toNat _); omega
 simp only [HS] at h1
 refine W_exit (tE (loopQ_e (inBlk_y (tN (sQ (rG (eK 2 Z (oN (tN (rT ?_))))))))))
 refine EndsM_slice (.inr Z) Z Z Z ?_ ?_
 ·rw [drop_end h1] at hk'; simp only [List.flatten_nil, List.length_nil] at hk'; omega
 ·rw [hts, drop_end h1, he, drop_end h1, flat_one fun _ => rfl]; simp [mkSS]
def heldI : List Int → Int → Int
 | [], k => k
 | x :: l, k => if x = k then heldI l (k + 1) else -1
theorem heldI_mk {α : Type} : ∀ (l : List α) (k : Int), heldI (mkI l k) k = k + l.length
 | [], k => by simp [mkI, heldI]
 | _ :: l, k => by rw [mkI, heldI, if_pos rfl, heldI_mk l, List.length_cons]; omega
theorem heldI_at {l : List Int} {i k : Int} (h0 : 0 ≤ i) (h1 : i < l.length) : heldI (l.drop i.toNat) k = if l[i.toNat]'(by omega) = k then heldI (l.drop (i + 1).toNat) (k + 1) else -1 := by
 rw [drop_at h0 h1, heldI]
theorem heldIntS_fun (l : List Int) (k : Int) (hk : 0 ≤ k) (hb : k + l.length ≤ 1073741824) : Fun Tryz.prog 25 [.t (T.ints l), .t (.int k)] (tupD [.t (.int (heldI l k))]) := by
 refine Fun.begin tys Tryz.func25 Z Z (N := 21) [(0, .t (T.ints l)), (1, .t (.int k))] Z Z (fun w0 G F0 => ?_)
 refine sQ (rG (eZ Z (oN (tN (sQ (sQ (rG (eZ Z (oN (tN (W_block ?_)))))))))))
 refine lK (α := Int × Int) [0] [] (fun x => [(5, .t (.int (x.1))), (1, .t (.int (x.2)))]) (fun x => []) (fun x => 0 ≤ (x.1) ∧ (x.1) ≤ l.length ∧ (x.2) = k + (x.1) ∧ heldI l k = heldI (l.drop (x.1).toNat) (x.2)) (fun x => Int.toNat (l.length - (x.1))) (0, k) ?_ (fun x hx => ?_)
 ·exact ⟨by omega, by omega, by show k = k + 0; omega, rfl⟩
 obtain ⟨i, k'⟩ := x
 obtain ⟨hi0, hi1, hk', he⟩ := hx
 dsimp only at hi0 hi1 hk' he ⊢
 refine nY Z (sQ (sQ (rG (eK 2 Z (evE ?_)))))
 refine eZ Z (oN (tN ?_))
 refine W_cond Z (fun h1 => ?_) (fun h1 => ?_)
 ·
  simp only [HS] at h1
  refine W_skip (tN (sQ (W_block (sQ (sQ (rG (eK 2 Z (WO_idxT tys Z Z (lt_of Z) Z Z Z Z Z Z Z (by omega) _ (getT _ _ (by omega) (by omega)) (eK 2 Z (kZ [0,1,5,6,7,8,9,12,13,14,15,16] Z (eZ Z (oN (tN ?_)))))))))))))
  refine W_cond Z (fun h2 => ?_) (fun h2 => ?_)
  ·
   simp only [HS] at h2
   refine sQ (rG (eZ Z (oN (tN (rT (tR (bR (tR (loopQ_r (bR (tR (eR ?_))))))))))))
   ·rw [he, heldI_at hi0 h1, if_neg h2]
    done
  simp only [HS] at h2
  refine W_skip (tN (rG (eZ Z (evI ?_))))
  refine eZ Z (oN (bN (tN (rG (eZ Z (evI ?_))))))
  refine eZ Z (oN ?_)
  refine lQ (_, _) ?_ ?_
  ·dsimp only
   exact ⟨by omega, by omega, by omega, by rw [he, heldI_at hi0 h1, if_pos (by assumption)]⟩
  ·(show Int.toNat _ < Int.toNat _); omega
 simp only [HS] at h1
 refine W_exit (tE (loopQ_e (inBlk_y (tN (sQ (rG (eK 2 Z (oN (tN (rT (eR ?_)))))))))))
 ·rw [he, drop_end h1]
  rfl
open Go.Eng
def mkL {α : Type} (mk : α → Int → α) (ct : α → Int) : List α → Int → List α
 | [], _ => []
 | x :: l, k => mk x k :: mkL mk ct l (k + ct x)
def ctL {α : Type} (ct : α → Int) (l : List α) : Int := (l.map ct).sum
section
variable {α : Type}
theorem mkL_len (mk : α → Int → α) (ct : α → Int) : ∀ (l : List α) (k : Int), (mkL mk ct l k).length = l.length
 | [], _ => rfl
 | _ :: l, k => by rw [mkL, List.length_cons, mkL_len mk ct l, List.length_cons]
theorem ctL_nil (ct : α → Int) : ctL ct [] = 0 := rfl
theorem ctL_cons (ct : α → Int) (x : α) (l : List α) : ctL ct (x :: l) = ct x + ctL ct l := by simp [ctL]
theorem ctL_at (ct : α → Int) {l : List α} {i : Int} (h0 : 0 ≤ i) (h1 : i < l.length) : ctL ct (l.drop i.toNat) = ct (l[i.toNat]'(by omega)) + ctL ct (l.drop (i + 1).toNat) := by
 rw [drop_at h0 h1, ctL_cons]
theorem ctL_pos {ct : α → Int} {m : Int} (h : ∀ x, m ≤ ct x) (l : List α) (hm : 0 ≤ m := by decide) : 0 ≤ ctL ct l := by
 induction l with
 | nil => exact Int.le_refl 0
 | cons x l ih => have := h x; rw [ctL_cons]; omega
theorem ctL_len {ct : α → Int} (h : ∀ x, 1 ≤ ct x) (l : List α) : (l.length : Int) ≤ ctL ct l := by
 induction l with
 | nil => exact Int.le_refl 0
 | cons x l ih => have := h x; rw [ctL_cons, List.length_cons]; omega
theorem fget {D L : List α} {m f : Nat} (h : D.length = m) : (D ++ L)[m + f]? = L[f]? := by
 subst h; rw [List.getElem?_append_right (by omega)]; congr 1; omega
theorem fgetE {D L : List α} {m f : Nat} {y : α} (h : D.length = m) (e : L[f]? = some y) : (D ++ L)[m + f]? = some y := (fget h).trans e
theorem fset {D L : List α} {m f : Nat} {y : α} (h : D.length = m) : (D ++ L).set (m + f) y = D ++ L.set f y := by
 subst h; rw [List.set_append_right _ _ (by omega)]; congr 2; omega
theorem flat_lens {cl : α → List T} {n : Nat} (h : ∀ x, (cl x).length = n) (done : List α) {i : Int} (hd : done.length = i.toNat) : (done.flatMap cl).length = i.toNat * n := by
 rw [← hd]; clear hd
 induction done with
 | nil => simp
 | cons x l ih => rw [List.flatMap_cons, List.length_append, h, ih, List.length_cons, Nat.succ_mul]; omega
end
theorem heldIntS_mk {α : Type} (l : List α) (k : Int) (hk : 0 ≤ k) (hb : k + l.length ≤ 1073741824) : Fun Tryz.prog 25 [.t (T.ints (mkI l k)), .t (.int k)] (.t (.int (k + l.length))) := by
 rw [← heldI_mk l k]; exact heldIntS_fun _ k hk (by rw [mkI_len]; exact hb)
def SzC (f : Int → Int) (c : Int) : Prop := ∀ left : Int, 0 ≤ left → 0 ≤ f left → c + 8 * f left ≤ 8 * left
theorem szIntS_c (l : List Int) : SzC (szIntS l) l.length := by
 intro left h0 h
 unfold szIntS szN at *
 split at h <;> (try split) <;> omega
theorem szSeq_cn : SzC (szSeq []) 0 := fun left h0 h => by simp [szSeq]
theorem szSeq_cs {f : Int → Int} {fs : List (Int → Int)} {c d : Int} (h1 : SzC f c) (h2 : SzC (szSeq fs) d) : SzC (szSeq (f :: fs)) (c + d) := by
 intro left h0 h
 rw [szSeq] at h ⊢
 split at h
 ·omega
 ·rename_i hf
  rw [if_neg hf]
  have := h1 left h0 (by omega)
  have := h2 (f left) (by omega) h
  omega
theorem SzC.mono {f : Int → Int} {c d : Int} (h : SzC f c) (hd : d ≤ c) : SzC f d := fun left h0 hf => by have := h left h0 hf; omega
theorem szGo_cm {α : Type} {f : α → Int → Int} {ct : α → Int} : ∀ (l : List α), (∀ x, x ∈ l → SzC (f x) (ct x - 8)) → ∀ (left : Int), 0 ≤ left → 0 ≤ szGo f l left → ctL ct l - 8 * l.length + 8 * szGo f l left ≤ 8 * left
 | [], _, left, h0, _ => by simp [szGo, ctL]
 | x :: l, h, left, h0, hg => by
  rw [szGo] at hg ⊢
  split at hg
  ·omega
  ·rename_i hf
   rw [if_neg hf]
   have h1 := h x (List.mem_cons_self ..) left h0 (by omega)
   have h2 := szGo_cm l (fun y hy => h y (List.mem_cons_of_mem _ hy)) (f x left) (by omega) hg
   rw [ctL_cons, List.length_cons]
   omega
theorem szL_cm {α : Type} {f : α → Int → Int} {ct : α → Int} (l : List α) (h : ∀ x, x ∈ l → SzC (f x) (ct x - 8)) : SzC (szL f l) (ctL ct l) := by
 intro left h0 hg
 unfold szL at hg ⊢
 split at hg
 ·omega
 ·rename_i hf
  rw [if_neg hf]
  have := szGo_cm l h (left - l.length) (by omega) hg
  omega
theorem szL_c {α : Type} {f : α → Int → Int} {ct : α → Int} (h : ∀ x, SzC (f x) (ct x - 8)) (l : List α) : SzC (szL f l) (ctL ct l) := szL_cm l fun x _ => h x
theorem szLen_cl {α : Type} {ct : α → Int} (h : ∀ x, ct x ≤ 8) (l : List α) : SzC (szLen l) (ctL ct l) := by
 have e : ctL ct l ≤ 8 * l.length := by
  induction l with
  | nil => simp [ctL]
  | cons x l ih => have := h x; rw [ctL_cons, List.length_cons]; omega
 intro left h0 hg
 unfold szLen szN at *
 split at hg <;> (try split) <;> omega
open Go.Eng
def mkIns (x : Ins) (k : Int) : Ins := ⟨k, k + 1⟩
def ctIns (x : Ins) : Int := 1 + 1
theorem ctIns_pos (x : Ins) : 1 ≤ ctIns x := by
 unfold ctIns; omega
def Ins.cl (x : Ins) : List T := (Ins.tt x).cells
theorem Ins.cl_len (x : Ins) : x.cl.length = 2 := rfl
theorem markInsS_nil (k : Int) : Fun Tryz.prog 88 [.t (.list 2 []), .t (.int k)] (tupD [.t (.int k)]) := by
 refine Fun.begin tys Tryz.func88 Z Z (N := 27) [(0, .t (.list 2 [])), (1, .t (.int k))] Z Z (fun w0 G F0 => ?_)
 refine sQ (rG (eZ Z (oN (tN (sQ (sQ (rG (eZ Z (oN (tN (W_block ?_)))))))))))
 refine lK (α := Int) [0, 1] [] (fun x => [(5, .t (.int x))]) (fun x => []) (fun x => 0 ≤ x) (fun x => Int.toNat (0)) 0 ?_ (fun z hx => ?_)
 ·exact Int.le_refl 0
 have hz := hx
 refine nY Z (sQ (sQ (rG (eK 2 Z (evE ?_)))))
 refine eZ Z (oN (tN ?_))
 refine W_cond Z (fun h1 => ?_) (fun h1 => ?_)
 ·
  try simp only [HS] at h1
  exfalso; simp at h1; omega
 try simp only [HS] at h1
 refine W_exit (tE (loopQ_e (inBlk_y (tN (sQ (rG (eK 2 Z (oN (tN (rT (eR ?_)))))))))))
 ·rfl
theorem markInsS_m (l : List Ins) (k : Int) (hk : 0 ≤ k) (hb : k + ctL ctIns l ≤ 1073741824) : MarkF Tryz.prog 88 (.list 2 (l.map Ins.tt)) (k) (k + ctL ctIns l) (.list 2 ((mkL mkIns ctIns l k).map Ins.tt)) := by
 have hlen := ctL_len ctIns_pos l
 refine MarkF.slice Tryz.func88 rfl rfl (N := 27) rfl (fun y hy => (by obtain ⟨a, _, rfl⟩ := List.mem_map.1 hy; rfl) ) ( by simp [mkL_len]) (fun h => by cases l with | nil => (rw [show k + ctL ctIns [] = k from by simp [ctL]]; exact markInsS_nil k) | cons _ _ => simp at h) (fun b cap vs w0 G F0 => ?_)
 refine sQ (rG (eZ Z (oN (tN (sQ (sQ (rG (eZ Z (oN (tN (W_block ?_)))))))))))
 refine lK (α := Int × Int × List Value × List T) [0] [] (fun x => [(5, .t (.int (x.1))), (1, .t (.int (x.2.1)))]) (fun x => [(27, .raw b (cap * 2) (x.2.2.1) (x.2.2.2))]) (fun x => 0 ≤ (x.1) ∧ (x.1) ≤ l.length ∧ k ≤ (x.2.1) ∧ (x.2.1) + ctL ctIns (l.drop (x.1).toNat) = k + ctL ctIns l ∧ ∃ done : List Ins, done.length = (x.1).toNat ∧ (x.2.2.2) = done.flatMap Ins.cl ++ (l.drop (x.1).toNat).flatMap Ins.cl ∧ mkL mkIns ctIns l k = done ++ mkL mkIns ctIns (l.drop (x.1).toNat) (x.2.1)) (fun x => Int.toNat (l.length - (x.1))) (0, k, vs, (l.map Ins.tt).flatMap T.cells) ?_ (fun x hx => ?_)
 ·exact ⟨by omega, by omega, Int.le_refl k, rfl, [], rfl, by rw [List.flatMap_map]; rfl, rfl⟩
 obtain ⟨i, k', vs', ts⟩ := x
 obtain ⟨hi0, hi1, hkk, hk', done, hd, hts, he⟩ := hx
 try dsimp only at hi0 hi1 hkk hk' hd hts he ⊢
 refine nY Z (sQ (sQ (rG (eK 2 Z (WO_lenV Z Z (lt_of Z) Z ⟨128, by kernel_rfl⟩ rfl (eZ Z (oN (tN ?_))))))))
 refine W_cond Z (fun h1 => ?_) (fun h1 => ?_)
 ·
  try simp only [HS] at h1
  refine W_skip (tN (sQ (W_block (sQ (rG ?_)))))
  have hD := flat_lens Ins.cl_len done hd
  have hca := ctL_at ctIns hi0 h1
  have hcx : ctIns (l[i.toNat]'(by omega)) = ctIns (l[i.toNat]'(by omega)) := rfl
  conv at hcx => rhs; unfold ctIns
  have hcr := ctL_pos ctIns_pos (l.drop (i + 1).toNat)
  rw [drop_at hi0 h1, List.flatMap_cons] at hts
  subst hts
  refine eK 3 Z (WO_idxV tys Z Z (lt_of Z) Z Z Z Z Z Z (by omega) (by first | omega | (simp only [List.length_map]; omega)) ?_)
  refine WO_fieldV tys Z Z (lt_of Z) Z Z Z Z Z (kZ [0,1,5,6,7,8,9,12,13,14,15,16] Z (WO_storeV tys (id := 27) Z Z Z Z Z Z Z (by exact fgetE hD Z) Z Z Z ?_))
  refine nZ Z (oN (tN (sQ (rG (eZ Z (evI ?_))))))
  refine eZ Z (oN (tN (sQ (rG (eK 3 Z (WO_idxV tys Z Z (lt_of Z) Z Z Z Z Z Z (by omega) (by first | omega | (simp only [List.length_map]; omega)) ?_))))))
  refine WO_fieldV tys Z Z (lt_of Z) Z Z Z Z Z (kZ [0,1,5,6,7,8,9,12,13,14,15,16,17,18,19,20,21,22,23] Z (WO_storeV tys (id := 27) Z Z Z Z Z Z Z (by rw [fset hD]; exact fgetE hD Z) Z Z Z ?_))
  refine nZ Z (oN (tN (rG (eZ Z (evI ?_)))))
  refine eZ Z (oN (bN (tN (rG (eZ Z (evI ?_))))))
  refine eZ Z (oN ?_)
  refine lQ (_, _, _, _) ?_ ?_
  ·try dsimp only
   refine ⟨by omega, by omega, by omega, by omega, done ++ [mkIns (l[i.toNat]'(by omega)) k'], by simp [hd]; omega, ?_, ?_⟩
   ·simp only [fset hD]
    rw [List.flatMap_append, List.append_assoc]
    rfl
   ·rw [he, drop_at hi0 h1, mkL, List.append_assoc, show k' + ctIns (l[i.toNat]'(by omega)) = k' + 1 + 1 from by omega]
    rfl
  ·(show Int.toNat _ < Int.toNat _); omega
 try simp only [HS] at h1
 refine W_exit (tE (loopQ_e (inBlk_y (tN (sQ (rG (eK 2 Z (oN (tN (rT ?_))))))))))
 refine EndsM_slice (.inr Z) Z Z Z ?_ ?_
 ·rw [drop_end h1] at hk'; simp only [ctL_nil] at hk'; omega
 ·rw [hts, drop_end h1, he, drop_end h1, List.flatMap_map, mkL, List.append_nil]; exact List.append_nil _
def mkRow (x : Row) (k : Int) : Row := ⟨k, k + 1, k + 1 + 1⟩
def ctRow (x : Row) : Int := 1 + 1 + 1
theorem ctRow_pos (x : Row) : 1 ≤ ctRow x := by
 unfold ctRow; omega
def Row.cl (x : Row) : List T := (Row.tt x).cells
theorem Row.cl_len (x : Row) : x.cl.length = 3 := rfl
theorem markRowS_nil (k : Int) : Fun Tryz.prog 89 [.t (.list 3 []), .t (.int k)] (tupD [.t (.int k)]) := by
 refine Fun.begin tys Tryz.func89 Z Z (N := 34) [(0, .t (.list 3 [])), (1, .t (.int k))] Z Z (fun w0 G F0 => ?_)
 refine sQ (rG (eZ Z (oN (tN (sQ (sQ (rG (eZ Z (oN (tN (W_block ?_)))))))))))
 refine lK (α := Int) [0, 1] [] (fun x => [(5, .t (.int x))]) (fun x => []) (fun x => 0 ≤ x) (fun x => Int.toNat (0)) 0 ?_ (fun z hx => ?_)
 ·exact Int.le_refl 0
 have hz := hx
 refine nY Z (sQ (sQ (rG (eK 2 Z (evE ?_)))))
 refine eZ Z (oN (tN ?_))
 refine W_cond Z (fun h1 => ?_) (fun h1 => ?_)
 ·
  try simp only [HS] at h1
  exfalso; simp at h1; omega
 try simp only [HS] at h1
 refine W_exit (tE (loopQ_e (inBlk_y (tN (sQ (rG (eK 2 Z (oN (tN (rT (eR ?_)))))))))))
 ·rfl
theorem markRowS_m (l : List Row) (k : Int) (hk : 0 ≤ k) (hb : k + ctL ctRow l ≤ 1073741824) : MarkF Tryz.prog 89 (.list 3 (l.map Row.tt)) (k) (k + ctL ctRow l) (.list 3 ((mkL mkRow ctRow l k).map Row.tt)) := by
 have hlen := ctL_len ctRow_pos l
 refine MarkF.slice Tryz.func89 rfl rfl (N := 34) rfl (fun y hy => (by obtain ⟨a, _, rfl⟩ := List.mem_map.1 hy; rfl) ) ( by simp [mkL_len]) (fun h => by cases l with | nil => (rw [show k + ctL ctRow [] = k from by simp [ctL]]; exact markRowS_nil k) | cons _ _ => simp at h) (fun b cap vs w0 G F0 => ?_)
 refine sQ (rG (eZ Z (oN (tN (sQ (sQ (rG (eZ Z (oN (tN (W_block ?_)))))))))))
 refine lK (α := Int × Int × List Value × List T) [0] [] (fun x => [(5, .t (.int (x.1))), (1, .t (.int (x.2.1)))]) (fun x => [(34, .raw b (cap * 3) (x.2.2.1) (x.2.2.2))]) (fun x => 0 ≤ (x.1) ∧ (x.1) ≤ l.length ∧ k ≤ (x.2.1) ∧ (x.2.1) + ctL ctRow (l.drop (x.1).toNat) = k + ctL ctRow l ∧ ∃ done : List Row, done.length = (x.1).toNat ∧ (x.2.2.2) = done.flatMap Row.cl ++ (l.drop (x.1).toNat).flatMap Row.cl ∧ mkL mkRow ctRow l k = done ++ mkL mkRow ctRow (l.drop (x.1).toNat) (x.2.1)) (fun x => Int.toNat (l.length - (x.1))) (0, k, vs, (l.map Row.tt).flatMap T.cells) ?_ (fun x hx => ?_)
 ·exact ⟨by omega, by omega, Int.le_refl k, rfl, [], rfl, by rw [List.flatMap_map]; rfl, rfl⟩
 obtain ⟨i, k', vs', ts⟩ := x
 obtain ⟨hi0, hi1, hkk, hk', done, hd, hts, he⟩ := hx
 try dsimp only at hi0 hi1 hkk hk' hd hts he ⊢
 refine nY Z (sQ (sQ (rG (eK 2 Z (WO_lenV Z Z (lt_of Z) Z ⟨124, by kernel_rfl⟩ rfl (eZ Z (oN (tN ?_))))))))
 refine W_cond Z (fun h1 => ?_) (fun h1 => ?_)
 ·
  try simp only [HS] at h1
  refine W_skip (tN (sQ (W_block (sQ (rG ?_)))))
  have hD := flat_lens Row.cl_len done hd
  have hca := ctL_at ctRow hi0 h1
  have hcx : ctRow (l[i.toNat]'(by omega)) = ctRow (l[i.toNat]'(by omega)) := rfl
  conv at hcx => rhs; unfold ctRow
  have hcr := ctL_pos ctRow_pos (l.drop (i + 1).toNat)
  rw [drop_at hi0 h1, List.flatMap_cons] at hts
  subst hts
  refine eK 3 Z (WO_idxV tys Z Z (lt_of Z) Z Z Z Z Z Z (by omega) (by first | omega | (simp only [List.length_map]; omega)) ?_)
  refine WO_fieldV tys Z Z (lt_of Z) Z Z Z Z Z (kZ [0,1,5,6,7,8,9,12,13,14,15,16] Z (WO_storeV tys (id := 34) Z Z Z Z Z Z Z (by exact fgetE hD Z) Z Z Z ?_))
  refine nZ Z (oN (tN (sQ (rG (eZ Z (evI ?_))))))
  refine eZ Z (oN (tN (sQ (rG (eK 3 Z (WO_idxV tys Z Z (lt_of Z) Z Z Z Z Z Z (by omega) (by first | omega | (simp only [List.length_map]; omega)) ?_))))))
  refine WO_fieldV tys Z Z (lt_of Z) Z Z Z Z Z (kZ [0,1,5,6,7,8,9,12,13,14,15,16,17,18,19,20,21,22,23] Z (WO_storeV tys (id := 34) Z Z Z Z Z Z Z (by rw [fset hD]; exact fgetE hD Z) Z Z Z ?_))
  refine nZ Z (oN (tN (sQ (rG (eZ Z (evI ?_))))))
  refine eZ Z (oN (tN (sQ (rG (eK 3 Z (WO_idxV tys Z Z (lt_of Z) Z Z Z Z Z Z (by omega) (by first | omega | (simp only [List.length_map]; omega)) ?_))))))
  refine WO_fieldV tys Z Z (lt_of Z) Z Z Z Z Z (kZ [0,1,5,6,7,8,9,12,13,14,15,16,17,18,19,20,21,22,23,24,25,26,27,28,29,30] Z (WO_storeV tys (id := 34) Z Z Z Z Z Z Z (by rw [fset hD, fset hD]; exact fgetE hD Z) Z Z Z ?_))
  refine nZ Z (oN (tN (rG (eZ Z (evI ?_)))))
  refine eZ Z (oN (bN (tN (rG (eZ Z (evI ?_))))))
  refine eZ Z (oN ?_)
  refine lQ (_, _, _, _) ?_ ?_
  ·try dsimp only
   refine ⟨by omega, by omega, by omega, by omega, done ++ [mkRow (l[i.toNat]'(by omega)) k'], by simp [hd]; omega, ?_, ?_⟩
   ·simp only [fset hD]
    rw [List.flatMap_append, List.append_assoc]
    rfl
   ·rw [he, drop_at hi0 h1, mkL, List.append_assoc, show k' + ctRow (l[i.toNat]'(by omega)) = k' + 1 + 1 + 1 from by omega]
    rfl
  ·(show Int.toNat _ < Int.toNat _); omega
 try simp only [HS] at h1
 refine W_exit (tE (loopQ_e (inBlk_y (tN (sQ (rG (eK 2 Z (oN (tN (rT ?_))))))))))
 refine EndsM_slice (.inr Z) Z Z Z ?_ ?_
 ·rw [drop_end h1] at hk'; simp only [ctL_nil] at hk'; omega
 ·rw [hts, drop_end h1, he, drop_end h1, List.flatMap_map, mkL, List.append_nil]; exact List.append_nil _
def mkCode (x : Code) (k : Int) : Code := ⟨k, k + 1, mkI x.sites (k + 1 + 1), mkL mkIns ctIns x.ins (k + 1 + 1 + (x.sites.length : Int)), mkL mkRow ctRow x.rows (k + 1 + 1 + (x.sites.length : Int) + ctL ctIns x.ins)⟩
def ctCode (x : Code) : Int := 1 + 1 + (x.sites.length : Int) + ctL ctIns x.ins + ctL ctRow x.rows
theorem ctCode_pos (x : Code) : 1 ≤ ctCode x := by
 have p1 := ctL_pos ctIns_pos x.ins
 have p2 := ctL_pos ctRow_pos x.rows
 unfold ctCode; omega
def Code.cl (x : Code) : List T := (Code.tt x).cells
theorem Code.cl_len (x : Code) : x.cl.length = 5 := rfl
theorem markCodeS_nil (k : Int) : Fun Tryz.prog 50 [.t (.list 5 []), .t (.int k)] (tupD [.t (.int k)]) := by
 refine Fun.begin tys Tryz.func50 Z Z (N := 48) [(0, .t (.list 5 [])), (1, .t (.int k))] Z Z (fun w0 G F0 => ?_)
 refine sQ (rG (eZ Z (oN (tN (sQ (sQ (rG (eZ Z (oN (tN (W_block ?_)))))))))))
 refine lK (α := Int) [0, 1] [] (fun x => [(5, .t (.int x))]) (fun x => []) (fun x => 0 ≤ x) (fun x => Int.toNat (0)) 0 ?_ (fun z hx => ?_)
 ·exact Int.le_refl 0
 have hz := hx
 refine nY Z (sQ (sQ (rG (eK 2 Z (evE ?_)))))
 refine eZ Z (oN (tN ?_))
 refine W_cond Z (fun h1 => ?_) (fun h1 => ?_)
 ·
  try simp only [HS] at h1
  exfalso; simp at h1; omega
 try simp only [HS] at h1
 refine W_exit (tE (loopQ_e (inBlk_y (tN (sQ (rG (eK 2 Z (oN (tN (rT (eR ?_)))))))))))
 ·rfl
theorem markCodeS_m (l : List Code) (k : Int) (hk : 0 ≤ k) (hb : k + ctL ctCode l ≤ 1073741824) : MarkF Tryz.prog 50 (.list 5 (l.map Code.tt)) (k) (k + ctL ctCode l) (.list 5 ((mkL mkCode ctCode l k).map Code.tt)) := by
 have hlen := ctL_len ctCode_pos l
 refine MarkF.slice Tryz.func50 rfl rfl (N := 48) rfl (fun y hy => (by obtain ⟨a, _, rfl⟩ := List.mem_map.1 hy; rfl) ) ( by simp [mkL_len]) (fun h => by cases l with | nil => (rw [show k + ctL ctCode [] = k from by simp [ctL]]; exact markCodeS_nil k) | cons _ _ => simp at h) (fun b cap vs w0 G F0 => ?_)
 refine sQ (rG (eZ Z (oN (tN (sQ (sQ (rG (eZ Z (oN (tN (W_block ?_)))))))))))
 refine lK (α := Int × Int × List Value × List T) [0] [] (fun x => [(5, .t (.int (x.1))), (1, .t (.int (x.2.1)))]) (fun x => [(48, .raw b (cap * 5) (x.2.2.1) (x.2.2.2))]) (fun x => 0 ≤ (x.1) ∧ (x.1) ≤ l.length ∧ k ≤ (x.2.1) ∧ (x.2.1) + ctL ctCode (l.drop (x.1).toNat) = k + ctL ctCode l ∧ ∃ done : List Code, done.length = (x.1).toNat ∧ (x.2.2.2) = done.flatMap Code.cl ++ (l.drop (x.1).toNat).flatMap Code.cl ∧ mkL mkCode ctCode l k = done ++ mkL mkCode ctCode (l.drop (x.1).toNat) (x.2.1)) (fun x => Int.toNat (l.length - (x.1))) (0, k, vs, (l.map Code.tt).flatMap T.cells) ?_ (fun x hx => ?_)
 ·exact ⟨by omega, by omega, Int.le_refl k, rfl, [], rfl, by rw [List.flatMap_map]; rfl, rfl⟩
 obtain ⟨i, k', vs', ts⟩ := x
 obtain ⟨hi0, hi1, hkk, hk', done, hd, hts, he⟩ := hx
 try dsimp only at hi0 hi1 hkk hk' hd hts he ⊢
 refine nY Z (sQ (sQ (rG (eK 2 Z (WO_lenV Z Z (lt_of Z) Z ⟨72, by kernel_rfl⟩ rfl (eZ Z (oN (tN ?_))))))))
 refine W_cond Z (fun h1 => ?_) (fun h1 => ?_)
 ·
  try simp only [HS] at h1
  refine W_skip (tN (sQ (W_block (sQ (rG ?_)))))
  have hD := flat_lens Code.cl_len done hd
  have hca := ctL_at ctCode hi0 h1
  have hcx : ctCode (l[i.toNat]'(by omega)) = ctCode (l[i.toNat]'(by omega)) := rfl
  conv at hcx => rhs; unfold ctCode
  have hcr := ctL_pos ctCode_pos (l.drop (i + 1).toNat)
  have p0 := ctL_pos ctIns_pos (l[i.toNat]'(by omega)).ins
  have p1 := ctL_pos ctRow_pos (l[i.toNat]'(by omega)).rows
  rw [drop_at hi0 h1, List.flatMap_cons] at hts
  subst hts
  refine eK 3 Z (WO_idxV tys Z Z (lt_of Z) Z Z Z Z Z Z (by omega) (by first | omega | (simp only [List.length_map]; omega)) ?_)
  refine WO_fieldV tys Z Z (lt_of Z) Z Z Z Z Z (kZ [0,1,5,6,7,8,9,12,13,14,15,16] Z (WO_storeV tys (id := 48) Z Z Z Z Z Z Z (by exact fgetE hD Z) Z Z Z ?_))
  refine nZ Z (oN (tN (sQ (rG (eZ Z (evI ?_))))))
  refine eZ Z (oN (tN (sQ (rG (eK 3 Z (WO_idxV tys Z Z (lt_of Z) Z Z Z Z Z Z (by omega) (by first | omega | (simp only [List.length_map]; omega)) ?_))))))
  refine WO_fieldV tys Z Z (lt_of Z) Z Z Z Z Z (kZ [0,1,5,6,7,8,9,12,13,14,15,16,17,18,19,20,21,22,23] Z (WO_storeV tys (id := 48) Z Z Z Z Z Z Z (by rw [fset hD]; exact fgetE hD Z) Z Z Z ?_))
  refine nZ Z (oN (tN (sQ (rG (eZ Z (evI ?_))))))
  refine eZ Z (oN (tN (sQ (rG (eK 2 Z (WO_idxV tys Z Z (lt_of Z) Z Z Z Z Z Z (by omega) (by first | omega | (simp only [List.length_map]; omega)) ?_))))))
  refine WO_fieldV tys Z Z (lt_of Z) Z Z Z Z Z ?_
  refine WO_loadV tys (id := 48) Z Z (lt_of Z) Z Z Z Z Z (by rw [fset hD, fset hD]; exact fgetE hD Z) (fun u30 hu30 => ?_)
  refine kZ [0,1,5,6,7,8,9,12,13,14,15,16,17,18,19,20,21,22,23,24,25,26,27,28,29,30] Z (eZ Z (WO_markN (id := 48) (j := i.toNat * 5 + 2) Z Z (lt_of Z) Z Z Z Z Z Z (hu30) (by rw [fset hD, fset hD]; exact fgetE hD Z) (markIntS_m (l[i.toNat]'(by omega)).sites (k' + 1 + 1) (by omega) (by omega)) ?_))
  refine eZ Z (oN (tN (sQ (rG (eK 2 Z (WO_idxV tys Z Z (lt_of Z) Z Z Z Z Z Z (by omega) (by first | omega | (simp only [List.length_map]; omega)) ?_))))))
  refine WO_fieldV tys Z Z (lt_of Z) Z Z Z Z Z ?_
  refine WO_loadV tys (id := 48) Z Z (lt_of Z) Z Z Z Z Z (by rw [fset hD, fset hD, fset hD]; exact fgetE hD Z) (fun u37 hu37 => ?_)
  refine eZ Z (kZ [0,1,5,6,7,8,9,12,13,14,15,16,17,18,19,20,21,22,23,24,25,26,27,28,29,30,31,32,33,34,35,36,37,38] Z (WO_markN (id := 48) (j := i.toNat * 5 + 3) Z Z (lt_of Z) Z Z Z Z Z Z (hu37) (by rw [fset hD, fset hD, fset hD]; exact fgetE hD Z) (markInsS_m (l[i.toNat]'(by omega)).ins (k' + 1 + 1 + ((l[i.toNat]'(by omega)).sites.length : Int)) (by omega) (by omega)) ?_))
  refine eZ Z (oN (tN (rG (eK 2 Z (WO_idxV tys Z Z (lt_of Z) Z Z Z Z Z Z (by omega) (by first | omega | (simp only [List.length_map]; omega)) ?_)))))
  refine WO_fieldV tys Z Z (lt_of Z) Z Z Z Z Z ?_
  refine WO_loadV tys (id := 48) Z Z (lt_of Z) Z Z Z Z Z (by rw [fset hD, fset hD, fset hD, fset hD]; exact fgetE hD Z) (fun u44 hu44 => ?_)
  refine eZ Z (WO_markN (id := 48) (j := i.toNat * 5 + 4) Z Z (lt_of Z) Z Z Z Z Z Z (hu44) (by rw [fset hD, fset hD, fset hD, fset hD]; exact fgetE hD Z) (markRowS_m (l[i.toNat]'(by omega)).rows (k' + 1 + 1 + ((l[i.toNat]'(by omega)).sites.length : Int) + ctL ctIns (l[i.toNat]'(by omega)).ins) (by omega) (by omega)) ?_)
  refine kZ [0,1,5,6,7,8,9,12,13,14,15,16,17,18,19,20,21,22,23,24,25,26,27,28,29,30,31,32,33,34,35,36,37,38,39,40,41,42,43,44,45,46] Z (eZ Z (oN (bN (tN (rG (eZ Z (evI ?_)))))))
  refine eZ Z (oN ?_)
  refine lQ (_, _, _, _) ?_ ?_
  ·try dsimp only
   refine ⟨by omega, by omega, by omega, by omega, done ++ [mkCode (l[i.toNat]'(by omega)) k'], by simp [hd]; omega, ?_, ?_⟩
   ·simp only [fset hD]
    rw [List.flatMap_append, List.append_assoc]
    rfl
   ·rw [he, drop_at hi0 h1, mkL, List.append_assoc, show k' + ctCode (l[i.toNat]'(by omega)) = k' + 1 + 1 + ((l[i.toNat]'(by omega)).sites.length : Int) + ctL ctIns (l[i.toNat]'(by omega)).ins + ctL ctRow (l[i.toNat]'(by omega)).rows from by omega]
    rfl
  ·(show Int.toNat _ < Int.toNat _); omega
 try simp only [HS] at h1
 refine W_exit (tE (loopQ_e (inBlk_y (tN (sQ (rG (eK 2 Z (oN (tN (rT ?_))))))))))
 refine EndsM_slice (.inr Z) Z Z Z ?_ ?_
 ·rw [drop_end h1] at hk'; simp only [ctL_nil] at hk'; omega
 ·rw [hts, drop_end h1, he, drop_end h1, List.flatMap_map, mkL, List.append_nil]; exact List.append_nil _
def ctImage (x : Image) : Int := ctL ctCode x.codes
theorem markImage_m (x : Image) (k : Int) (hk : 0 ≤ k) (hb : k + ctImage x ≤ 1073741824) : MarkF Tryz.prog 22 (.agg ([T.Codes x.codes])) (k) (k + ctImage x) (.agg ([T.Codes (mkL mkCode ctCode x.codes (k))])) := by
 have hb2 := hb
 unfold ctImage at hb2
 have p0 := ctL_pos ctCode_pos x.codes
 refine MarkF.struct Tryz.func22 Z Z (N := 10) Z (fun vs hvs hone w0 G F0 => ?_)
 obtain ⟨a0, rfl⟩ : ∃ a0, vs = [a0] := by
  match vs, hvs with
  | [a0], _ => exact ⟨_, rfl⟩
 refine sQ (rG (WO_box Z Z (lt_of Z) Z Z (nZ Z (eZ Z (oN (tN (sQ (rG (eK 3 Z (WO_markN (id := 10) (j := 0) Z Z (lt_of Z) Z Z Z Z Z Z (rfl) (rfl) (markCodeS_m x.codes (k) (by omega) (by omega)) (eZ Z (oN (tN (sQ (kY [1,4] Z ?_)))))))))))))))
 refine rG (eK 2 Z (oN (tN (rT ?_))))
 refine EndsM_struct (.inr Z) Z Z Z ?_ ?_
 ·unfold ctImage; omega
 ·rfl
theorem szCode_c (x : Code) : SzC (szCode x) (ctCode x - 8) :=
 (szSeq_cs (szIntS_c x.sites) (szSeq_cs (szLen_cl (ct := ctIns) (fun t => by unfold ctIns; omega) x.ins) (szSeq_cs (szLen_cl (ct := ctRow) (fun t => by unfold ctRow; omega) x.rows) szSeq_cn))).mono (by unfold ctCode; omega)
theorem szImage_c (x : Image) : SzC (szImage x) (ctImage x) :=
 (szSeq_cs (szL_c szCode_c x.codes) szSeq_cn).mono (by unfold ctImage; omega)
theorem ctImage_small {p : Image} (h : 0 ≤ szImage p 1048576) : ctImage p ≤ 8388608 := by
 have := szImage_c p 1048576 (by omega) h
 omega
theorem Image.small {p : Image} (h : 0 ≤ szImage p 1048576) : p.ok 1048576 := (szImage_g p 1048576 (by omega) (by omega)).2.2 h
open Go.Eng
theorem szGo_cnt : ∀ (l : List (List Int)) (left : Int), 0 ≤ left → 0 ≤ szGo (fun x => szN x.length) l left → l.flatten.length + szGo (fun x => szN x.length) l left ≤ left
 | [], left, _, _ => by simp [szGo]
 | x :: l, left, h0, h => by
  rw [szGo] at h ⊢
  split at h
  ·omega
  ·rename_i h1
   rw [if_neg h1]
   have h2 := szGo_cnt l _ (by omega) h
   have h3 : szN x.length left = left - x.length := by unfold szN at h1 ⊢; split <;> first | rfl | (rename_i h4; rw [if_pos h4] at h1; omega)
   rw [h3] at h2 ⊢
   rw [List.flatten_cons, List.length_append]
   omega
theorem szIntSS_cnt (l : List (List Int)) (left : Int) (h0 : 0 ≤ left) (h : 0 ≤ szIntSS l left) : l.flatten.length + szIntSS l left ≤ left := by
 unfold szIntSS szL at h ⊢
 split at h
 ·omega
 ·rename_i h1
  rw [if_neg h1]
  have := szGo_cnt l _ (by omega) h
  omega
theorem missX_len {im : Image} {cc : List (List Int)} {n : Int} (h : ∀ x, x ∈ cc → x.length ≤ 1048576) : (missX im cc n).length ≤ 1048576 := by
 unfold missX
 split
 ·refine Nat.le_trans (missT_len _ _ _) ?_
  cases e : cc[n.toNat]? with
  | none => exact Nat.zero_le _
  | some x => exact h x (List.mem_of_getElem? e)
 ·exact Nat.zero_le _
theorem eqIm_refl (l : List Int) : eqL eqI l l = true := eqL_refl eqI_refl l
theorem eqSm_refl (a : List (List Int)) : eqL (eqL eqI) a a = true := eqL_refl (eqL_refl eqI_refl) a
theorem lawMissed_fun (im : Image) (cc : List (List Int)) (n : Int) (hx : im.ok 9223372036854775807) (hcc : okL 9223372036854775807 (okN 9223372036854775807) cc) : Fun Tryz.prog 4 [.t im.tt, .t (intss cc), .t (.int n)] (tupD [.t (.bool true)]) := by
 refine Fun.begin tys Tryz.func4 Z Z (N := 124) [(0, .t im.tt), (1, .t (intss cc)), (2, .t (.int n))] Z Z (fun w0 G F0 => ?_)
 refine sQ (rG (WO_box Z Z (lt_of Z) Z Z (nZ Z (eZ Z (oN (tN (sQ (rG (eZ Z (oN (tN (sQ (rG ?_)))))))))))))
 first | (refine ev ?_; try refine WO_le (Le.freeze (u := 19) rfl) ?_) | refine WO_loadMove tys rfl rfl (lt_of rfl) rfl rfl rfl rfl rfl rfl ?_
 refine nZ Z (eZ Z (callB ?_))
 refine ⟨_, szImage_fun im 1048576 hx (by omega) (by omega), rfl, ?_⟩
 refine eZ Z (oN (tN (sQ (sQ (kY [1,2,3,6,7] Z (rG (eK 2 Z (oN (tN ?_)))))))))
 refine W_cond Z (fun h1 => ?_) (fun h1 => ?_)
 ·
  try simp only [HS] at h1
  refine sQ (rG (eZ Z (oN (tN (rT (tR (eR ?_)))))))
  ·rfl
 try simp only [HS] at h1
 refine W_skip (tN (sQ (rG (eK 2 Z (callB ?_)))))
 refine ⟨_, szIntSSo_fun cc _ hcc (by omega) (szImage_g im 1048576 (by omega) (by omega)).1, rfl, ?_⟩
 refine eZ Z (oN (tN (sQ (sQ (rG (eK 2 Z (oN (tN ?_))))))))
 refine W_cond Z (fun h2 => ?_) (fun h2 => ?_)
 ·
  try simp only [HS] at h2
  refine sQ (kY [1,2,3,6] Z (rG (eZ Z (oN (tN (rT (tR (eR ?_))))))))
  ·rfl
 try simp only [HS] at h2
 refine W_skip (tN (sQ (kY [1,2,3,6] Z (rG ?_))))
 have okx := Image.small h1
 have cx := ctImage_small h1
 have okc := (szIntSS_g cc _ h1 (szImage_g im 1048576 (by omega) (by omega)).1).2.2 h2
 have cc2 := szIntSS_cnt cc _ h1 h2
 have c0 : 0 ≤ ctImage im := ctL_pos ctCode_pos im.codes
 have hml := missX_len (im := im) (n := n) okc.2
 have lc : cc.length ≤ 1048576 := okc.1
 have hsz := (szImage_g im 1048576 (by omega) (by omega)).1
 first | (refine ev ?_; try refine WO_le (Le.freeze (u := 30) rfl) ?_) | refine WO_loadMove tys rfl rfl (lt_of rfl) rfl rfl rfl rfl rfl rfl ?_
 refine nZ Z (callB ?_)
 refine ⟨_, toImage_fun im okx, rfl, ?_⟩
 refine WO_le (Le.freeze (u := 31) Z) (nZ Z (eZ Z (callB ?_)))
 refine ⟨_, toIntSSo_fun cc okc, rfl, ?_⟩
 refine WO_le (Le.freeze (u := 33) Z) (nZ Z (eZ Z (callB ?_)))
 refine ⟨_, missedS_fun im cc n okx okc.1 okc.2, rfl, ?_⟩
 refine WO_moveAll Z Z (lt_of Z) (.inr Z) Z Z (nZ Z (WO_extract Z Z (lt_of Z) Z Z Z Z (WO_le (Le.freeze (u := 36) Z) (nZ Z ?_))))
 first | refine WO_evF tys rfl rfl (lt_of rfl) (d := .t _) rfl ?_ | (refine WO_extract rfl rfl (lt_of rfl) rfl rfl rfl rfl ?_; first | refine WO_le (Le.adoptE (u := 37) 37 rfl (by first | exact lenN | exact rfl)) ?_ | skip)
 refine nZ Z (kZ [1,2,3,6,36,37] Z (eK 2 Z (oN (tN (sQ (rG ?_))))))
 first | (refine ev ?_; try refine WO_le (Le.freeze (u := 38) rfl) ?_) | refine WO_loadMove tys rfl rfl (lt_of rfl) rfl rfl rfl rfl rfl rfl ?_
 refine nZ Z (callB ?_)
 refine ⟨_, toImage_fun im okx, rfl, ?_⟩
 refine WO_exposeB (u := 39) 39 Z Z (fun v39 hv39 => ?_)
 obtain ⟨a39_0, rfl⟩ : ∃ a39_0, v39 = [a39_0] := by
  match v39, hv39 with
  | [a39_0], _ => exact ⟨_, rfl⟩
 refine nZ Z (WO_alloc tys Z Z (lt_of Z) Z Z Z (nZ Z (sT Z (nZ Z (oN (tN (sQ (rG (eZ Z (callB ?_))))))))))
 refine ⟨_, toIntSSo_fun cc okc, rfl, ?_⟩
 refine WO_exposeS (u := 41) 41 Z (fun v41 => ?_)
 refine eZ Z (kZ [1,2,3,6,8,9,10,11] Z (oN (tN (sQ (rG (eZ Z (nZ Z (eK 2 Z ?_))))))))
 refine WO_call Z Z (lt_of Z) Z Z (by refine ResL.rawA (id := 39) Z Z ?_; refine ResL.raw (id := 41) (j := 0) Z Z Z ?_; (first | refine ResL.t ?_ | refine ResL.own ?_ | refine ResL.aggT (by repeat (first | exact ResL.done | refine ResL.own ?_ | refine ResL.t ?_)) ?_ | refine ResL.slA Z (by first | rfl | (simp; done) | (simp; omega)) ?_ | refine ResL.nil' ?_); exact ResL.done) (missedI_fun im cc n okx okc.1 okc.2) Z ?_
 refine WO_moveAll Z Z (lt_of Z) (.inr Z) Z Z (nZ Z (WO_extract Z Z (lt_of Z) Z Z Z Z ?_))
 refine WO_exposeS (u := 47) 47 Z (fun v47 => ?_)
 first | refine WO_evF tys rfl rfl (lt_of rfl) (d := .t _) rfl ?_ | (refine WO_extract rfl rfl (lt_of rfl) rfl rfl rfl rfl ?_; first | refine WO_le (Le.adoptE (u := 48) 48 rfl (by first | exact lenN | exact rfl)) ?_ | skip)
 refine nZ Z (eK 2 Z (kZ [1,2,3,6,8,9,10,11,12,13] Z (oN (tN (sQ (sQ (rG (eK 2 Z ?_))))))))
 refine WO_call Z Z (lt_of Z) Z Z (by refine ResL.raw (id := 47) (j := 0) Z Z Z ?_; (first | refine ResL.t ?_ | refine ResL.own ?_ | refine ResL.aggT (by repeat (first | exact ResL.done | refine ResL.own ?_ | refine ResL.t ?_)) ?_ | refine ResL.slA Z (by first | rfl | (simp; done) | (simp; omega)) ?_ | refine ResL.nil' ?_); exact ResL.done) (eqIntSo_fun (missX im cc n) (missX im cc n) (by unfold okN; omega) (by unfold okN; omega)) Z ?_
 refine WO_le (Le.known (t := 51) true Z (eqIm_refl _)) (eK 2 Z (gY Z (eZ Z (gY Z (eZ Z (gY Z (eZ Z (WO_le (Le.known (t := 56) false Z (by simp)) ?_))))))))
 refine eZ Z (kZ [1,2,3,6,8,9,10,11,12,13,57] Z (oN (tN (W_condF Z (W_skip (tN (sQ (sQ (W_regionD mixed (by kernel_rfl) (evQ ?_))))))))))
 first | refine QL_evZ tys rfl rfl (lt_of rfl) rfl rfl ?_ | refine evQ ?_ | refine WO_loadMove tys rfl rfl (lt_of rfl) rfl rfl rfl rfl rfl rfl ?_
 refine callBQ ?_
 refine ⟨_, toImage_fun im okx, rfl, ?_⟩
 refine QL_call Z Z (lt_of Z) Z Z (by refine ResL.rawA (id := 39) Z Z ?_; (first | refine ResL.t ?_ | refine ResL.own ?_ | refine ResL.aggT (by repeat (first | exact ResL.done | refine ResL.own ?_ | refine ResL.t ?_)) ?_ | refine ResL.slA Z (by first | rfl | (simp; done) | (simp; omega)) ?_ | refine ResL.nil' ?_); exact ResL.done) (eqImage_fun im im hx hx) Z ?_
 refine QL_known (v := true) (eqImage_refl _) (evQ ?_)
 refine QL_nil (tN (W_condF Z (W_skip (tN (sQ (sQ (rG (eK 2 Z (callB ?_)))))))))
 refine ⟨_, toIntSSo_fun cc okc, rfl, ?_⟩
 refine WO_le (Le.freeze (u := 65) Z) (nZ Z ?_)
 refine WO_call Z Z (lt_of Z) Z Z (by refine ResL.raw (id := 41) (j := 0) Z Z Z ?_; (first | refine ResL.t ?_ | refine ResL.own ?_ | refine ResL.aggT (by repeat (first | exact ResL.done | refine ResL.own ?_ | refine ResL.t ?_)) ?_ | refine ResL.slA Z (by first | rfl | (simp; done) | (simp; omega)) ?_ | refine ResL.nil' ?_); exact ResL.done) (eqIntSSo_fun cc cc hcc hcc) Z ?_
 refine WO_le (Le.known (t := 66) true Z (eqSm_refl _)) (kZ [1,2,3,6,8,9,10,11,12,13,66] Z (eZ Z (oN (tN (W_condF Z (W_skip (tN (sQ (rG (eZ Z (oN (tN (sQ (rG (eZ Z ?_)))))))))))))))
 refine nZ Z (eZ Z (WO_markS (id := 39) Z Z (lt_of Z) Z Z Z Z Z (markImage_m im 1 (by omega) (by omega)) (nZ Z (eZ Z (oN (tN (sQ (rG (eK 2 Z (WO_markN (id := 41) (j := 0) Z Z (lt_of Z) Z Z Z Z Z Z Z Z (markIntSS_m cc (1 + ctImage im) (by omega) (by omega) (by omega)) (nZ Z (kZ [1,2,3,6,8,9,12,13,14,73] Z (eZ Z (oN (tN ?_)))))))))))))))
 refine sQ (sQ (rG (eK 2 Z (WO_le (Le.known (t := 75) false Z (by simp; omega)) ?_))))
 refine eZ Z (gY Z (eZ Z (gY Z (eZ Z (gY Z ?_)))))
 refine WO_call Z Z (lt_of Z) Z Z (by refine ResL.raw (id := 47) (j := 0) Z Z Z ?_; (first | refine ResL.t ?_ | refine ResL.own ?_ | refine ResL.aggT (by repeat (first | exact ResL.done | refine ResL.own ?_ | refine ResL.t ?_)) ?_ | refine ResL.slA Z (by first | rfl | (simp; done) | (simp; omega)) ?_ | refine ResL.nil' ?_); exact ResL.done) (eqIntSo_fun (missX im cc n) (missX im cc n) (by unfold okN; omega) (by unfold okN; omega)) Z ?_
 refine WO_le (Le.known (t := 79) true Z (eqIm_refl _)) (gY Z (eK 2 Z (kZ [1,2,3,6,8,9,12,13,81] Z (eZ Z (gY Z (eZ Z (gY Z (eZ Z (gY Z (eZ Z (WO_le (Le.known (t := 85) false Z (by simp)) ?_)))))))))))
 refine eZ Z (oN (tN (W_condF Z (W_skip (tN (sQ (rG (eZ Z (oN (tN (sQ (rG (eK 2 Z (WO_markN (id := 47) (j := 0) Z Z (lt_of Z) Z Z Z Z Z Z Z Z (markIntS_m (missX im cc n) 1 (by omega) (by omega)) (nZ Z ?_)))))))))))))))
 refine kZ [1,2,3,6,8,9,12,15,89] Z (eZ Z (oN (tN (sQ (rG (eZ Z (oN (tN (sQ (rG (eK 2 Z ?_)))))))))))
 refine WO_call Z Z (lt_of Z) Z Z (by refine ResL.raw (id := 47) (j := 0) Z Z Z ?_; (first | refine ResL.t ?_ | refine ResL.own ?_ | refine ResL.aggT (by repeat (first | exact ResL.done | refine ResL.own ?_ | refine ResL.t ?_)) ?_ | refine ResL.slA Z (by first | rfl | (simp; done) | (simp; omega)) ?_ | refine ResL.nil' ?_); exact ResL.done) (heldIntS_mk (missX im cc n) 1 (by omega) (by omega)) Z ?_
 refine eZ Z (oN (tN (sQ (sQ (rG (eK 2 Z (WO_le (Le.known (t := 94) false Z (by simp; omega)) ?_)))))))
 refine oN (tN (W_condF Z (W_skip (tN (sQ (sQ (kY [1,2,3,6,8,9,12,15,16] Z (rG (eK 3 Z (WO_le (Le.known (t := 97) false Z (by simp)) ?_))))))))))
 refine oN (tN (W_condF Z (W_skip (tN (sQ (rG ?_))))))
 first | (refine ev ?_; try refine WO_le (Le.freeze (u := 99) rfl) ?_) | refine WO_loadMove tys rfl rfl (lt_of rfl) rfl rfl rfl rfl rfl rfl ?_
 refine nZ Z (callB ?_)
 refine ⟨_, toImage_fun im okx, rfl, ?_⟩
 refine WO_le (Le.freeze (u := 100) Z) (nZ Z (eZ Z (callB ?_)))
 refine ⟨_, toIntSSo_fun cc okc, rfl, ?_⟩
 refine WO_le (Le.freeze (u := 102) Z) (nZ Z (eZ Z (callB ?_)))
 refine ⟨_, missedI_fun im cc n okx okc.1 okc.2, rfl, ?_⟩
 refine kZ [6,8,9,12,15,16,104] Z (WO_moveAll Z Z (lt_of Z) (.inr Z) Z Z (nZ Z (WO_extract Z Z (lt_of Z) Z Z Z Z (WO_le (Le.freeze (u := 105) Z) (nZ Z ?_)))))
 first | refine WO_evF tys rfl rfl (lt_of rfl) (d := .t _) rfl ?_ | (refine WO_extract rfl rfl (lt_of rfl) rfl rfl rfl rfl ?_; first | refine WO_le (Le.adoptE (u := 106) 106 rfl (by first | exact lenN | exact rfl)) ?_ | skip)
 refine nZ Z (eK 2 Z (oN (tN (sQ (sQ (rG (eK 2 Z (callB ?_))))))))
 refine ⟨_, eqIntSo_fun (missX im cc n) (missX im cc n) (by unfold okN; omega) (by unfold okN; omega), rfl, ?_⟩
 refine WO_le (Le.known (t := 109) true Z (eqIm_refl _)) (eZ Z (kZ [6,9,12,15,16,18,110] Z (eZ Z (gY Z (eZ Z (gY Z (eZ Z (gY Z (eZ Z (WO_le (Le.known (t := 114) false Z (by simp)) ?_))))))))))
 refine eZ Z (oN (tN (W_condF Z (W_skip (tN (sQ (rG (eZ Z (oN (tN (sQ (rG (eK 2 Z ?_)))))))))))))
 refine WO_call Z Z (lt_of Z) Z Z (by refine ResL.raw (id := 47) (j := 0) Z Z Z ?_; (first | refine ResL.t ?_ | refine ResL.own ?_ | refine ResL.aggT (by repeat (first | exact ResL.done | refine ResL.own ?_ | refine ResL.t ?_)) ?_ | refine ResL.slA Z (by first | rfl | (simp; done) | (simp; omega)) ?_ | refine ResL.nil' ?_); exact ResL.done) (heldIntS_mk (missX im cc n) 1 (by omega) (by omega)) Z ?_
 refine kZ [6,15,16,118] Z (eZ Z (oN (tN (sQ (sQ (rG (eK 2 Z (WO_le (Le.known (t := 120) false Z (by simp; omega)) ?_))))))))
 refine oN (tN (W_condF Z (W_skip (tN (sQ (sQ (rG (eK 3 Z (WO_le (Le.known (t := 123) false Z (by simp)) ?_)))))))))
 refine oN (tN (W_condF Z (W_skip (tN (sQ (rG (eZ Z (oN (tN (rT (eR ?_)))))))))))
 ·rfl
end Go.Proofs.YtimpganophnehaaGreat
