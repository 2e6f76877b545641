/- Walks and laws of the claim. -/
import Derived.Test.YtimpganophnehaaGreatGb
import Derived.Test.YtimpganophnehaaGreatFa
import Derived.Test.YtimpganophnehaaGreatMd
import Derived.Test.YtimpganophnehaaGreatMc
set_option linter.unusedVariables false
set_option linter.unusedSimpArgs false
set_option maxRecDepth 10000
set_option maxHeartbeats 1000000
namespace Go.Proofs.YtimpganophnehaaGreat
open Go.Eng
open Go.Eng
def mkL {α : Type} (mk : α → Int → α) (ct : α → Int) : List α → Int → List α
 | [], _ => []
 | x :: l, k => mk x k :: mkL mk ct l (k + ct x)
def ctL {α : Type} (ct : α → Int) (l : List α) : Int := (l.map ct).sum
section
variable {α : Type}
theorem mkL_len (mk : α → Int → α) (ct : α → Int) : ∀ (l : List α) (k : Int), (mkL mk ct l k).length = l.length
 | [], _ => rfl
 | _ :: l, k => by rw [mkL, List.length_cons, mkL_len mk ct l, List.length_cons]
theorem ctL_nil (ct : α → Int) : ctL ct [] = 0 := rfl
theorem ctL_cons (ct : α → Int) (x : α) (l : List α) : ctL ct (x :: l) = ct x + ctL ct l := by simp [ctL]
theorem ctL_at (ct : α → Int) {l : List α} {i : Int} (h0 : 0 ≤ i) (h1 : i < l.length) : ctL ct (l.drop i.toNat) = ct (l[i.toNat]'(by omega)) + ctL ct (l.drop (i + 1).toNat) := by
 rw [drop_at h0 h1, ctL_cons]
theorem ctL_take (ct : α → Int) {l : List α} {i : Int} (h0 : 0 ≤ i) (h1 : i < l.length) : ctL ct (l.take (i + 1).toNat) = ctL ct (l.take i.toNat) + ct (l[i.toNat]'(by omega)) := by
 unfold ctL; rw [take_at h0 h1, List.map_append, List.sum_append]; simp
theorem ctL_pos {ct : α → Int} {m : Int} (h : ∀ x, m ≤ ct x) (l : List α) (hm : 0 ≤ m := by decide) : 0 ≤ ctL ct l := by
 induction l with
 | nil => exact Int.le_refl 0
 | cons x l ih => have := h x; rw [ctL_cons]; omega
theorem ctL_len {ct : α → Int} (h : ∀ x, 1 ≤ ct x) (l : List α) : (l.length : Int) ≤ ctL ct l := by
 induction l with
 | nil => exact Int.le_refl 0
 | cons x l ih => have := h x; rw [ctL_cons, List.length_cons]; omega
theorem getMk (f : α → T) (mk : α → Int → α) (ct : α → Int) {l : List α} {k k' i : Int} (hk : k' = k + ctL ct (l.take i.toNat)) (h0 : 0 ≤ i) (h1 : i.toNat < l.length) : ((mkL mk ct l k).map f)[i.toNat]? = some (f (mk (l[i.toNat]) k')) := by
 rw [List.getElem?_map]
 have key : ∀ (l : List α) (k : Int) (n : Nat) (h : n < l.length), (mkL mk ct l k)[n]? = some (mk l[n] (k + ctL ct (l.take n))) := by
  intro l
  induction l with
  | nil => intro k n h; simp at h
  | cons x l ih =>
   intro k n h
   cases n with
   | zero => rw [mkL]; simp [ctL_nil]
   | succ n =>
    rw [mkL, List.getElem?_cons_succ, ih _ n (by simpa using h), List.getElem_cons_succ, List.take_succ_cons, ctL_cons]
    rw [Int.add_assoc]
 rw [key l k _ h1, ← hk]; rfl
theorem fget {D L : List α} {m f : Nat} (h : D.length = m) : (D ++ L)[m + f]? = L[f]? := by
 subst h; rw [List.getElem?_append_right (by omega)]; congr 1; omega
theorem fgetE {D L : List α} {m f : Nat} {y : α} (h : D.length = m) (e : L[f]? = some y) : (D ++ L)[m + f]? = some y := (fget h).trans e
theorem fset {D L : List α} {m f : Nat} {y : α} (h : D.length = m) : (D ++ L).set (m + f) y = D ++ L.set f y := by
 subst h; rw [List.set_append_right _ _ (by omega)]; congr 2; omega
theorem flat_lens {cl : α → List T} {n : Nat} (h : ∀ x, (cl x).length = n) (done : List α) {i : Int} (hd : done.length = i.toNat) : (done.flatMap cl).length = i.toNat * n := by
 rw [← hd]; clear hd
 induction done with
 | nil => simp
 | cons x l ih => rw [List.flatMap_cons, List.length_append, h, ih, List.length_cons, Nat.succ_mul]; omega
end
theorem heldIntS_mk {α : Type} (l : List α) (k : Int) (hk : 0 ≤ k) (hb : k + l.length ≤ 1073741824) : Fun Tryz.prog 25 [.t (T.ints (mkI l k)), .t (.int k)] (.t (.int (k + l.length))) := by
 rw [← heldI_mk l k]; exact heldIntS_fun _ k hk (by rw [mkI_len]; exact hb)
def SzC (f : Int → Int) (c : Int) : Prop := ∀ left : Int, 0 ≤ left → 0 ≤ f left → c + 8 * f left ≤ 8 * left
theorem szIntS_c (l : List Int) : SzC (szIntS l) l.length := by
 intro left h0 h
 unfold szIntS szN at *
 split at h <;> (try split) <;> omega
theorem szSeq_cn : SzC (szSeq []) 0 := fun left h0 h => by simp [szSeq]
theorem szSeq_cs {f : Int → Int} {fs : List (Int → Int)} {c d : Int} (h1 : SzC f c) (h2 : SzC (szSeq fs) d) : SzC (szSeq (f :: fs)) (c + d) := by
 intro left h0 h
 rw [szSeq] at h ⊢
 split at h
 ·omega
 ·rename_i hf
  rw [if_neg hf]
  have := h1 left h0 (by omega)
  have := h2 (f left) (by omega) h
  omega
theorem SzC.mono {f : Int → Int} {c d : Int} (h : SzC f c) (hd : d ≤ c) : SzC f d := fun left h0 hf => by have := h left h0 hf; omega
theorem szGo_cm {α : Type} {f : α → Int → Int} {ct : α → Int} : ∀ (l : List α), (∀ x, x ∈ l → SzC (f x) (ct x - 8)) → ∀ (left : Int), 0 ≤ left → 0 ≤ szGo f l left → ctL ct l - 8 * l.length + 8 * szGo f l left ≤ 8 * left
 | [], _, left, h0, _ => by simp [szGo, ctL]
 | x :: l, h, left, h0, hg => by
  rw [szGo] at hg ⊢
  split at hg
  ·omega
  ·rename_i hf
   rw [if_neg hf]
   have h1 := h x (List.mem_cons_self ..) left h0 (by omega)
   have h2 := szGo_cm l (fun y hy => h y (List.mem_cons_of_mem _ hy)) (f x left) (by omega) hg
   rw [ctL_cons, List.length_cons]
   omega
theorem szL_cm {α : Type} {f : α → Int → Int} {ct : α → Int} (l : List α) (h : ∀ x, x ∈ l → SzC (f x) (ct x - 8)) : SzC (szL f l) (ctL ct l) := by
 intro left h0 hg
 unfold szL at hg ⊢
 split at hg
 ·omega
 ·rename_i hf
  rw [if_neg hf]
  have := szGo_cm l h (left - l.length) (by omega) hg
  omega
theorem szL_c {α : Type} {f : α → Int → Int} {ct : α → Int} (h : ∀ x, SzC (f x) (ct x - 8)) (l : List α) : SzC (szL f l) (ctL ct l) := szL_cm l fun x _ => h x
theorem szLen_cl {α : Type} {ct : α → Int} (h : ∀ x, ct x ≤ 8) (l : List α) : SzC (szLen l) (ctL ct l) := by
 have e : ctL ct l ≤ 8 * l.length := by
  induction l with
  | nil => simp [ctL]
  | cons x l ih => have := h x; rw [ctL_cons, List.length_cons]; omega
 intro left h0 hg
 unfold szLen szN at *
 split at hg <;> (try split) <;> omega
open Go.Eng
def mkTok (x : Tok) (k : Int) : Tok := ⟨k, k + 1⟩
def ctTok (x : Tok) : Int := 1 + 1
theorem ctTok_pos (x : Tok) : 1 ≤ ctTok x := by
 unfold ctTok; omega
def Tok.cl (x : Tok) : List T := (Tok.tt x).cells
theorem Tok.cl_len (x : Tok) : x.cl.length = 2 := rfl
theorem markTokS_nil (k : Int) : Fun Tryz.prog 156 [.t (.list 2 []), .t (.int k)] (tupD [.t (.int k)]) := by
 refine Fun.begin tys Tryz.func156 Z Z (N := 27) [(0, .t (.list 2 [])), (1, .t (.int k))] Z Z (fun w0 G F0 => ?_)
 refine sQ (rG (eZ Z (oN (tN (sQ (sQ (rG (eZ Z (oN (tN (W_block ?_)))))))))))
 refine lK (α := Int) [0, 1] [] (fun x => [(5, .t (.int x))]) (fun x => []) (fun x => 0 ≤ x) (fun x => Int.toNat (0)) 0 ?_ (fun z hx => ?_)
 ·exact Int.le_refl 0
 have hz := hx
 refine nY Z (sQ (sQ (rG (eK 2 Z (evE ?_)))))
 refine eZ Z (oN (tN ?_))
 refine W_cond Z (fun h1 => ?_) (fun h1 => ?_)
 ·
  simp only [HS] at h1
  exfalso; simp at h1; omega
 simp only [HS] at h1
 refine W_exit (tE (loopQ_e (inBlk_y (tN (sQ (rG (eK 2 Z (oN (tN (rT (eR ?_)))))))))))
 ·rfl
theorem markTokS_m (l : List Tok) (k : Int) (hk : 0 ≤ k) (hb : k + ctL ctTok l ≤ 1073741824) : MarkF Tryz.prog 156 (.list 2 (l.map Tok.tt)) (k) (k + ctL ctTok l) (.list 2 ((mkL mkTok ctTok l k).map Tok.tt)) := by
 have hlen := ctL_len ctTok_pos l
 refine MarkF.slice Tryz.func156 rfl rfl (N := 27) rfl (fun y hy => (by obtain ⟨a, _, rfl⟩ := List.mem_map.1 hy; rfl) ) ( by simp [mkL_len]) (fun h => by cases l with | nil => (rw [show k + ctL ctTok [] = k from by simp [ctL]]; exact markTokS_nil k) | cons _ _ => simp at h) (fun b cap vs w0 G F0 => ?_)
 refine sQ (rG (eZ Z (oN (tN (sQ (sQ (rG (eZ Z (oN (tN (W_block ?_)))))))))))
 refine lK (α := Int × Int × List Value × List T) [0] [] (fun x => [(5, .t (.int (x.1))), (1, .t (.int (x.2.1)))]) (fun x => [(27, .raw b (cap * 2) (x.2.2.1) (x.2.2.2))]) (fun x => 0 ≤ (x.1) ∧ (x.1) ≤ l.length ∧ k ≤ (x.2.1) ∧ (x.2.1) + ctL ctTok (l.drop (x.1).toNat) = k + ctL ctTok l ∧ ∃ done : List Tok, done.length = (x.1).toNat ∧ (x.2.2.2) = done.flatMap Tok.cl ++ (l.drop (x.1).toNat).flatMap Tok.cl ∧ mkL mkTok ctTok l k = done ++ mkL mkTok ctTok (l.drop (x.1).toNat) (x.2.1)) (fun x => Int.toNat (l.length - (x.1))) (0, k, vs, (l.map Tok.tt).flatMap T.cells) ?_ (fun x hx => ?_)
 ·exact ⟨by omega, by omega, Int.le_refl k, rfl, [], rfl, by rw [List.flatMap_map]; rfl, rfl⟩
 obtain ⟨i, k', vs', ts⟩ := x
 obtain ⟨hi0, hi1, hkk, hk', done, hd, hts, he⟩ := hx
 dsimp only at hi0 hi1 hkk hk' hd hts he ⊢
 refine nY Z (sQ (sQ (rG (eK 2 Z (WO_lenV Z Z (lt_of Z) Z ⟨141, by kernel_rfl⟩ rfl (eZ Z (oN (tN ?_))))))))
 refine W_cond Z (fun h1 => ?_) (fun h1 => ?_)
 ·
  simp only [HS] at h1
  refine W_skip (tN (sQ (W_block (sQ (rG ?_)))))
  have hD := flat_lens Tok.cl_len done hd
  have hca := ctL_at ctTok hi0 h1
  have hcx : ctTok (l[i.toNat]'(by omega)) = ctTok (l[i.toNat]'(by omega)) := rfl
  conv at hcx => rhs; unfold ctTok
  have hcr := ctL_pos ctTok_pos (l.drop (i + 1).toNat)
  rw [drop_at hi0 h1, List.flatMap_cons] at hts
  subst hts
  refine eK 3 Z (WO_idxV tys Z Z (lt_of Z) Z Z Z Z Z Z (by omega) (by first | omega | (simp only [List.length_map]; omega)) ?_)
  refine WO_fieldV tys Z Z (lt_of Z) Z Z Z Z Z (kZ [0,1,5,6,7,8,9,12,13,14,15,16] Z (WO_storeV tys (id := 27) Z Z Z Z Z Z Z (by exact fgetE hD Z) Z Z Z ?_))
  refine nZ Z (oN (tN (sQ (rG (eZ Z (evI ?_))))))
  refine eZ Z (oN (tN (sQ (rG (eK 3 Z (WO_idxV tys Z Z (lt_of Z) Z Z Z Z Z Z (by omega) (by first | omega | (simp only [List.length_map]; omega)) ?_))))))
  refine WO_fieldV tys Z Z (lt_of Z) Z Z Z Z Z (kZ [0,1,5,6,7,8,9,12,13,14,15,16,17,18,19,20,21,22,23] Z (WO_storeV tys (id := 27) Z Z Z Z Z Z Z (by rw [fset hD]; exact fgetE hD Z) Z Z Z ?_))
  refine nZ Z (oN (tN (rG (eZ Z (evI ?_)))))
  refine eZ Z (oN (bN (tN (rG (eZ Z (evI ?_))))))
  refine eZ Z (oN ?_)
  refine lQ (_, _, _, _) ?_ ?_
  ·dsimp only
   refine ⟨by omega, by omega, by omega, by omega, done ++ [mkTok (l[i.toNat]'(by omega)) k'], by simp [hd]; omega, ?_, ?_⟩
   ·simp only [fset hD]
    rw [List.flatMap_append, List.append_assoc]
    rfl
   ·rw [he, drop_at hi0 h1, mkL, List.append_assoc, show k' + ctTok (l[i.toNat]'(by omega)) = k' + 1 + 1 from by omega]
    rfl
  ·(show Int.toNat _ < Int.toNat _); omega
 simp only [HS] at h1
 refine W_exit (tE (loopQ_e (inBlk_y (tN (sQ (rG (eK 2 Z (oN (tN (rT ?_))))))))))
 refine EndsM_slice (.inr Z) Z Z Z ?_ ?_
 ·rw [drop_end h1] at hk'; simp only [ctL_nil] at hk'; omega
 ·rw [hts, drop_end h1, he, drop_end h1, List.flatMap_map, mkL, List.append_nil]; exact List.append_nil _
theorem heldTokS_mk (l : List Tok) (k : Int) (hk : 0 ≤ k) (hb : k + ctL ctTok l ≤ 1073741824) : Fun Tryz.prog 157 [.t (T.Toks (mkL mkTok ctTok l k)), .t (.int k)] (tupD [.t (.int (k + ctL ctTok l))]) := by
 have hlen := ctL_len ctTok_pos l
 have hml := mkL_len mkTok ctTok l k
 refine Fun.begin tys Tryz.func157 Z Z (N := 31) [(0, .t (T.Toks (mkL mkTok ctTok l k))), (1, .t (.int k))] Z Z (fun w0 G F0 => ?_)
 refine sQ (rG (eZ Z (oN (tN (sQ (sQ (rG (eZ Z (oN (tN (W_block ?_)))))))))))
 refine lK (α := Int × Int) [0] [] (fun x => [(5, .t (.int (x.1))), (1, .t (.int (x.2)))]) (fun x => []) (fun x => 0 ≤ (x.1) ∧ (x.1) ≤ l.length ∧ k ≤ (x.2) ∧ (x.2) + ctL ctTok (l.drop (x.1).toNat) = k + ctL ctTok l ∧ (x.2) = k + ctL ctTok (l.take (x.1).toNat)) (fun x => Int.toNat (l.length - (x.1))) (0, k) ?_ (fun x hx => ?_)
 ·exact ⟨by omega, by omega, Int.le_refl k, rfl, by rw [show l.take (0 : Int).toNat = [] from rfl]; rw [ctL_nil]; omega⟩
 obtain ⟨i, k'⟩ := x
 obtain ⟨hi0, hi1, hkk, hk', hkt⟩ := hx
 dsimp only at hi0 hi1 hkk hk' hkt ⊢
 refine nY Z (sQ (sQ (rG (eK 2 Z (evE ?_)))))
 refine eZ Z (oN (tN ?_))
 refine W_cond Z (fun h1 => ?_) (fun h1 => ?_)
 ·
  simp only [HS] at h1
  refine W_skip (tN (sQ (W_block (sQ (sQ (rG ?_))))))
  have hca := ctL_at ctTok (l := l) hi0 (by omega)
  have hcx : ctTok (l[i.toNat]'(by omega)) = ctTok (l[i.toNat]'(by omega)) := rfl
  conv at hcx => rhs; unfold ctTok
  have hcr := ctL_pos ctTok_pos (l.drop (i + 1).toNat)
  refine eK 2 Z (WO_idxT tys Z Z (lt_of Z) Z Z Z Z Z Z Z (by omega) _ (getMk Tok.tt mkTok ctTok hkt (by omega) (by omega)) (eK 2 Z (kZ [0,1,5,6,7,8,9,12,13,14,15,16] Z (eK 2 Z (WO_le (Le.known (t := 18) false Z (by simp [mkTok])) ?_)))))
  refine oN (tN (W_condF Z (W_skip (tN (sQ (rG (eZ Z (evI ?_))))))))
  refine eZ Z (oN (tN (sQ (sQ (rG (eK 2 Z (WO_idxT tys Z Z (lt_of Z) Z Z Z Z Z Z Z (by omega) _ (getMk Tok.tt mkTok ctTok hkt (by omega) (by omega)) (eZ Z (kZ [0,1,5,6,7,8,9,12,13,14,15,16,17,18,19,20,21,22,23,24] Z (eK 3 Z (WO_le (Le.known (t := 27) false Z (by simp [mkTok])) ?_)))))))))))
  refine oN (tN (W_condF Z (W_skip (tN (rG (eZ Z (evI ?_)))))))
  refine eZ Z (oN (bN (tN (rG (eZ Z (evI ?_))))))
  refine eZ Z (kZ [0,1,5,6,7,8,9,10,11,12,13,14,15,16,17,18,19,20,21,22,23,24,25,26,27,28,29] Z (oN ?_))
  refine lQ (_, _) ?_ ?_
  ·dsimp only
   refine ⟨by omega, by omega, by omega, by omega, ?_⟩
   rw [ctL_take ctTok hi0 (by omega)]
   omega
  ·(show Int.toNat _ < Int.toNat _); omega
 simp only [HS] at h1
 refine W_exit (tE (loopQ_e (inBlk_y (tN (sQ (rG (eK 2 Z (oN (tN (rT (eR ?_)))))))))))
 ·rw [drop_end (by omega)] at hk'; simp only [ctL_nil] at hk'; refine congrArg (fun n => [D.t (T.int n)]) ?_; omega
def mkStmt (x : Stmt) (k : Int) : Stmt := ⟨k, k + 1, mkL mkTok ctTok x.ex (k + 1 + 1), mkI x.thn (k + 1 + 1 + ctL ctTok x.ex), mkI x.els (k + 1 + 1 + ctL ctTok x.ex + (x.thn.length : Int))⟩
def ctStmt (x : Stmt) : Int := 1 + 1 + ctL ctTok x.ex + (x.thn.length : Int) + (x.els.length : Int)
theorem ctStmt_pos (x : Stmt) : 1 ≤ ctStmt x := by
 have p0 := ctL_pos ctTok_pos x.ex
 unfold ctStmt; omega
def Stmt.cl (x : Stmt) : List T := (Stmt.tt x).cells
theorem Stmt.cl_len (x : Stmt) : x.cl.length = 5 := rfl
theorem markStmtS_nil (k : Int) : Fun Tryz.prog 95 [.t (.list 5 []), .t (.int k)] (tupD [.t (.int k)]) := by
 refine Fun.begin tys Tryz.func95 Z Z (N := 48) [(0, .t (.list 5 [])), (1, .t (.int k))] Z Z (fun w0 G F0 => ?_)
 refine sQ (rG (eZ Z (oN (tN (sQ (sQ (rG (eZ Z (oN (tN (W_block ?_)))))))))))
 refine lK (α := Int) [0, 1] [] (fun x => [(5, .t (.int x))]) (fun x => []) (fun x => 0 ≤ x) (fun x => Int.toNat (0)) 0 ?_ (fun z hx => ?_)
 ·exact Int.le_refl 0
 have hz := hx
 refine nY Z (sQ (sQ (rG (eK 2 Z (evE ?_)))))
 refine eZ Z (oN (tN ?_))
 refine W_cond Z (fun h1 => ?_) (fun h1 => ?_)
 ·
  simp only [HS] at h1
  exfalso; simp at h1; omega
 simp only [HS] at h1
 refine W_exit (tE (loopQ_e (inBlk_y (tN (sQ (rG (eK 2 Z (oN (tN (rT (eR ?_)))))))))))
 ·rfl
theorem markStmtS_m (l : List Stmt) (k : Int) (hk : 0 ≤ k) (hb : k + ctL ctStmt l ≤ 1073741824) : MarkF Tryz.prog 95 (.list 5 (l.map Stmt.tt)) (k) (k + ctL ctStmt l) (.list 5 ((mkL mkStmt ctStmt l k).map Stmt.tt)) := by
 have hlen := ctL_len ctStmt_pos l
 refine MarkF.slice Tryz.func95 rfl rfl (N := 48) rfl (fun y hy => (by obtain ⟨a, _, rfl⟩ := List.mem_map.1 hy; rfl) ) ( by simp [mkL_len]) (fun h => by cases l with | nil => (rw [show k + ctL ctStmt [] = k from by simp [ctL]]; exact markStmtS_nil k) | cons _ _ => simp at h) (fun b cap vs w0 G F0 => ?_)
 refine sQ (rG (eZ Z (oN (tN (sQ (sQ (rG (eZ Z (oN (tN (W_block ?_)))))))))))
 refine lK (α := Int × Int × List Value × List T) [0] [] (fun x => [(5, .t (.int (x.1))), (1, .t (.int (x.2.1)))]) (fun x => [(48, .raw b (cap * 5) (x.2.2.1) (x.2.2.2))]) (fun x => 0 ≤ (x.1) ∧ (x.1) ≤ l.length ∧ k ≤ (x.2.1) ∧ (x.2.1) + ctL ctStmt (l.drop (x.1).toNat) = k + ctL ctStmt l ∧ ∃ done : List Stmt, done.length = (x.1).toNat ∧ (x.2.2.2) = done.flatMap Stmt.cl ++ (l.drop (x.1).toNat).flatMap Stmt.cl ∧ mkL mkStmt ctStmt l k = done ++ mkL mkStmt ctStmt (l.drop (x.1).toNat) (x.2.1)) (fun x => Int.toNat (l.length - (x.1))) (0, k, vs, (l.map Stmt.tt).flatMap T.cells) ?_ (fun x hx => ?_)
 ·exact ⟨by omega, by omega, Int.le_refl k, rfl, [], rfl, by rw [List.flatMap_map]; rfl, rfl⟩
 obtain ⟨i, k', vs', ts⟩ := x
 obtain ⟨hi0, hi1, hkk, hk', done, hd, hts, he⟩ := hx
 dsimp only at hi0 hi1 hkk hk' hd hts he ⊢
 refine nY Z (sQ (sQ (rG (eK 2 Z (WO_lenV Z Z (lt_of Z) Z ⟨86, by kernel_rfl⟩ rfl (eZ Z (oN (tN ?_))))))))
 refine W_cond Z (fun h1 => ?_) (fun h1 => ?_)
 ·
  simp only [HS] at h1
  refine W_skip (tN (sQ (W_block (sQ (rG ?_)))))
  have hD := flat_lens Stmt.cl_len done hd
  have hca := ctL_at ctStmt hi0 h1
  have hcx : ctStmt (l[i.toNat]'(by omega)) = ctStmt (l[i.toNat]'(by omega)) := rfl
  conv at hcx => rhs; unfold ctStmt
  have hcr := ctL_pos ctStmt_pos (l.drop (i + 1).toNat)
  have p0 := ctL_pos ctTok_pos (l[i.toNat]'(by omega)).ex
  rw [drop_at hi0 h1, List.flatMap_cons] at hts
  subst hts
  refine eK 3 Z (WO_idxV tys Z Z (lt_of Z) Z Z Z Z Z Z (by omega) (by first | omega | (simp only [List.length_map]; omega)) ?_)
  refine WO_fieldV tys Z Z (lt_of Z) Z Z Z Z Z (kZ [0,1,5,6,7,8,9,12,13,14,15,16] Z (WO_storeV tys (id := 48) Z Z Z Z Z Z Z (by exact fgetE hD Z) Z Z Z ?_))
  refine nZ Z (oN (tN (sQ (rG (eZ Z (evI ?_))))))
  refine eZ Z (oN (tN (sQ (rG (eK 3 Z (WO_idxV tys Z Z (lt_of Z) Z Z Z Z Z Z (by omega) (by first | omega | (simp only [List.length_map]; omega)) ?_))))))
  refine WO_fieldV tys Z Z (lt_of Z) Z Z Z Z Z (kZ [0,1,5,6,7,8,9,12,13,14,15,16,17,18,19,20,21,22,23] Z (WO_storeV tys (id := 48) Z Z Z Z Z Z Z (by rw [fset hD]; exact fgetE hD Z) Z Z Z ?_))
  refine nZ Z (oN (tN (sQ (rG (eZ Z (evI ?_))))))
  refine eZ Z (oN (tN (sQ (rG (eK 2 Z (WO_idxV tys Z Z (lt_of Z) Z Z Z Z Z Z (by omega) (by first | omega | (simp only [List.length_map]; omega)) ?_))))))
  refine WO_fieldV tys Z Z (lt_of Z) Z Z Z Z Z ?_
  refine WO_loadV tys (id := 48) Z Z (lt_of Z) Z Z Z Z Z (by rw [fset hD, fset hD]; exact fgetE hD Z) (fun u30 hu30 => ?_)
  refine kZ [0,1,5,6,7,8,9,12,13,14,15,16,17,18,19,20,21,22,23,24,25,26,27,28,29,30] Z (eZ Z (WO_markN (id := 48) (j := i.toNat * 5 + 2) Z Z (lt_of Z) Z Z Z Z Z Z (hu30) (by rw [fset hD, fset hD]; exact fgetE hD Z) (markTokS_m (l[i.toNat]'(by omega)).ex (k' + 1 + 1) (by omega) (by omega)) ?_))
  refine eZ Z (oN (tN (sQ (rG (eK 2 Z (WO_idxV tys Z Z (lt_of Z) Z Z Z Z Z Z (by omega) (by first | omega | (simp only [List.length_map]; omega)) ?_))))))
  refine WO_fieldV tys Z Z (lt_of Z) Z Z Z Z Z ?_
  refine WO_loadV tys (id := 48) Z Z (lt_of Z) Z Z Z Z Z (by rw [fset hD, fset hD, fset hD]; exact fgetE hD Z) (fun u37 hu37 => ?_)
  refine eZ Z (kZ [0,1,5,6,7,8,9,12,13,14,15,16,17,18,19,20,21,22,23,24,25,26,27,28,29,30,31,32,33,34,35,36,37,38] Z (WO_markN (id := 48) (j := i.toNat * 5 + 3) Z Z (lt_of Z) Z Z Z Z Z Z (hu37) (by rw [fset hD, fset hD, fset hD]; exact fgetE hD Z) (markIntS_m (l[i.toNat]'(by omega)).thn (k' + 1 + 1 + ctL ctTok (l[i.toNat]'(by omega)).ex) (by omega) (by omega)) ?_))
  refine eZ Z (oN (tN (rG (eK 2 Z (WO_idxV tys Z Z (lt_of Z) Z Z Z Z Z Z (by omega) (by first | omega | (simp only [List.length_map]; omega)) ?_)))))
  refine WO_fieldV tys Z Z (lt_of Z) Z Z Z Z Z ?_
  refine WO_loadV tys (id := 48) Z Z (lt_of Z) Z Z Z Z Z (by rw [fset hD, fset hD, fset hD, fset hD]; exact fgetE hD Z) (fun u44 hu44 => ?_)
  refine eZ Z (WO_markN (id := 48) (j := i.toNat * 5 + 4) Z Z (lt_of Z) Z Z Z Z Z Z (hu44) (by rw [fset hD, fset hD, fset hD, fset hD]; exact fgetE hD Z) (markIntS_m (l[i.toNat]'(by omega)).els (k' + 1 + 1 + ctL ctTok (l[i.toNat]'(by omega)).ex + ((l[i.toNat]'(by omega)).thn.length : Int)) (by omega) (by omega)) ?_)
  refine kZ [0,1,5,6,7,8,9,12,13,14,15,16,17,18,19,20,21,22,23,24,25,26,27,28,29,30,31,32,33,34,35,36,37,38,39,40,41,42,43,44,45,46] Z (eZ Z (oN (bN (tN (rG (eZ Z (evI ?_)))))))
  refine eZ Z (oN ?_)
  refine lQ (_, _, _, _) ?_ ?_
  ·dsimp only
   refine ⟨by omega, by omega, by omega, by omega, done ++ [mkStmt (l[i.toNat]'(by omega)) k'], by simp [hd]; omega, ?_, ?_⟩
   ·simp only [fset hD]
    rw [List.flatMap_append, List.append_assoc]
    rfl
   ·rw [he, drop_at hi0 h1, mkL, List.append_assoc, show k' + ctStmt (l[i.toNat]'(by omega)) = k' + 1 + 1 + ctL ctTok (l[i.toNat]'(by omega)).ex + ((l[i.toNat]'(by omega)).thn.length : Int) + ((l[i.toNat]'(by omega)).els.length : Int) from by omega]
    rfl
  ·(show Int.toNat _ < Int.toNat _); omega
 simp only [HS] at h1
 refine W_exit (tE (loopQ_e (inBlk_y (tN (sQ (rG (eK 2 Z (oN (tN (rT ?_))))))))))
 refine EndsM_slice (.inr Z) Z Z Z ?_ ?_
 ·rw [drop_end h1] at hk'; simp only [ctL_nil] at hk'; omega
 ·rw [hts, drop_end h1, he, drop_end h1, List.flatMap_map, mkL, List.append_nil]; exact List.append_nil _
theorem heldStmtS_mk (l : List Stmt) (k : Int) (hk : 0 ≤ k) (hb : k + ctL ctStmt l ≤ 1073741824) : Fun Tryz.prog 96 [.t (T.Stmts (mkL mkStmt ctStmt l k)), .t (.int k)] (tupD [.t (.int (k + ctL ctStmt l))]) := by
 have hlen := ctL_len ctStmt_pos l
 have hml := mkL_len mkStmt ctStmt l k
 refine Fun.begin tys Tryz.func96 Z Z (N := 58) [(0, .t (T.Stmts (mkL mkStmt ctStmt l k))), (1, .t (.int k))] Z Z (fun w0 G F0 => ?_)
 refine sQ (rG (eZ Z (oN (tN (sQ (sQ (rG (eZ Z (oN (tN (W_block ?_)))))))))))
 refine lK (α := Int × Int) [0] [] (fun x => [(5, .t (.int (x.1))), (1, .t (.int (x.2)))]) (fun x => []) (fun x => 0 ≤ (x.1) ∧ (x.1) ≤ l.length ∧ k ≤ (x.2) ∧ (x.2) + ctL ctStmt (l.drop (x.1).toNat) = k + ctL ctStmt l ∧ (x.2) = k + ctL ctStmt (l.take (x.1).toNat)) (fun x => Int.toNat (l.length - (x.1))) (0, k) ?_ (fun x hx => ?_)
 ·exact ⟨by omega, by omega, Int.le_refl k, rfl, by rw [show l.take (0 : Int).toNat = [] from rfl]; rw [ctL_nil]; omega⟩
 obtain ⟨i, k'⟩ := x
 obtain ⟨hi0, hi1, hkk, hk', hkt⟩ := hx
 dsimp only at hi0 hi1 hkk hk' hkt ⊢
 refine nY Z (sQ (sQ (rG (eK 2 Z (evE ?_)))))
 refine eZ Z (oN (tN ?_))
 refine W_cond Z (fun h1 => ?_) (fun h1 => ?_)
 ·
  simp only [HS] at h1
  refine W_skip (tN (sQ (W_block (sQ (sQ (rG ?_))))))
  have hca := ctL_at ctStmt (l := l) hi0 (by omega)
  have hcx : ctStmt (l[i.toNat]'(by omega)) = ctStmt (l[i.toNat]'(by omega)) := rfl
  conv at hcx => rhs; unfold ctStmt
  have hcr := ctL_pos ctStmt_pos (l.drop (i + 1).toNat)
  have p0 := ctL_pos ctTok_pos (l[i.toNat]'(by omega)).ex
  refine eK 2 Z (WO_idxT tys Z Z (lt_of Z) Z Z Z Z Z Z Z (by omega) _ (getMk Stmt.tt mkStmt ctStmt hkt (by omega) (by omega)) (eK 2 Z (kZ [0,1,5,6,7,8,9,12,13,14,15,16] Z (eK 2 Z (WO_le (Le.known (t := 18) false Z (by simp [mkStmt])) ?_)))))
  refine oN (tN (W_condF Z (W_skip (tN (sQ (rG (eZ Z (evI ?_))))))))
  refine eZ Z (oN (tN (sQ (sQ (rG (eK 2 Z (WO_idxT tys Z Z (lt_of Z) Z Z Z Z Z Z Z (by omega) _ (getMk Stmt.tt mkStmt ctStmt hkt (by omega) (by omega)) (eZ Z (kZ [0,1,5,6,7,8,9,12,13,14,15,16,17,18,19,20,21,22,23,24] Z (eK 3 Z (WO_le (Le.known (t := 27) false Z (by simp [mkStmt])) ?_)))))))))))
  refine oN (tN (W_condF Z (W_skip (tN (sQ (rG (eZ Z (evI ?_))))))))
  refine eZ Z (oN (tN (sQ (rG (eK 2 Z (WO_idxT tys Z Z (lt_of Z) Z Z Z Z Z Z Z (by omega) _ (getMk Stmt.tt mkStmt ctStmt hkt (by omega) (by omega)) (kZ [0,1,5,6,7,8,9,12,13,14,15,16,17,18,19,20,21,22,23,24,25,26,27,28,29,30,31,32] Z (eK 3 Z (callB ?_)))))))))
  refine ⟨_, heldTokS_mk (l[i.toNat]'(by omega)).ex (k' + 1 + 1) (by omega) (by omega), rfl, ?_⟩
  refine eZ Z (oN (tN (sQ (sQ (rG (eK 2 Z (WO_le (Le.known (t := 38) false Z (by first | (simp; done) | (simp; omega))) ?_)))))))
  refine oN (tN (W_condF Z (W_skip (tN (sQ (kY [0,1,5,6,7,8,9,12,13,14,15,16,17,18,19,20,21,22,23,24,25,26,27,28,29,30,31,32,33,34,35,36,37,38] Z (rG (eK 2 Z (WO_idxT tys Z Z (lt_of Z) Z Z Z Z Z Z Z (by omega) _ (getMk Stmt.tt mkStmt ctStmt hkt (by omega) (by omega)) (eK 3 Z (callB ?_)))))))))))
  refine ⟨_, heldIntS_mk (l[i.toNat]'(by omega)).thn (k' + 1 + 1 + ctL ctTok (l[i.toNat]'(by omega)).ex) (by omega) (by omega), rfl, ?_⟩
  refine eZ Z (oN (tN (sQ (sQ (kY [0,1,5,6,7,8,9,12,13,14,15,16,17,18,19,20,21,22,23,24,25,26,27,28,29,30,31,32,33,34,35,36,37,38,39,40,41,42,43,44,45] Z (rG (eK 2 Z (WO_le (Le.known (t := 47) false Z (by first | (simp; done) | (simp; omega))) ?_))))))))
  refine oN (tN (W_condF Z (W_skip (tN (sQ (rG (eK 2 Z (WO_idxT tys Z Z (lt_of Z) Z Z Z Z Z Z Z (by omega) _ (getMk Stmt.tt mkStmt ctStmt hkt (by omega) (by omega)) (eK 3 Z (callB ?_))))))))))
  refine ⟨_, heldIntS_mk (l[i.toNat]'(by omega)).els (k' + 1 + 1 + ctL ctTok (l[i.toNat]'(by omega)).ex + ((l[i.toNat]'(by omega)).thn.length : Int)) (by omega) (by omega), rfl, ?_⟩
  refine kZ [0,1,5,6,7,8,9,12,13,14,15,16,17,18,19,20,21,22,23,24,25,26,27,28,29,30,31,32,33,34,35,36,37,38,39,40,41,42,43,44,45,46,47,48,49,50,51,52,53,54] Z (eZ Z (oN (tN (sQ (rG (eK 2 Z (WO_le (Le.known (t := 56) false Z (by first | (simp; done) | (simp; omega))) ?_)))))))
  refine oN (tN (W_condF Z (W_skip (bN (tN (rG (eZ Z (evI ?_))))))))
  refine eZ Z (oN ?_)
  refine lQ (_, _) ?_ ?_
  ·dsimp only
   refine ⟨by omega, by omega, by omega, by omega, ?_⟩
   rw [ctL_take ctStmt hi0 (by omega)]
   omega
  ·(show Int.toNat _ < Int.toNat _); omega
 simp only [HS] at h1
 refine W_exit (tE (loopQ_e (inBlk_y (tN (sQ (rG (eK 2 Z (oN (tN (rT (eR ?_)))))))))))
 ·rw [drop_end (by omega)] at hk'; simp only [ctL_nil] at hk'; refine congrArg (fun n => [D.t (T.int n)]) ?_; omega
def mkFunc (x : Func) (k : Int) : Func := ⟨k, k + 1, mkI x.body (k + 1 + 1), mkL mkStmt ctStmt x.stmts (k + 1 + 1 + (x.body.length : Int))⟩
def ctFunc (x : Func) : Int := 1 + 1 + (x.body.length : Int) + ctL ctStmt x.stmts
theorem ctFunc_pos (x : Func) : 1 ≤ ctFunc x := by
 have p1 := ctL_pos ctStmt_pos x.stmts
 unfold ctFunc; omega
def Func.cl (x : Func) : List T := (Func.tt x).cells
theorem Func.cl_len (x : Func) : x.cl.length = 4 := rfl
theorem markFuncS_nil (k : Int) : Fun Tryz.prog 53 [.t (.list 4 []), .t (.int k)] (tupD [.t (.int k)]) := by
 refine Fun.begin tys Tryz.func53 Z Z (N := 41) [(0, .t (.list 4 [])), (1, .t (.int k))] Z Z (fun w0 G F0 => ?_)
 refine sQ (rG (eZ Z (oN (tN (sQ (sQ (rG (eZ Z (oN (tN (W_block ?_)))))))))))
 refine lK (α := Int) [0, 1] [] (fun x => [(5, .t (.int x))]) (fun x => []) (fun x => 0 ≤ x) (fun x => Int.toNat (0)) 0 ?_ (fun z hx => ?_)
 ·exact Int.le_refl 0
 have hz := hx
 refine nY Z (sQ (sQ (rG (eK 2 Z (evE ?_)))))
 refine eZ Z (oN (tN ?_))
 refine W_cond Z (fun h1 => ?_) (fun h1 => ?_)
 ·
  simp only [HS] at h1
  exfalso; simp at h1; omega
 simp only [HS] at h1
 refine W_exit (tE (loopQ_e (inBlk_y (tN (sQ (rG (eK 2 Z (oN (tN (rT (eR ?_)))))))))))
 ·rfl
theorem markFuncS_m (l : List Func) (k : Int) (hk : 0 ≤ k) (hb : k + ctL ctFunc l ≤ 1073741824) : MarkF Tryz.prog 53 (.list 4 (l.map Func.tt)) (k) (k + ctL ctFunc l) (.list 4 ((mkL mkFunc ctFunc l k).map Func.tt)) := by
 have hlen := ctL_len ctFunc_pos l
 refine MarkF.slice Tryz.func53 rfl rfl (N := 41) rfl (fun y hy => (by obtain ⟨a, _, rfl⟩ := List.mem_map.1 hy; rfl) ) ( by simp [mkL_len]) (fun h => by cases l with | nil => (rw [show k + ctL ctFunc [] = k from by simp [ctL]]; exact markFuncS_nil k) | cons _ _ => simp at h) (fun b cap vs w0 G F0 => ?_)
 refine sQ (rG (eZ Z (oN (tN (sQ (sQ (rG (eZ Z (oN (tN (W_block ?_)))))))))))
 refine lK (α := Int × Int × List Value × List T) [0] [] (fun x => [(5, .t (.int (x.1))), (1, .t (.int (x.2.1)))]) (fun x => [(41, .raw b (cap * 4) (x.2.2.1) (x.2.2.2))]) (fun x => 0 ≤ (x.1) ∧ (x.1) ≤ l.length ∧ k ≤ (x.2.1) ∧ (x.2.1) + ctL ctFunc (l.drop (x.1).toNat) = k + ctL ctFunc l ∧ ∃ done : List Func, done.length = (x.1).toNat ∧ (x.2.2.2) = done.flatMap Func.cl ++ (l.drop (x.1).toNat).flatMap Func.cl ∧ mkL mkFunc ctFunc l k = done ++ mkL mkFunc ctFunc (l.drop (x.1).toNat) (x.2.1)) (fun x => Int.toNat (l.length - (x.1))) (0, k, vs, (l.map Func.tt).flatMap T.cells) ?_ (fun x hx => ?_)
 ·exact ⟨by omega, by omega, Int.le_refl k, rfl, [], rfl, by rw [List.flatMap_map]; rfl, rfl⟩
 obtain ⟨i, k', vs', ts⟩ := x
 obtain ⟨hi0, hi1, hkk, hk', done, hd, hts, he⟩ := hx
 dsimp only at hi0 hi1 hkk hk' hd hts he ⊢
 refine nY Z (sQ (sQ (rG (eK 2 Z (WO_lenV Z Z (lt_of Z) Z ⟨83, by kernel_rfl⟩ rfl (eZ Z (oN (tN ?_))))))))
 refine W_cond Z (fun h1 => ?_) (fun h1 => ?_)
 ·
  simp only [HS] at h1
  refine W_skip (tN (sQ (W_block (sQ (rG ?_)))))
  have hD := flat_lens Func.cl_len done hd
  have hca := ctL_at ctFunc hi0 h1
  have hcx : ctFunc (l[i.toNat]'(by omega)) = ctFunc (l[i.toNat]'(by omega)) := rfl
  conv at hcx => rhs; unfold ctFunc
  have hcr := ctL_pos ctFunc_pos (l.drop (i + 1).toNat)
  have p0 := ctL_pos ctStmt_pos (l[i.toNat]'(by omega)).stmts
  rw [drop_at hi0 h1, List.flatMap_cons] at hts
  subst hts
  refine eK 3 Z (WO_idxV tys Z Z (lt_of Z) Z Z Z Z Z Z (by omega) (by first | omega | (simp only [List.length_map]; omega)) ?_)
  refine WO_fieldV tys Z Z (lt_of Z) Z Z Z Z Z (kZ [0,1,5,6,7,8,9,12,13,14,15,16] Z (WO_storeV tys (id := 41) Z Z Z Z Z Z Z (by exact fgetE hD Z) Z Z Z ?_))
  refine nZ Z (oN (tN (sQ (rG (eZ Z (evI ?_))))))
  refine eZ Z (oN (tN (sQ (rG (eK 3 Z (WO_idxV tys Z Z (lt_of Z) Z Z Z Z Z Z (by omega) (by first | omega | (simp only [List.length_map]; omega)) ?_))))))
  refine WO_fieldV tys Z Z (lt_of Z) Z Z Z Z Z (kZ [0,1,5,6,7,8,9,12,13,14,15,16,17,18,19,20,21,22,23] Z (WO_storeV tys (id := 41) Z Z Z Z Z Z Z (by rw [fset hD]; exact fgetE hD Z) Z Z Z ?_))
  refine nZ Z (oN (tN (sQ (rG (eZ Z (evI ?_))))))
  refine eZ Z (oN (tN (sQ (rG (eK 2 Z (WO_idxV tys Z Z (lt_of Z) Z Z Z Z Z Z (by omega) (by first | omega | (simp only [List.length_map]; omega)) ?_))))))
  refine WO_fieldV tys Z Z (lt_of Z) Z Z Z Z Z ?_
  refine WO_loadV tys (id := 41) Z Z (lt_of Z) Z Z Z Z Z (by rw [fset hD, fset hD]; exact fgetE hD Z) (fun u30 hu30 => ?_)
  refine kZ [0,1,5,6,7,8,9,12,13,14,15,16,17,18,19,20,21,22,23,24,25,26,27,28,29,30] Z (eZ Z (WO_markN (id := 41) (j := i.toNat * 4 + 2) Z Z (lt_of Z) Z Z Z Z Z Z (hu30) (by rw [fset hD, fset hD]; exact fgetE hD Z) (markIntS_m (l[i.toNat]'(by omega)).body (k' + 1 + 1) (by omega) (by omega)) ?_))
  refine eZ Z (oN (tN (rG (eK 2 Z (WO_idxV tys Z Z (lt_of Z) Z Z Z Z Z Z (by omega) (by first | omega | (simp only [List.length_map]; omega)) ?_)))))
  refine WO_fieldV tys Z Z (lt_of Z) Z Z Z Z Z ?_
  refine WO_loadV tys (id := 41) Z Z (lt_of Z) Z Z Z Z Z (by rw [fset hD, fset hD, fset hD]; exact fgetE hD Z) (fun u37 hu37 => ?_)
  refine eZ Z (kZ [0,1,5,6,7,8,9,12,13,14,15,16,17,18,19,20,21,22,23,24,25,26,27,28,29,30,31,32,33,34,35,36,37,38] Z (WO_markN (id := 41) (j := i.toNat * 4 + 3) Z Z (lt_of Z) Z Z Z Z Z Z (hu37) (by rw [fset hD, fset hD, fset hD]; exact fgetE hD Z) (markStmtS_m (l[i.toNat]'(by omega)).stmts (k' + 1 + 1 + ((l[i.toNat]'(by omega)).body.length : Int)) (by omega) (by omega)) ?_))
  refine eZ Z (oN (bN (tN (rG (eZ Z (evI ?_))))))
  refine eZ Z (oN ?_)
  refine lQ (_, _, _, _) ?_ ?_
  ·dsimp only
   refine ⟨by omega, by omega, by omega, by omega, done ++ [mkFunc (l[i.toNat]'(by omega)) k'], by simp [hd]; omega, ?_, ?_⟩
   ·simp only [fset hD]
    rw [List.flatMap_append, List.append_assoc]
    rfl
   ·rw [he, drop_at hi0 h1, mkL, List.append_assoc, show k' + ctFunc (l[i.toNat]'(by omega)) = k' + 1 + 1 + ((l[i.toNat]'(by omega)).body.length : Int) + ctL ctStmt (l[i.toNat]'(by omega)).stmts from by omega]
    rfl
  ·(show Int.toNat _ < Int.toNat _); omega
 simp only [HS] at h1
 refine W_exit (tE (loopQ_e (inBlk_y (tN (sQ (rG (eK 2 Z (oN (tN (rT ?_))))))))))
 refine EndsM_slice (.inr Z) Z Z Z ?_ ?_
 ·rw [drop_end h1] at hk'; simp only [ctL_nil] at hk'; omega
 ·rw [hts, drop_end h1, he, drop_end h1, List.flatMap_map, mkL, List.append_nil]; exact List.append_nil _
theorem heldFuncS_mk (l : List Func) (k : Int) (hk : 0 ≤ k) (hb : k + ctL ctFunc l ≤ 1073741824) : Fun Tryz.prog 54 [.t (T.Funcs (mkL mkFunc ctFunc l k)), .t (.int k)] (tupD [.t (.int (k + ctL ctFunc l))]) := by
 have hlen := ctL_len ctFunc_pos l
 have hml := mkL_len mkFunc ctFunc l k
 refine Fun.begin tys Tryz.func54 Z Z (N := 49) [(0, .t (T.Funcs (mkL mkFunc ctFunc l k))), (1, .t (.int k))] Z Z (fun w0 G F0 => ?_)
 refine sQ (rG (eZ Z (oN (tN (sQ (sQ (rG (eZ Z (oN (tN (W_block ?_)))))))))))
 refine lK (α := Int × Int) [0] [] (fun x => [(5, .t (.int (x.1))), (1, .t (.int (x.2)))]) (fun x => []) (fun x => 0 ≤ (x.1) ∧ (x.1) ≤ l.length ∧ k ≤ (x.2) ∧ (x.2) + ctL ctFunc (l.drop (x.1).toNat) = k + ctL ctFunc l ∧ (x.2) = k + ctL ctFunc (l.take (x.1).toNat)) (fun x => Int.toNat (l.length - (x.1))) (0, k) ?_ (fun x hx => ?_)
 ·exact ⟨by omega, by omega, Int.le_refl k, rfl, by rw [show l.take (0 : Int).toNat = [] from rfl]; rw [ctL_nil]; omega⟩
 obtain ⟨i, k'⟩ := x
 obtain ⟨hi0, hi1, hkk, hk', hkt⟩ := hx
 dsimp only at hi0 hi1 hkk hk' hkt ⊢
 refine nY Z (sQ (sQ (rG (eK 2 Z (evE ?_)))))
 refine eZ Z (oN (tN ?_))
 refine W_cond Z (fun h1 => ?_) (fun h1 => ?_)
 ·
  simp only [HS] at h1
  refine W_skip (tN (sQ (W_block (sQ (sQ (rG ?_))))))
  have hca := ctL_at ctFunc (l := l) hi0 (by omega)
  have hcx : ctFunc (l[i.toNat]'(by omega)) = ctFunc (l[i.toNat]'(by omega)) := rfl
  conv at hcx => rhs; unfold ctFunc
  have hcr := ctL_pos ctFunc_pos (l.drop (i + 1).toNat)
  have p0 := ctL_pos ctStmt_pos (l[i.toNat]'(by omega)).stmts
  refine eK 2 Z (WO_idxT tys Z Z (lt_of Z) Z Z Z Z Z Z Z (by omega) _ (getMk Func.tt mkFunc ctFunc hkt (by omega) (by omega)) (eK 2 Z (kZ [0,1,5,6,7,8,9,12,13,14,15,16] Z (eK 2 Z (WO_le (Le.known (t := 18) false Z (by simp [mkFunc])) ?_)))))
  refine oN (tN (W_condF Z (W_skip (tN (sQ (rG (eZ Z (evI ?_))))))))
  refine eZ Z (oN (tN (sQ (sQ (rG (eK 2 Z (WO_idxT tys Z Z (lt_of Z) Z Z Z Z Z Z Z (by omega) _ (getMk Func.tt mkFunc ctFunc hkt (by omega) (by omega)) (eZ Z (kZ [0,1,5,6,7,8,9,12,13,14,15,16,17,18,19,20,21,22,23,24] Z (eK 3 Z (WO_le (Le.known (t := 27) false Z (by simp [mkFunc])) ?_)))))))))))
  refine oN (tN (W_condF Z (W_skip (tN (sQ (rG (eZ Z (evI ?_))))))))
  refine eZ Z (oN (tN (sQ (rG (eK 2 Z (WO_idxT tys Z Z (lt_of Z) Z Z Z Z Z Z Z (by omega) _ (getMk Func.tt mkFunc ctFunc hkt (by omega) (by omega)) (kZ [0,1,5,6,7,8,9,12,13,14,15,16,17,18,19,20,21,22,23,24,25,26,27,28,29,30,31,32] Z (eK 3 Z (callB ?_)))))))))
  refine ⟨_, heldIntS_mk (l[i.toNat]'(by omega)).body (k' + 1 + 1) (by omega) (by omega), rfl, ?_⟩
  refine eZ Z (oN (tN (sQ (sQ (rG (eK 2 Z (WO_le (Le.known (t := 38) false Z (by first | (simp; done) | (simp; omega))) ?_)))))))
  refine oN (tN (W_condF Z (W_skip (tN (sQ (kY [0,1,5,6,7,8,9,12,13,14,15,16,17,18,19,20,21,22,23,24,25,26,27,28,29,30,31,32,33,34,35,36,37,38] Z (rG (eK 2 Z (WO_idxT tys Z Z (lt_of Z) Z Z Z Z Z Z Z (by omega) _ (getMk Func.tt mkFunc ctFunc hkt (by omega) (by omega)) (eK 3 Z (callB ?_)))))))))))
  refine ⟨_, heldStmtS_mk (l[i.toNat]'(by omega)).stmts (k' + 1 + 1 + ((l[i.toNat]'(by omega)).body.length : Int)) (by omega) (by omega), rfl, ?_⟩
  refine eZ Z (oN (tN (sQ (kY [0,1,5,6,7,8,9,12,13,14,15,16,17,18,19,20,21,22,23,24,25,26,27,28,29,30,31,32,33,34,35,36,37,38,39,40,41,42,43,44,45] Z (rG (eK 2 Z (WO_le (Le.known (t := 47) false Z (by first | (simp; done) | (simp; omega))) ?_)))))))
  refine oN (tN (W_condF Z (W_skip (bN (tN (rG (eZ Z (evI ?_))))))))
  refine eZ Z (oN ?_)
  refine lQ (_, _) ?_ ?_
  ·dsimp only
   refine ⟨by omega, by omega, by omega, by omega, ?_⟩
   rw [ctL_take ctFunc hi0 (by omega)]
   omega
  ·(show Int.toNat _ < Int.toNat _); omega
 simp only [HS] at h1
 refine W_exit (tE (loopQ_e (inBlk_y (tN (sQ (rG (eK 2 Z (oN (tN (rT (eR ?_)))))))))))
 ·rw [drop_end (by omega)] at hk'; simp only [ctL_nil] at hk'; refine congrArg (fun n => [D.t (T.int n)]) ?_; omega
def mkProg (x : Prog) (k : Int) : Prog := ⟨mkL mkFunc ctFunc x.funcs (k)⟩
def ctProg (x : Prog) : Int := ctL ctFunc x.funcs
theorem markProg_m (x : Prog) (k : Int) (hk : 0 ≤ k) (hb : k + ctProg x ≤ 1073741824) : MarkF Tryz.prog 28 (.agg ([T.Funcs x.funcs])) (k) (k + ctProg x) (.agg ([T.Funcs (mkL mkFunc ctFunc x.funcs (k))])) := by
 have hb2 := hb
 unfold ctProg at hb2
 have p0 := ctL_pos ctFunc_pos x.funcs
 refine MarkF.struct Tryz.func28 Z Z (N := 10) Z (fun vs hvs hone w0 G F0 => ?_)
 obtain ⟨a0, rfl⟩ : ∃ a0, vs = [a0] := by
  match vs, hvs with
  | [a0], _ => exact ⟨_, rfl⟩
 refine sQ (rG (WO_box Z Z (lt_of Z) Z Z (nZ Z (eZ Z (oN (tN (sQ (rG (eK 3 Z (WO_markN (id := 10) (j := 0) Z Z (lt_of Z) Z Z Z Z Z Z (rfl) (rfl) (markFuncS_m x.funcs (k) (by omega) (by omega)) (eZ Z (oN (tN (sQ (kY [1,4] Z ?_)))))))))))))))
 refine rG (eK 2 Z (oN (tN (rT ?_))))
 refine EndsM_struct (.inr Z) Z Z Z ?_ ?_
 ·unfold ctProg; omega
 ·rfl
theorem heldProg_mk (x : Prog) (k : Int) (hk : 0 ≤ k) (hb : k + ctProg x ≤ 1073741824) : Fun Tryz.prog 29 [.t (mkProg x k).tt, .t (.int k)] (tupD [.t (.int (k + ctProg x))]) := by
 have hb2 := hb
 unfold ctProg at hb2
 have p0 := ctL_pos ctFunc_pos x.funcs
 refine Fun.begin tys Tryz.func29 Z Z (N := 12) [(0, .t (mkProg x k).tt), (1, .t (.int k))] Z Z (fun w0 G F0 => ?_)
 refine sQ (rG (WO_box Z Z (lt_of Z) Z Z (nZ Z (eZ Z (oN (tN (sQ (rG (eK 3 Z (callB ?_))))))))))
 refine ⟨_, heldFuncS_mk x.funcs (k) (by omega) (by omega), rfl, ?_⟩
 refine eZ Z (oN (tN (sQ (sQ (kY [1,4] Z (rG (eK 2 Z (WO_le (Le.known (t := 10) false Z (by first | (simp; done) | (simp; omega))) ?_))))))))
 refine oN (tN (W_condF Z (W_skip (tN (sQ (rG (eK 2 Z (oN (tN (rT (eR ?_)))))))))))
 ·refine congrArg (fun n => [D.t (T.int n)]) ?_; unfold ctProg; omega
theorem szStmt_c (x : Stmt) : SzC (szStmt x) (ctStmt x - 8) :=
 (szSeq_cs (szLen_cl (ct := ctTok) (fun t => by unfold ctTok; omega) x.ex) (szSeq_cs (szIntS_c x.thn) (szSeq_cs (szIntS_c x.els) szSeq_cn))).mono (by unfold ctStmt; omega)
theorem szFunc_c (x : Func) : SzC (szFunc x) (ctFunc x - 8) :=
 (szSeq_cs (szIntS_c x.body) (szSeq_cs (szL_c szStmt_c x.stmts) szSeq_cn)).mono (by unfold ctFunc; omega)
theorem szProg_c (x : Prog) : SzC (szProg x) (ctProg x) :=
 (szSeq_cs (szL_c szFunc_c x.funcs) szSeq_cn).mono (by unfold ctProg; omega)
theorem ctProg_small {p : Prog} (h : 0 ≤ szProg p 1048576) : ctProg p ≤ 8388608 := by
 have := szProg_c p 1048576 (by omega) h
 omega
open Go.Eng
def w64 (n : Int) : Int := IntKind.i64.wrap n
def w32 (n : Int) : Int := IntKind.i64.wrap (IntKind.i32.wrap n)
def reckS (op x y : Int) : Option Int :=
 if op = 3 then some (w32 (w64 (x + y))) else if op = 4 then some (w32 (w64 (x - y))) else if op = 5 then some (w32 (w64 (x * y)))
 else if op = 6 then (if y = 0 then none else some (w32 (w64 (x.tdiv y)))) else if op = 7 then some (if x < y then 1 else 0) else some (if x = y then 1 else 0)
structure Ms where
 used : Nat
 fuel : Nat
 deep : Nat
 trace : List Int
structure By where
 how : Int
 pan : Int
 exd : Bool
structure Sx where
 m : Ms
 vars : List Int
 off : List Int
 res : Int
 by' : Option By
def recS : Option By → Int × Option By
 | none => (0, none)
 | some b => if b.how = 2 then (b.pan, some ⟨if b.exd then 3 else 1, b.pan, b.exd⟩) else (0, some b)
def inS (inp : List Int) (m : Ms) : Int × Ms := if m.used < inp.length then ((inp[m.used]?).getD 0, ⟨m.used + 1, m.fuel, m.deep, m.trace⟩) else (0, m)
def tokX (cal : Int → List Int → Ms → Int × Int × Ms) (ps : List Int) (inp : List Int) (t : Tok) (pile : List Int) (s : Sx) : Int × Int × List Int × Sx :=
 if t.op = 1 then (0, 0, pile ++ [t.n], s)
 else if t.op = 2 then (0, 0, pile ++ [atI s.vars t.n], s)
 else if t.op = 9 then (0, 0, pile ++ [(inS inp s.m).1], { s with m := (inS inp s.m).2 })
 else if t.op = 10 then (0, 0, pile ++ [(recS s.by').1], { s with by' := (recS s.by').2 })
 else if t.op = 11 then
  let k := pile.length - (atI ps t.n).toNat
  let r := cal t.n (pile.drop k) s.m
  if r.1 = 1 then (0, 0, pile.take k ++ [r.2.1], { s with m := r.2.2 }) else (r.1, r.2.1, pile, { s with m := r.2.2 })
 else match reckS t.op ((pile[pile.length - 2]?).getD 0) ((pile[pile.length - 1]?).getD 0) with
  | none => (2, -1, pile, s)
  | some v => (0, 0, pile.take (pile.length - 2) ++ [v], s)
def exprS (cal : Int → List Int → Ms → Int × Int × Ms) (ps : List Int) (inp : List Int) : List Tok → List Int → Sx → Int × Int × Sx
 | [], pile, s => (0, (pile[0]?).getD 0, s)
 | t :: l, pile, s => let r := tokX cal ps inp t pile s
  if r.1 = 0 then exprS cal ps inp l r.2.2.1 r.2.2.2 else (r.1, r.2.1, r.2.2.2)
def blockS (st : Stmt → Sx → Int × Int × Sx) (f : Func) : List Int → Sx → Int × Int × Sx
 | [], s => (0, 0, s)
 | k :: l, s => let r := st (stmtAt f k) s
  if r.1 = 0 then blockS st f l r.2.2 else r
structure Lev where
 stmt : Func → Stmt → Sx → Int × Int × Sx
 call : Int → List Int → Option By → Ms → Int × Int × Option By × Ms
def Lev.cal (L : Lev) (fn : Int) (args : List Int) (m : Ms) : Int × Int × Ms := ((L.call fn args none m).1, (L.call fn args none m).2.1, (L.call fn args none m).2.2.2)
def burnM (m : Ms) : Ms := ⟨m.used, m.fuel - 1, m.deep, m.trace⟩
def doS (L : Lev) (f : Func) (t : Stmt) (v : Int) (s : Sx) : Int × Int × Sx :=
 if t.kind = 1 then (0, 0, { s with vars := s.vars.set t.n.toNat v })
 else if t.kind = 2 then (0, 0, { s with m := ⟨s.m.used, s.m.fuel, s.m.deep, s.m.trace ++ [v]⟩ })
 else if t.kind = 4 then (2, v, s)
 else if t.kind = 5 then (1, 0, { s with res := v })
 else if t.kind = 7 then (if v ≠ 0 then blockS (L.stmt f) f t.thn s else blockS (L.stmt f) f t.els s)
 else if t.kind = 8 then (if v = 0 then (0, 0, s) else
  let r := blockS (L.stmt f) f t.thn s
  if r.1 = 0 then L.stmt f t r.2.2 else r)
 else (0, 0, s)
def stmtS (L : Lev) (ps inp : List Int) (f : Func) (t : Stmt) (s : Sx) : Int × Int × Sx :=
 if s.m.fuel = 0 then (5, 0, s)
 else if t.kind = 3 then (0, 0, { s with m := burnM s.m, off := s.off ++ [t.n] })
 else if t.kind = 6 then (3, 0, { s with m := burnM s.m })
 else
  let r := exprS L.cal ps inp t.ex [] { s with m := burnM s.m }
  if r.1 = 0 then doS L f t r.2.1 r.2.2 else r
def offR (cal : Int → Option By → Ms → Int × Int × Option By × Ms) : List Int → By → Ms → Int × By × Ms
 | [], b, m => (0, b, m)
 | k :: l, b, m => let r := cal k (some b) m
  let b1 := r.2.2.1.getD b
  if 4 ≤ r.1 then (r.1, b1, r.2.2.2) else if r.1 = 1 then offR cal l b1 r.2.2.2
  else offR cal l ⟨r.1, if r.1 = 2 then r.2.1 else b1.pan, b1.exd || decide (r.1 = 3)⟩ r.2.2.2
def setL (n : Nat) (args : List Int) : List Int := args ++ (List.replicate n 0).drop args.length
def startS (f : Func) (args : List Int) (b : Option By) (m : Ms) : Sx := ⟨⟨m.used, m.fuel - 1, m.deep + 1, m.trace⟩, setL f.vars.toNat args, [], 0, b⟩
def endS (h v : Int) : By := ⟨if h = 0 then 1 else h, if h = 2 then v else 0, decide (h = 3)⟩
def callS (L : Lev) (p : Prog) (most : Nat) (fn : Int) (args : List Int) (b : Option By) (m : Ms) : Int × Int × Option By × Ms :=
 if m.fuel = 0 then (5, 0, b, m)
 else if m.deep = most then (4, 0, b, burnM m)
 else
  let f := funcAt p fn
  let r := blockS (L.stmt f) f f.body (startS f args b m)
  if 4 ≤ r.1 then (r.1, 0, r.2.2.by', r.2.2.m)
  else
   let q := offR (fun k b m => L.call k [] b m) r.2.2.off.reverse (endS r.1 r.2.1) r.2.2.m
   if 4 ≤ q.1 then (q.1, 0, r.2.2.by', q.2.2)
   else (q.2.1.how, if q.2.1.how = 2 then q.2.1.pan else r.2.2.res, r.2.2.by', ⟨q.2.2.used, q.2.2.fuel, q.2.2.deep - 1, q.2.2.trace⟩)
def lev (p : Prog) (inp : List Int) (most : Nat) : Nat → Lev
 | 0 => ⟨fun _ _ s => (5, 0, s), fun _ _ b m => (5, 0, b, m)⟩
 | n + 1 => ⟨stmtS (lev p inp most n) (paramsL p) inp, callS (lev p inp most n) p most⟩
/-! ### What it keeps to -/
def Ms.le (inp : List Int) (m m' : Ms) : Prop := m'.fuel ≤ m.fuel ∧ m'.trace.length + m'.fuel ≤ m.trace.length + m.fuel ∧ m'.used ≤ inp.length
theorem Ms.le.trans {inp : List Int} {a b c : Ms} (h : a.le inp b) (k : b.le inp c) : a.le inp c := ⟨Nat.le_trans k.1 h.1, Nat.le_trans k.2.1 h.2.1, k.2.2⟩
structure Sx.ok (p : Prog) (inp : List Int) (f : Func) (s : Sx) : Prop where
 vars : s.vars.length = f.vars.toNat
 off : ∀ x, x ∈ s.off → 0 ≤ x ∧ x < p.funcs.length ∧ atI (paramsL p) x = 0
 used : s.m.used ≤ inp.length
def ByOk (b : Option By) : Prop := ∀ x, b = some x → 1 ≤ x.how ∧ x.how < 4
structure Sx.to (p : Prog) (inp : List Int) (f : Func) (h : Int) (s s' : Sx) : Prop where
 ok : s'.ok p inp f
 le : s.m.le inp s'.m
 offl : s'.off.length + s'.m.fuel ≤ s.off.length + s.m.fuel
 h0 : 0 ≤ h
 h5 : h ≤ 5
 deep : h < 4 → s'.m.deep = s.m.deep
 by' : s'.by'.isSome = s.by'.isSome
 byk : ByOk s.by' → ByOk s'.by'
structure Ms.to (inp : List Int) (h : Int) (b b' : Option By) (m m' : Ms) : Prop where
 le : m.le inp m'
 h1 : 1 ≤ h
 h5 : h ≤ 5
 deep : h < 4 → m'.deep = m.deep
 by' : b'.isSome = b.isSome
 byk : ByOk b → ByOk b'
theorem Sx.to.trans {p : Prog} {inp : List Int} {f : Func} {h h' : Int} {a b c : Sx} (x : Sx.to p inp f h a b) (y : Sx.to p inp f h' b c) (hx : h < 4) : Sx.to p inp f h' a c :=
 ⟨y.ok, x.le.trans y.le, Nat.le_trans y.offl x.offl, y.h0, y.h5, fun hh => (y.deep hh).trans (x.deep hx), y.by'.trans x.by', fun h => y.byk (x.byk h)⟩
theorem Sx.to.refl {p : Prog} {inp : List Int} {f : Func} {a : Sx} (h : a.ok p inp f) {e : Int} (h0 : 0 ≤ e) (h5 : e ≤ 5) : Sx.to p inp f e a a :=
 ⟨h, ⟨Nat.le_refl _, Nat.le_refl _, h.used⟩, Nat.le_refl _, h0, h5, fun _ => rfl, rfl, id⟩
def inF' (f : Func) (b : List Int) : Prop := ∀ x, x ∈ b → 0 ≤ x ∧ x < f.stmts.length
structure LevOk (p : Prog) (inp : List Int) (L : Lev) : Prop where
 stmt : ∀ f, f ∈ p.funcs → ∀ t, t ∈ f.stmts → ∀ s : Sx, s.ok p inp f → Sx.to p inp f (L.stmt f t s).1 s (L.stmt f t s).2.2
 call : ∀ (fn : Int) (args : List Int) (b : Option By) (m : Ms), 0 ≤ fn → fn < p.funcs.length → args.length = (atI (paramsL p) fn).toNat → m.used ≤ inp.length → Ms.to inp (L.call fn args b m).1 b (L.call fn args b m).2.2.1 m (L.call fn args b m).2.2.2
section
variable {p : Prog} {inp : List Int} {f : Func} {L : Lev}
theorem Ms.to_s {s : Sx} {h : Int} {m' : Ms} {b b' : Option By} (hs : s.ok p inp f) (ht : Ms.to inp h b b' s.m m') : Sx.to p inp f h s { s with m := m' } :=
 ⟨⟨hs.vars, hs.off, ht.le.2.2⟩, ht.le, by have := ht.le.1; show s.off.length + m'.fuel ≤ _; omega, by have := ht.h1; omega, ht.h5, ht.deep, rfl, id⟩
theorem inS_le {m : Ms} (h : m.used ≤ inp.length) : m.le inp (inS inp m).2 ∧ (inS inp m).2.deep = m.deep ∧ (inS inp m).2.fuel = m.fuel := by
 unfold inS
 split
 ·exact ⟨⟨Nat.le_refl _, Nat.le_refl _, by assumption⟩, rfl, rfl⟩
 ·exact ⟨⟨Nat.le_refl _, Nat.le_refl _, h⟩, rfl, rfl⟩
theorem recS_some (b : Option By) : (recS b).2.isSome = b.isSome := by
 unfold recS
 split
 ·rfl
 ·split <;> rfl
theorem recS_ok {b : Option By} (h : ByOk b) : ByOk (recS b).2 := by
 unfold recS
 split
 ·exact h
 ·split
  ·intro x hx
   cases hx
   dsimp only
   split <;> omega
  ·exact h
theorem tokX_ok (hL : LevOk p inp L) (hg : goodP p = true) {vs : Int} {t : Tok} {pile : List Int} {s : Sx} (hs : s.ok p inp f) (hk : knownT vs (paramsL p).length t = true) (hn : needsT (paramsL p) t ≤ pile.length) :
  Sx.to p inp f (tokX L.cal (paramsL p) inp t pile s).1 s (tokX L.cal (paramsL p) inp t pile s).2.2.2 ∧
  ((tokX L.cal (paramsL p) inp t pile s).1 = 0 → ((tokX L.cal (paramsL p) inp t pile s).2.2.1.length : Int) = pile.length + (1 - needsT (paramsL p) t)) := by
 have hps := goodP_ps hg
 have h0 := Sx.to.refl hs (e := 0) (by omega) (by omega)
 unfold tokX
 by_cases o1 : t.op = 1
 ·rw [if_pos o1]
  exact ⟨h0, fun _ => by simp [needsT, o1]⟩
 rw [if_neg o1]
 by_cases o2 : t.op = 2
 ·rw [if_pos o2]
  exact ⟨h0, fun _ => by simp [needsT, o2]⟩
 rw [if_neg o2]
 by_cases o9 : t.op = 9
 ·rw [if_pos o9]
  obtain ⟨g1, g2, g3⟩ := inS_le hs.used
  exact ⟨⟨⟨hs.vars, hs.off, g1.2.2⟩, g1, by show s.off.length + (inS inp s.m).2.fuel ≤ _; omega, by show (0 : Int) ≤ 0; omega, by show (0 : Int) ≤ 5; omega, fun _ => g2, rfl, id⟩, fun _ => by simp [needsT, o9]⟩
 rw [if_neg o9]
 by_cases o10 : t.op = 10
 ·rw [if_pos o10]
  exact ⟨⟨⟨hs.vars, hs.off, hs.used⟩, h0.le, h0.offl, h0.h0, h0.h5, fun _ => rfl, recS_some _, recS_ok⟩, fun _ => by simp [needsT, o10]⟩
 rw [if_neg o10]
 by_cases o11 : t.op = 11
 ·rw [if_pos o11]
  obtain ⟨k0, k1⟩ := known_op hk o11
  rw [paramsL_len] at k1
  have hne : needsT (paramsL p) t = atI (paramsL p) t.n := by simp [needsT, o11]
  have hb := atI_bnd hps t.n
  rw [hne] at hn ⊢
  have hc := hL.call t.n (pile.drop (pile.length - (atI (paramsL p) t.n).toNat)) none s.m k0 k1 (by rw [List.length_drop]; omega) hs.used
  dsimp only [Lev.cal]
  split
  ·rename_i h
   rw [h] at hc
   have := Ms.to_s hs hc
   refine ⟨⟨this.ok, this.le, this.offl, by show (0 : Int) ≤ 0; omega, by show (0 : Int) ≤ 5; omega, fun _ => hc.deep (by omega), rfl, id⟩, fun _ => ?_⟩
   simp only [List.length_append, List.length_take, List.length_cons, List.length_nil]
   omega
  ·rename_i h
   refine ⟨Ms.to_s hs hc, fun hz => ?_⟩
   have := hc.h1
   have hz' : (L.call t.n (pile.drop (pile.length - (atI (paramsL p) t.n).toNat)) none s.m).1 = 0 := hz
   omega
 rw [if_neg o11]
 have hop : 3 ≤ t.op ∧ t.op ≤ 8 := by
  unfold knownT at hk
  rw [if_neg o1, if_neg o2, if_neg o11] at hk
  simp only [Bool.and_eq_true, decide_eq_true_eq] at hk
  omega
 have hne : needsT (paramsL p) t = 2 := by simp [needsT, hop]
 split
 ·exact ⟨Sx.to.refl hs (e := 2) (by omega) (by omega), fun h => by simp at h⟩
 ·refine ⟨h0, fun _ => ?_⟩
  rw [hne] at hn ⊢
  simp only [List.length_append, List.length_take, List.length_cons, List.length_nil]
  omega
theorem exprS_ok (hL : LevOk p inp L) (hg : goodP p = true) {vs : Int} : ∀ {l : List Tok} {pile : List Int} {s : Sx} {mx : Int} {r : Int × Int}, s.ok p inp f → runE vs (paramsL p) l pile.length mx = some r →
  Sx.to p inp f (exprS L.cal (paramsL p) inp l pile s).1 s (exprS L.cal (paramsL p) inp l pile s).2.2
 | [], pile, s, mx, r, hs, _ => Sx.to.refl hs (by show (0 : Int) ≤ 0; omega) (by show (0 : Int) ≤ 5; omega)
 | t :: l, pile, s, mx, r, hs, hr => by
  rw [runE] at hr
  split at hr
  ·rename_i hc
   rw [Bool.and_eq_true, decide_eq_true_eq] at hc
   obtain ⟨h1, h2⟩ := tokX_ok hL hg hs hc.1 hc.2
   rw [exprS]
   split
   ·rename_i h0
    rw [← h2 h0] at hr
    exact h1.trans (exprS_ok hL hg h1.ok hr) (by omega)
   ·exact h1
  ·cases hr
theorem blockS_ok {st : Stmt → Sx → Int × Int × Sx} (hst : ∀ t, t ∈ f.stmts → ∀ s : Sx, s.ok p inp f → Sx.to p inp f (st t s).1 s (st t s).2.2) : ∀ {b : List Int} {s : Sx}, inF' f b → s.ok p inp f → Sx.to p inp f (blockS st f b s).1 s (blockS st f b s).2.2
 | [], s, _, hs => Sx.to.refl hs (by show (0 : Int) ≤ 0; omega) (by show (0 : Int) ≤ 5; omega)
 | k :: b, s, hb, hs => by
  have hk := hb k (by simp)
  have hm : stmtAt f k ∈ f.stmts := by rw [← stmtAt_at (by omega)]; exact List.getElem_mem _
  have h1 := hst _ hm s hs
  rw [blockS]
  split
  ·rename_i h0
   exact h1.trans (blockS_ok hst (fun x hx => hb x (by simp [hx])) h1.ok) (by omega)
  ·exact h1
theorem Sx.ok.burn {s : Sx} (h : s.ok p inp f) (hf : s.m.fuel ≠ 0) : Sx.to p inp f 0 s { s with m := burnM s.m } := by
 refine ⟨⟨h.vars, h.off, h.used⟩, ⟨?_, ?_, h.used⟩, ?_, by omega, by omega, fun _ => rfl, rfl, id⟩
 ·show s.m.fuel - 1 ≤ s.m.fuel; omega
 ·show s.m.trace.length + (s.m.fuel - 1) ≤ _; omega
 ·show s.off.length + (s.m.fuel - 1) ≤ _; omega
theorem shapeF_bds {f : Func} (h : shapeF f = true) : downB f.stmts.length (kids f.stmts) ∧ inB f.stmts.length 0 f.body ∧ ord f.stmts.length (kids f.stmts) f.body = upto f.stmts.length := by
 unfold shapeF at h
 simp only [Bool.and_eq_true] at h
 exact shapeB_iff.1 h.2.2.1
theorem kids_inF {f : Func} (hsh : shapeF f = true) {t : Stmt} (ht : t ∈ f.stmts) : inF' f t.thn ∧ inF' f t.els ∧ inF' f f.body := by
 obtain ⟨hd, hb, _⟩ := shapeF_bds hsh
 obtain ⟨i, hi, rfl⟩ := List.getElem_of_mem ht
 have h := hd i (by omega) (by omega)
 rw [kids_at (by omega)] at h
 exact ⟨fun x hx => ⟨by have := (h.1 x hx).1; omega, (h.1 x hx).2⟩, fun x hx => ⟨by have := (h.2 x hx).1; omega, (h.2 x hx).2⟩, fun x hx => hb x hx⟩
theorem body_inF {f : Func} (hsh : shapeF f = true) : inF' f f.body := fun x hx => (shapeF_bds hsh).2.1 x hx
theorem stmtG_run {vars : Int} {ps : List Int} {t : Stmt} (h : stmtG vars ps t = true) (h3 : t.kind ≠ 3) (h6 : t.kind ≠ 6) : ∃ m : Int, runE vars ps t.ex 0 0 = some (1, m) := by
 have hx : goodE vars ps t.ex = true := by
  rcases stmtG_ex h with h' | h'
  ·exfalso
   revert h
   grind [stmtG, stmtW, goodE, runE]
  ·exact h'
 unfold goodE at hx
 cases hr : runE vars ps t.ex 0 0 with
 | none => rw [hr] at hx; cases hx
 | some q =>
  obtain ⟨a, m⟩ := q
  rw [hr] at hx
  simp only [Bool.and_eq_true, decide_eq_true_eq] at hx
  exact ⟨m, by rw [hx.1]⟩
theorem stmtS_ok (hL : LevOk p inp L) (hg : goodP p = true) (hf : f ∈ p.funcs) {t : Stmt} (ht : t ∈ f.stmts) {s : Sx} (hs : s.ok p inp f) : Sx.to p inp f (stmtS L (paramsL p) inp f t s).1 s (stmtS L (paramsL p) inp f t s).2.2 := by
 obtain ⟨q, hq, rfl⟩ := List.getElem_of_mem hf
 have hgf := goodP_fn hg hq
 have hsh := goodF_shape hgf
 have hst : stmtG (p.funcs[q]).vars (paramsL p) t = true := by
  obtain ⟨i, hi, rfl⟩ := List.getElem_of_mem ht
  exact goodF_at hgf hi
 obtain ⟨hk1, hk2, _⟩ := kids_inF hsh ht
 unfold stmtS
 by_cases hz : s.m.fuel = 0
 ·rw [if_pos hz]
  exact Sx.to.refl hs (by show (0 : Int) ≤ 5; omega) (by show (5 : Int) ≤ 5; omega)
 rw [if_neg hz]
 have hb := hs.burn hz
 by_cases k3 : t.kind = 3
 ·rw [if_pos k3]
  obtain ⟨n0, n1, _⟩ := stmtG_def hst k3
  have hn : atI (paramsL p) t.n = 0 := by
   unfold stmtG at hst
   rw [if_pos k3, Bool.and_eq_true, decide_eq_true_eq] at hst
   exact hst.2
  rw [paramsL_len] at n1
  refine ⟨⟨hs.vars, fun x hx => ?_, hs.used⟩, hb.le, ?_, by show (0 : Int) ≤ 0; omega, by show (0 : Int) ≤ 5; omega, fun _ => rfl, rfl, id⟩
  ·rcases List.mem_append.1 hx with hx | hx
   ·exact hs.off x hx
   ·rw [List.mem_singleton] at hx
    subst hx
    exact ⟨n0, n1, hn⟩
  ·show (s.off ++ [t.n]).length + (s.m.fuel - 1) ≤ _
   simp only [List.length_append, List.length_cons, List.length_nil]
   omega
 rw [if_neg k3]
 by_cases k6 : t.kind = 6
 ·rw [if_pos k6]
  exact ⟨hb.ok, hb.le, hb.offl, by show (0 : Int) ≤ 3; omega, by show (3 : Int) ≤ 5; omega, fun _ => rfl, rfl, id⟩
 rw [if_neg k6]
 obtain ⟨mx, hr⟩ := stmtG_run hst k3 k6
 have he := exprS_ok hL hg (pile := []) hb.ok (l := t.ex) (mx := 0) (by simpa using hr)
 dsimp only
 generalize exprS L.cal (paramsL p) inp t.ex [] { s with m := burnM s.m } = r at he
 obtain ⟨h, v, s2⟩ := r
 dsimp only at he ⊢
 have h1 := hb.trans he (by omega)
 split
 ·rename_i hh
  subst hh
  unfold doS
  dsimp only
  have hok := he.ok
  split
  ·exact h1.trans ⟨⟨by rw [List.length_set]; exact hok.vars, hok.off, hok.used⟩, ⟨Nat.le_refl _, Nat.le_refl _, hok.used⟩, Nat.le_refl _, by show (0 : Int) ≤ 0; omega, by show (0 : Int) ≤ 5; omega, fun _ => rfl, rfl, id⟩ (by omega)
  split
  ·have hfu : s2.m.trace.length + 1 + s2.m.fuel ≤ s.m.trace.length + s.m.fuel := by
    have a1 : s2.m.trace.length + s2.m.fuel ≤ s.m.trace.length + (s.m.fuel - 1) := he.le.2.1
    omega
   refine ⟨⟨hok.vars, hok.off, hok.used⟩, ⟨h1.le.1, ?_, hok.used⟩, h1.offl, by show (0 : Int) ≤ 0; omega, by show (0 : Int) ≤ 5; omega, fun _ => h1.deep (by omega), h1.by', h1.byk⟩
   show (s2.m.trace ++ [v]).length + s2.m.fuel ≤ _
   simp only [List.length_append, List.length_cons, List.length_nil]
   omega
  split
  ·exact ⟨h1.ok, h1.le, h1.offl, by show (0 : Int) ≤ 2; omega, by show (2 : Int) ≤ 5; omega, fun _ => h1.deep (by omega), h1.by', h1.byk⟩
  split
  ·exact ⟨⟨hok.vars, hok.off, hok.used⟩, h1.le, h1.offl, by show (0 : Int) ≤ 1; omega, by show (1 : Int) ≤ 5; omega, fun _ => h1.deep (by omega), h1.by', h1.byk⟩
  split
  ·split
   ·exact h1.trans (blockS_ok (hL.stmt _ hf) hk1 hok) (by omega)
   ·exact h1.trans (blockS_ok (hL.stmt _ hf) hk2 hok) (by omega)
  split
  ·split
   ·exact h1
   ·have hbl := blockS_ok (hL.stmt _ hf) hk1 hok
    split
    ·rename_i h0
     exact h1.trans (hbl.trans (hL.stmt _ hf _ ht _ hbl.ok) (by omega)) (by omega)
    ·exact h1.trans hbl (by omega)
  ·exact h1
 ·exact h1
theorem offR_ok {cal : Int → Option By → Ms → Int × Int × Option By × Ms} (hc : ∀ (k : Int) (b : Option By) (m : Ms), 0 ≤ k → k < p.funcs.length → atI (paramsL p) k = 0 → m.used ≤ inp.length → Ms.to inp (cal k b m).1 b (cal k b m).2.2.1 m (cal k b m).2.2.2) :
  ∀ {l : List Int} {b : By} {m : Ms}, (∀ x, x ∈ l → 0 ≤ x ∧ x < p.funcs.length ∧ atI (paramsL p) x = 0) → m.used ≤ inp.length → 1 ≤ b.how → b.how < 4 →
   m.le inp (offR cal l b m).2.2 ∧ 0 ≤ (offR cal l b m).1 ∧ (offR cal l b m).1 ≤ 5 ∧ ((offR cal l b m).1 < 4 → (offR cal l b m).2.2.deep = m.deep ∧ 1 ≤ (offR cal l b m).2.1.how ∧ (offR cal l b m).2.1.how < 4)
 | [], b, m, _, hu, h1, h2 => ⟨⟨Nat.le_refl _, Nat.le_refl _, hu⟩, by show (0 : Int) ≤ 0; omega, by show (0 : Int) ≤ 5; omega, fun _ => ⟨rfl, h1, h2⟩⟩
 | k :: l, b, m, hl, hu, h1, h2 => by
  obtain ⟨q0, q1, q2⟩ := hl k (by simp)
  have hk := hc k (some b) m q0 q1 q2 hu
  rw [offR]
  have hb1 : ∃ b1, (cal k (some b) m).2.2.1 = some b1 := by
   have := hk.by'
   cases h : (cal k (some b) m).2.2.1 with
   | none => rw [h] at this; cases this
   | some b1 => exact ⟨b1, rfl⟩
  have hH1 := hk.h1
  split
  ·rename_i h4
   exact ⟨hk.le, by omega, hk.h5, fun h => by omega⟩
  ·rename_i h4
   split
   ·rename_i e1
    obtain ⟨b1, hb1⟩ := hb1
    have hbk := hk.byk (fun x hx => by cases hx; exact ⟨h1, h2⟩) b1 hb1
    rw [hb1]
    have ih := offR_ok hc (l := l) (b := b1) (m := (cal k (some b) m).2.2.2) (fun x hx => hl x (by simp [hx])) hk.le.2.2 hbk.1 hbk.2
    exact ⟨hk.le.trans ih.1, ih.2.1, ih.2.2.1, fun h => ⟨((ih.2.2.2 h).1).trans (hk.deep (by omega)), (ih.2.2.2 h).2⟩⟩
   ·rename_i e1
    have ih := offR_ok hc (l := l) (b := ⟨(cal k (some b) m).1, if (cal k (some b) m).1 = 2 then (cal k (some b) m).2.1 else ((cal k (some b) m).2.2.1.getD b).pan, ((cal k (some b) m).2.2.1.getD b).exd || decide ((cal k (some b) m).1 = 3)⟩) (m := (cal k (some b) m).2.2.2) (fun x hx => hl x (by simp [hx])) hk.le.2.2 hH1 (by show (cal k (some b) m).1 < 4; omega)
    exact ⟨hk.le.trans ih.1, ih.2.1, ih.2.2.1, fun h => ⟨((ih.2.2.2 h).1).trans (hk.deep (by omega)), (ih.2.2.2 h).2⟩⟩
theorem funcAt_memI {p : Prog} {n : Int} (h0 : 0 ≤ n) (h1 : n < p.funcs.length) : funcAt p n ∈ p.funcs := by rw [← funcAt_at (by omega)]; exact List.getElem_mem _
theorem funcAt_params {p : Prog} {n : Int} (h0 : 0 ≤ n) (h1 : n < p.funcs.length) : atI (paramsL p) n = (funcAt p n).params := by rw [paramsL_at h0 h1, ← funcAt_at (by omega)]
theorem good_vars {p : Prog} (hg : goodP p = true) {f : Func} (hf : f ∈ p.funcs) : 0 ≤ f.params ∧ f.params ≤ 2 ∧ f.params ≤ f.vars ∧ f.vars ≤ 6 ∧ shapeF f = true ∧ f.stmts.length ≤ 16 := by
 obtain ⟨q, hq, rfl⟩ := List.getElem_of_mem hf
 have hgf := goodP_fn hg hq
 have hsh := goodF_shape hgf
 have hl := goodF_len hgf
 have h := hsh
 unfold shapeF at h
 rw [Bool.and_eq_true] at h
 have h2 := h.1
 unfold okNum at h2
 simp only [Bool.and_eq_true, decide_eq_true_eq] at h2
 exact ⟨h2.1.1, h2.1.2, h2.2.1.1, h2.2.1.2, hsh, hl⟩
theorem setL_len {n : Nat} {args : List Int} (h : args.length ≤ n) : (setL n args).length = n := by simp [setL]; omega
theorem startS_ok {p : Prog} {inp : List Int} {f : Func} {args : List Int} {b : Option By} {m : Ms} (ha : args.length ≤ f.vars.toNat) (hu : m.used ≤ inp.length) : (startS f args b m).ok p inp f :=
 ⟨setL_len ha, (fun x hx => absurd hx List.not_mem_nil), hu⟩
theorem endS_ok {h v : Int} (h0 : 0 ≤ h) (h4 : h < 4) : 1 ≤ (endS h v).how ∧ (endS h v).how < 4 := by
 unfold endS
 dsimp only
 split <;> omega
theorem callS_ok (hL : LevOk p inp L) (hg : goodP p = true) {most : Nat} {fn : Int} {args : List Int} {b : Option By} {m : Ms} (h0 : 0 ≤ fn) (h1 : fn < p.funcs.length) (ha : args.length = (atI (paramsL p) fn).toNat) (hu : m.used ≤ inp.length) :
  Ms.to inp (callS L p most fn args b m).1 b (callS L p most fn args b m).2.2.1 m (callS L p most fn args b m).2.2.2 := by
 have hm := funcAt_memI h0 h1
 obtain ⟨g1, g2, g3, g4, hsh, g6⟩ := good_vars hg hm
 rw [funcAt_params h0 h1] at ha
 unfold callS
 by_cases hz : m.fuel = 0
 ·rw [if_pos hz]; exact ⟨⟨Nat.le_refl _, Nat.le_refl _, hu⟩, by show (1 : Int) ≤ 5; omega, by show (5 : Int) ≤ 5; omega, fun _ => rfl, rfl, id⟩
 rw [if_neg hz]
 by_cases hd : m.deep = most
 ·rw [if_pos hd]; exact ⟨⟨by show m.fuel - 1 ≤ m.fuel; omega, by show m.trace.length + (m.fuel - 1) ≤ _; omega, hu⟩, by show (1 : Int) ≤ 4; omega, by show (4 : Int) ≤ 5; omega, fun _ => rfl, rfl, id⟩
 rw [if_neg hd]
 dsimp only
 have hs := startS_ok (p := p) (inp := inp) (f := funcAt p fn) (args := args) (b := b) (m := m) (by omega) hu
 have hb := blockS_ok (hL.stmt _ hm) (body_inF hsh) hs
 generalize blockS (L.stmt (funcAt p fn)) (funcAt p fn) (funcAt p fn).body (startS (funcAt p fn) args b m) = r at hb
 obtain ⟨h, v, s1⟩ := r
 dsimp only at hb ⊢
 have e1 : s1.m.fuel ≤ m.fuel - 1 := hb.le.1
 have e2 : s1.m.trace.length + s1.m.fuel ≤ m.trace.length + (m.fuel - 1) := hb.le.2.1
 have hl1 : m.le inp s1.m := ⟨by omega, by omega, hb.le.2.2⟩
 have hh0 := hb.h0
 have hh5 := hb.h5
 split
 ·rename_i h4
  exact ⟨hl1, by show (1 : Int) ≤ h; omega, hb.h5, fun h => by omega, hb.by', hb.byk⟩
 ·rename_i h4
  have he := endS_ok (v := v) hb.h0 (by omega)
  have ho := offR_ok (p := p) (inp := inp) (cal := fun k b m => L.call k [] b m) (fun k b m k0 k1 k2 ku => hL.call k [] b m k0 k1 (by rw [k2]; rfl) ku) (l := s1.off.reverse) (b := endS h v) (m := s1.m) (fun x hx => hb.ok.off x (by simpa using hx)) hb.ok.used he.1 he.2
  generalize offR (fun k b m => L.call k [] b m) s1.off.reverse (endS h v) s1.m = q at ho
  obtain ⟨h2, b2, m2⟩ := q
  dsimp only at ho ⊢
  obtain ⟨o1, o2, o3, o4⟩ := ho
  split
  ·rename_i h5
   exact ⟨hl1.trans o1, by show (1 : Int) ≤ h2; omega, o3, fun h => by omega, hb.by', hb.byk⟩
  ·rename_i h5
   obtain ⟨p1, p2, p3⟩ := o4 (by omega)
   have hd1 : s1.m.deep = m.deep + 1 := hb.deep (by omega)
   refine ⟨⟨(hl1.trans o1).1, (hl1.trans o1).2.1, o1.2.2⟩, p2, by show b2.how ≤ 5; omega, fun _ => ?_, hb.by', hb.byk⟩
   show m2.deep - 1 = m.deep
   omega
theorem lev_ok {p : Prog} {inp : List Int} (hg : goodP p = true) (most : Nat) : ∀ n, LevOk p inp (lev p inp most n)
 | 0 => ⟨fun f _ t _ s hs => Sx.to.refl hs (by show (0 : Int) ≤ 5; omega) (by show (5 : Int) ≤ 5; omega), fun fn args b m _ _ _ hu => ⟨⟨Nat.le_refl _, Nat.le_refl _, hu⟩, by show (1 : Int) ≤ 5; omega, by show (5 : Int) ≤ 5; omega, fun _ => rfl, rfl, id⟩⟩
 | n + 1 => ⟨fun f hf t ht s hs => stmtS_ok (lev_ok hg most n) hg hf ht hs, fun fn args b m h0 h1 ha hu => callS_ok (lev_ok hg most n) hg h0 h1 ha hu⟩
end
open Go.Eng
def ptr (b : Nat) : Value := .pointer (some ⟨b, 0, none⟩)
def mS (pv iv : Value) (most : Int) (m : Ms) : List D := [.t (.v pv), .t (.v iv), .t (.int m.used), .t (.int m.fuel), .t (.int most), .own (T.ints m.trace)]
def byH : Option By → Int
 | none => 0
 | some b => b.how
def byV : Option By → Int
 | none => 0
 | some b => if b.how = 2 then b.pan else 0
def byB : Option By → Int
 | none => 0
 | some b => if b.exd then 3 else 1
def bS (b : Option By) : List D := [.t (.int (byH b)), .t (.int (byV b)), .t (.int (byB b))]
def cS (f : Func) (fbv fsv : Value) (vars off : List Int) (res dp : Int) (bb : Nat) : List D :=
 [.t (.int f.params), .t (.int f.vars), .t (.v fbv), .t (.v fsv), .own (T.ints vars), .own (T.ints off), .t (.int res), .t (.int dp), .t (.v (.pointer (some ⟨bb, 0, none⟩)))]
theorem retPB {b b' : Bool} (h : b = b') : tupD [D.t (T.v (Value.bool b))] = D.t (T.bool b') := by rw [h]; rfl
theorem retPI {b b' : Int} (h : b = b') : tupD [D.t (T.v (Value.int .i64 b))] = D.t (T.int b') := by rw [h]; rfl
theorem costS_fun (bm : Nat) (pv iv : Value) (most : Int) (m : Ms) (rv : List Value) (rt : List T) (hm : m.fuel ≤ 1048576) : Proc Tryz.prog 205 [.t (.v (.pointer (some ⟨bm, 0, none⟩)))] (rv) (rt) [.obox (.pointer (some ⟨bm, 0, none⟩)) (mS pv iv most m)] (.t (.bool (decide (m.fuel ≠ 0)))) [.obox (.pointer (some ⟨bm, 0, none⟩)) (mS pv iv most (burnM m))] := by
 refine Proc.intro tys Tryz.func205 Z Z (N := 15) [100] 99 ([(0, .t (.v (.pointer (some ⟨bm, 0, none⟩))))]) ([(100, .obox (.pointer (some ⟨bm, 0, none⟩)) (mS pv iv most m)), (99, .ro rv rt)]) Z Z Z Z (by decide) (by decide) Z (fun w0 G F0 => ?_)
 refine nY Z (W_le (Le.openNew (u := 100) 1100 Z Z Z Z Z) (nY Z (W_le (Le.named (t := 0) (u := 100) 1100 Z Z) (nY Z (sQ (rG (eZ Z (oN (tN (sQ (sQ (rG (eZ Z (WO_nil' rfl Z (lt_of Z) Z Z Z (eK 3 Z ?_)))))))))))))))
 refine oN (tN ?_)
 refine W_cond Z (fun h1 => ?_) (fun h1 => ?_)
 ·
  simp only [HS] at h1
  refine sQ (rG (eZ Z (oN (tN (W_le (Le.close (u := 100) 1100 Z Z Z) (nY Z (rT (tR ?_))))))))
  refine EndsP_of (ks := [_]) (.inr Z) (ret_okF Z) (by decide) Z (noR_spec Z) (by repeat (first | exact trivial | refine ⟨rfl, rfl, ?_⟩)) ?_ ?_
  ·exact retPB (by simp; omega)
  ·(have h : (m.fuel : Int) = 0 := (by assumption); simp only [mS, burnM, show m.fuel = 0 from by omega]; done)
 simp only [HS] at h1
 refine W_skip (tN (sQ (rG (eZ Z (WO_nil' rfl Z (lt_of Z) Z Z Z (eZ Z (kZ [2,8,10] Z (eZ Z (evI ?_)))))))))
 refine WO_nil' rfl Z (lt_of Z) Z Z Z (eZ Z (sT Z (nZ Z (oN (tN (sQ (rG (eZ Z (oN (tN (W_le (Le.close (u := 100) 1100 Z Z Z) (nY Z (rT ?_)))))))))))))
 refine EndsP_of (ks := [_]) (.inr Z) (ret_okF Z) (by decide) Z (noR_spec Z) (by repeat (first | exact trivial | refine ⟨rfl, rfl, ?_⟩)) ?_ ?_
 ·exact retPB (by simp; omega)
 ·(have h : (m.fuel : Int) - 1 = ((m.fuel - 1 : Nat) : Int) := (by omega); rw [h]; rfl)
theorem inputS_fun (bm : Nat) (pv iv : Value) (most : Int) (m : Ms) (inp : List Int) (xv : List Value) (xt : List T) (pt : T) (hm : m.used ≤ inp.length) (hi : inp.length ≤ 1048576) : Proc Tryz.prog 255 [.t (.v (.pointer (some ⟨bm, 0, none⟩)))] ((pv :: iv :: xv)) ((pt :: T.ints inp :: xt)) [.obox (.pointer (some ⟨bm, 0, none⟩)) (mS pv iv most m)] (.t (.int (inS inp m).1)) [.obox (.pointer (some ⟨bm, 0, none⟩)) (mS pv iv most (inS inp m).2)] := by
 refine Proc.intro tys Tryz.func255 Z Z (N := 31) [100] 99 ([(0, .t (.v (.pointer (some ⟨bm, 0, none⟩))))]) ([(100, .obox (.pointer (some ⟨bm, 0, none⟩)) (mS pv iv most m)), (99, .ro (pv :: iv :: xv) (pt :: T.ints inp :: xt))]) Z Z Z Z (by decide) (by decide) Z (fun w0 G F0 => ?_)
 refine nY Z (W_le (Le.openNew (u := 100) 1100 Z Z Z Z Z) (nY Z (W_le (Le.named (t := 0) (u := 100) 1100 Z Z) (nY Z (sQ (rG (eZ Z (oN (tN (sQ (sQ (W_regionD mixed (by kernel_rfl) (evQ ?_)))))))))))))
 refine QL_nil' rfl Z (lt_of Z) Z Z Z (evQ ?_)
 refine evQ ?_
 refine evQ ?_
 refine QL_norm Z (QL_nil' rfl Z (lt_of Z) Z Z Z (evQ ?_))
 refine QL_untell tys 99 1 Z Z (lt_of Z) Z Z Z Z (evEQ ?_)
 refine evQ ?_
 refine QL_nil (tN ?_)
 refine W_cond Z (fun h1 => ?_) (fun h1 => ?_)
 ·
  simp only [HS] at h1
  refine sQ (rG (eZ Z (oN (tN (W_le (Le.close (u := 100) 1100 Z Z Z) (nY Z (rT (tR ?_))))))))
  refine EndsP_of (ks := [_]) (.inr Z) (ret_okF Z) (by decide) Z (noR_spec Z) (by repeat (first | exact trivial | refine ⟨rfl, rfl, ?_⟩)) ?_ ?_
  ·exact retPI (by rw [inS, if_neg (by omega)])
  ·(rw [inS, if_neg (by omega)]; rfl)
 simp only [HS] at h1
 refine W_skip (tN (sQ (rG (eZ Z (WO_nil' rfl Z (lt_of Z) Z Z Z (eK 2 Z (kZ [0,2,13,16] Z (evI ?_))))))))
 refine WO_nil' rfl Z (lt_of Z) Z Z Z (eZ Z (sT Z (nZ Z (oN (tN (sQ (W_regionD mixed (by kernel_rfl) (evQ ?_))))))))
 refine QL_nil' rfl Z (lt_of Z) Z Z Z (QL_norm Z (evQ ?_))
 refine QL_untell tys 99 1 Z Z (lt_of Z) Z Z Z Z (evQ ?_)
 refine QL_nil' rfl Z (lt_of Z) Z Z Z (evQ ?_)
 refine evQ ?_
 refine QL_norm Z (evIQ ?_)
 refine QL_idxT tys Z Z (lt_of Z) Z Z Z Z Z Z Z (by omega) _ (getT _ _ (by omega) (by omega)) (evQ ?_)
 refine evQ ?_
 refine QL_nil (tN (W_le (Le.close (u := 100) 1100 Z Z Z) (nY Z (rT ?_))))
 refine EndsP_of (ks := [_]) (.inr Z) (ret_okF Z) (by decide) Z (noR_spec Z) (by repeat (first | exact trivial | refine ⟨rfl, rfl, ?_⟩)) ?_ ?_
 ·exact retPI (by rw [inS, if_pos (by omega), List.getElem?_eq_getElem (by omega)]; simp [show ((m.used : Int) + 1 - 1).toNat = m.used from by omega])
 ·(rw [inS, if_pos (by omega)]; rfl)
theorem recS_no {b : Option By} (h : ¬ byH b = 2) : recS b = (0, b) := by
 cases b with
 | none => rfl
 | some x => rw [recS]; exact if_neg h
theorem recS_yes {b : Option By} (h : byH b = 2) : (recS b).1 = byV b ∧ bS (recS b).2 = [.t (.int (byB b)), .t (.int 0), .t (.int (byB b))] := by
 cases b with
 | none => simp [byH] at h
 | some x =>
  have h' : x.how = 2 := h
  rw [recS, if_pos h']
  cases hx : x.exd <;> simp [bS, byH, byV, byB, hx, h']
theorem recoverS_fun (bb : Nat) (b : Option By) (rv : List Value) (rt : List T) : Proc Tryz.prog 256 [.t (.v (.pointer (some ⟨bb, 0, none⟩)))] (rv) (rt) [.obox (.pointer (some ⟨bb, 0, none⟩)) (bS b)] (.t (.int (recS b).1)) [.obox (.pointer (some ⟨bb, 0, none⟩)) (bS (recS b).2)] := by
 refine Proc.intro tys Tryz.func256 Z Z (N := 24) [100] 99 ([(0, .t (.v (.pointer (some ⟨bb, 0, none⟩))))]) ([(100, .obox (.pointer (some ⟨bb, 0, none⟩)) (bS b)), (99, .ro rv rt)]) Z Z Z Z (by decide) (by decide) Z (fun w0 G F0 => ?_)
 refine nY Z (W_le (Le.openNew (u := 100) 1100 Z Z Z Z Z) (nY Z (W_le (Le.named (t := 0) (u := 100) 1100 Z Z) (nY Z (sQ (rG (eZ Z (oN (tN (sQ (sQ (rG (eZ Z (WO_nil' rfl Z (lt_of Z) Z Z Z (eK 4 Z ?_)))))))))))))))
 refine oN (tN ?_)
 refine W_cond Z (fun h1 => ?_) (fun h1 => ?_)
 ·
  simp only [HS] at h1
  refine sQ (kY [0,2] Z (rG (eZ Z (oN (tN (W_le (Le.close (u := 100) 1100 Z Z Z) (nY Z (rT (tR ?_)))))))))
  refine EndsP_of (ks := [_]) (.inr Z) (ret_okF Z) (by decide) Z (noR_spec Z) (by repeat (first | exact trivial | refine ⟨rfl, rfl, ?_⟩)) ?_ ?_
  ·exact retPI (by rw [recS_no (by assumption)])
  ·(rw [recS_no (by assumption)]; rfl)
 simp only [HS] at h1
 refine W_skip (tN (sQ (kY [0,2] Z (rG (eZ Z (WO_nil' rfl Z (lt_of Z) Z Z Z (eK 4 Z (oN (tN (sQ (rG (eK 2 Z (WO_nil' rfl Z (lt_of Z) Z Z Z (kZ [2,3,15,17] Z (eK 2 Z ?_)))))))))))))))
 refine WO_struct tys Z Z (lt_of Z) Z Z Z (by kernel_rfl) Z Z Z Z Z Z (WO_nil' rfl Z (lt_of Z) Z Z Z (eZ Z (sT Z (nZ Z (oN (tN (sQ (rG (eK 2 Z (oN (tN (W_le (Le.close (u := 100) 1100 Z Z Z) (nY Z (rT ?_))))))))))))))
 refine EndsP_of (ks := [_]) (.inr Z) (ret_okF Z) (by decide) Z (noR_spec Z) (by repeat (first | exact trivial | refine ⟨rfl, rfl, ?_⟩)) ?_ ?_
 ·exact retPI (by rw [(recS_yes (by assumption)).1])
 ·(have hq := (recS_yes (b := b) (by assumption)).2; rw [hq])
theorem l2Wrap_fun (n : Int) : Fun Tryz.prog 203 [.t (.int n)] (tupD [.t (.int (w32 n))]) := by
 refine Fun.begin tys Tryz.func203 Z Z (N := 6) [(0, .t (.int n))] Z Z (fun w0 G F0 => ?_)
 refine sQ (rG (eZ Z (oN (tN (sQ (rG (eZ Z (WO_conv (td := .int .i64) (k := .i32) Z Z (lt_of Z) Z (by kernel_rfl) (by kernel_rfl) Z (WO_conv (td := .int .i32) (k := .i64) Z Z (lt_of Z) Z (by kernel_rfl) (by kernel_rfl) Z (eZ Z (oN (tN (rT (eR ?_))))))))))))))
 ·rfl
def reckV (op x y : Int) : Int := (reckS op x y).getD 0
theorem retII {a a' : Int} {b b' : Bool} (h : a = a') (h' : b = b') : [D.t (T.v (Value.int .i64 a)), D.t (T.v (Value.bool b))] = [D.t (T.int a'), D.t (T.bool b')] := by rw [h, h']
theorem l2Reckon_fun (op x y : Int) : Fun Tryz.prog 162 [.t (.int op), .t (.int x), .t (.int y)] (tupD [.t (.int (reckV op x y)), .t (.bool (reckS op x y).isSome)]) := by
 refine Fun.begin tys Tryz.func162 Z Z (N := 45) [(0, .t (.int op)), (1, .t (.int x)), (2, .t (.int y))] Z Z (fun w0 G F0 => ?_)
 refine sQ (rG (eK 2 Z (oN (tN (sQ (rG (eZ Z (oN (tN (sQ (sQ (rG (eZ Z (oN (tN ?_)))))))))))))))
 refine W_block (sQ (rG (eK 2 Z (oN (tN ?_)))))
 refine W_cond Z (fun h1 => ?_) (fun h1 => ?_)
 ·
  simp only [HS] at h1
  refine sQ (rG (eK 3 Z (kZ [6,7,8,17] Z (callB ?_))))
  refine ⟨_, l2Wrap_fun _, rfl, ?_⟩
  refine eK 2 Z (oN (tN (rT (bR (tR (eR ?_))))))
  ·exact retII (by grind [reckV, reckS, w64]) (by grind [reckS])
 simp only [HS] at h1
 refine sQ (rG (eK 2 Z (oN (tN ?_))))
 refine W_cond Z (fun h2 => ?_) (fun h2 => ?_)
 ·
  simp only [HS] at h2
  refine sQ (kY [1,2,6,7,8] Z (rG (eK 3 Z (callB ?_))))
  refine ⟨_, l2Wrap_fun _, rfl, ?_⟩
  refine eK 2 Z (oN (tN (rT (bR (tR (eR ?_))))))
  ·exact retII (by grind [reckV, reckS, w64]) (by grind [reckS])
 simp only [HS] at h2
 refine sQ (kY [1,2,6,7,8,9] Z (rG (eK 2 Z (oN (tN ?_)))))
 refine W_cond Z (fun h3 => ?_) (fun h3 => ?_)
 ·
  simp only [HS] at h3
  refine sQ (rG (eK 3 Z (callB ?_)))
  refine ⟨_, l2Wrap_fun _, rfl, ?_⟩
  refine eK 2 Z (oN (tN (rT (bR (tR (eR ?_))))))
  ·exact retII (by grind [reckV, reckS, w64]) (by grind [reckS])
 simp only [HS] at h3
 refine sQ (rG (eK 2 Z (oN (tN ?_))))
 refine W_cond Z (fun h4 => ?_) (fun h4 => ?_)
 ·
  simp only [HS] at h4
  refine sQ (sQ (rG (eK 2 Z (oN (tN ?_)))))
  refine W_cond Z (fun h5 => ?_) (fun h5 => ?_)
  ·
   simp only [HS] at h5
   refine sQ (rG (eK 2 Z (oN (tN (rT (tR (bR (tR (eR ?_)))))))))
   ·exact retII (by grind [reckV, reckS, w64]) (by grind [reckS])
  simp only [HS] at h5
  refine W_skip (tN (sQ (rG (eK 2 Z (WO_quo Z Z (lt_of Z) Z Z Z (by first | decide | omega) ?_)))))
  refine kZ [6,7,8,37] Z (callB ?_)
  refine ⟨_, l2Wrap_fun _, rfl, ?_⟩
  refine eK 2 Z (oN (tN (rT (bR (tR (eR ?_))))))
  ·exact retII (by grind [reckV, reckS, w64]) (by grind [reckS])
 simp only [HS] at h4
 refine sQ (rG (eK 2 Z (oN (tN ?_))))
 refine W_cond Z (fun h5 => ?_) (fun h5 => ?_)
 ·
  simp only [HS] at h5
  refine rG (eK 3 Z (kZ [6,7,8,43] Z (eZ Z (oN (bN (tN (sQ (sQ (rG (eZ Z (oN (tN ?_))))))))))))
  refine W_cond Z (fun h6 => ?_) (fun h6 => ?_)
  ·
   simp only [HS] at h6
   refine sQ (rG (eK 2 Z (oN (tN (rT (tR (eR ?_)))))))
   ·exact retII (by grind [reckV, reckS, w64]) (by grind [reckS])
  simp only [HS] at h6
  refine W_skip (tN (sQ (rG (eK 2 Z (oN (tN (rT (eR ?_))))))))
  ·exact retII (by grind [reckV, reckS, w64]) (by grind [reckS])
 simp only [HS] at h5
 refine rG (eK 3 Z (kZ [6,7,8,12] Z (eZ Z (oN (bN (tN (sQ (sQ (rG (eZ Z (oN (tN ?_))))))))))))
 refine W_cond Z (fun h6 => ?_) (fun h6 => ?_)
 ·
  simp only [HS] at h6
  refine sQ (rG (eK 2 Z (oN (tN (rT (tR (eR ?_)))))))
  ·exact retII (by grind [reckV, reckS, w64]) (by grind [reckS])
 simp only [HS] at h6
 refine W_skip (tN (sQ (rG (eK 2 Z (oN (tN (rT (eR ?_))))))))
 ·exact retII (by grind [reckV, reckS, w64]) (by grind [reckS])
open Go.Eng
theorem l1Own_fun (l : List Int) (hl : l.length ≤ 1073741824) : Fun Tryz.prog 91 [.t (T.ints l)] (tupD [.own (T.ints l)]) := by
 refine Fun.begin tys Tryz.func91 Z Z (N := 6) [(0, .t (T.ints l))] Z Z (fun w0 G F0 => ?_)
 refine sQ (rG (eZ Z (oN (tN (sQ (rG ?_))))))
 refine WO_buildSlice tys [] Z Z (lt_of Z) Z Z Z Z Z (by decide) (by repeat (first | exact PartsOk.nil' | refine PartsOk.cons' rfl (by repeat (first | exact AbsL.nil' | refine AbsL.v' ?_ | refine AbsL.own' ?_ | refine AbsL.none' ?_)) Z ?_)) (by first | exact List.nodup_nil | exact nodup1 _ | decide | exact nodupB_sound Z) Z (by decide) ?_
 refine nZ Z (eZ Z (WO_append tys Z Z (lt_of Z) Z Z Z Z Z (.own Z (by first | omega | (simp only [List.length_append]; omega))) Z (.read (readI l)) (by decide) (by simp; omega) (by decide) Z ?_))
 refine nZ Z (eZ Z (oN (tN (W_le (Le.gather (u := 2) (id := 3) Z Z (by simp)) ?_))))
 refine rT (eR ?_)
 ·(simp only [take_app, List.take_length, List.nil_append, List.length_nil, Nat.zero_add, List.take_nil]; rfl)
open Go.Eng
theorem cloneI_fun (l : List Int) (hl : l.length ≤ 1073741824) : Fun Tryz.prog 93 [.t (T.ints l)] (tupD [.own (T.ints l)]) := by
 refine Fun.begin tys Tryz.func93 Z Z (N := 8) [(0, .t (T.ints l))] Z Z (fun w0 G F0 => ?_)
 refine sQ (rG (eZ Z (oN (tN (sQ (sQ (rG (eZ Z ?_))))))))
 refine WO_nilEq (e := 3) Z Z (lt_of Z) Z (by kernel_rfl) Z Z (fun b hb => ?_)
 refine oN (tN ?_)
 refine W_cond Z (fun h1 => ?_) (fun h1 => ?_)
 ·
  refine sQ (rG (eZ Z (oN (tN (W_le (Le.nilOwn (u := 2) 1 Z) (rT (tR (eR ?_))))))))
  ·have e := List.map_eq_nil_iff.1 (hb h1)
   rw [e]
   rfl
 refine W_skip (tN (sQ (rG ?_)))
 refine WO_buildSlice tys [] Z Z (lt_of Z) Z Z Z Z Z (by decide) (by repeat (first | exact PartsOk.nil' | refine PartsOk.cons' rfl (by repeat (first | exact AbsL.nil' | refine AbsL.v' ?_ | refine AbsL.own' ?_ | refine AbsL.none' ?_)) Z ?_)) (by first | exact List.nodup_nil | exact nodup1 _ | decide | exact nodupB_sound Z) Z (by decide) ?_
 refine nZ Z (eZ Z (WO_append tys Z Z (lt_of Z) Z Z Z Z Z (.own Z (by first | omega | (simp only [List.length_append]; omega))) Z (.read (readI _)) (by decide) (by simp; omega) (by decide) Z ?_))
 refine nZ Z (eZ Z (oN (tN (W_le (Le.gather (u := 2) (id := 5) Z Z (by simp)) ?_))))
 refine rT (eR ?_)
 ·show [D.own (.list 1 _)] = [D.own (.list 1 _)]
  simp only [List.take_length, List.nil_append, List.length_map]
  rw [List.take_of_length_le (by simp)]
theorem readTok (l : List Tok) : ∀ x, x ∈ l.map Tok.tt → (T.cells x).length = 2 ∧ ∀ y, y ∈ T.cells x → ∃ v, y = .v v := by
 intro x hx
 obtain ⟨t, _, rfl⟩ := List.mem_map.1 hx
 refine ⟨rfl, fun y hy => ?_⟩
 have : T.cells (Tok.tt t) = [T.int t.op, T.int t.n] := rfl
 rw [this] at hy
 rcases List.mem_cons.1 hy with rfl | hy
 ·exact ⟨_, rfl⟩
 ·rw [List.mem_singleton] at hy; exact ⟨_, hy⟩
theorem cloneTok_fun (l : List Tok) (hl : l.length ≤ 1073741824) : Fun Tryz.prog 94 [.t (T.Toks l)] (tupD [.own (T.Toks l)]) := by
 refine Fun.begin tys Tryz.func94 Z Z (N := 8) [(0, .t (T.Toks l))] Z Z (fun w0 G F0 => ?_)
 refine sQ (rG (eZ Z (oN (tN (sQ (sQ (rG (eZ Z ?_))))))))
 refine WO_nilEq (e := 141) Z Z (lt_of Z) Z (by kernel_rfl) Z Z (fun b hb => ?_)
 refine oN (tN ?_)
 refine W_cond Z (fun h1 => ?_) (fun h1 => ?_)
 ·
  refine sQ (rG (eZ Z (oN (tN (W_le (Le.nilOwn (u := 2) 2 Z) (rT (tR (eR ?_))))))))
  ·have e := List.map_eq_nil_iff.1 (hb h1)
   rw [e]
   rfl
 refine W_skip (tN (sQ (rG ?_)))
 refine WO_buildSlice tys [] Z Z (lt_of Z) Z Z Z Z Z (by decide) (by repeat (first | exact PartsOk.nil' | refine PartsOk.cons' rfl (by repeat (first | exact AbsL.nil' | refine AbsL.v' ?_ | refine AbsL.own' ?_ | refine AbsL.none' ?_)) Z ?_)) (by first | exact List.nodup_nil | exact nodup1 _ | decide | exact nodupB_sound Z) Z (by decide) ?_
 refine nZ Z (eZ Z (WO_append tys Z Z (lt_of Z) Z Z Z Z Z (.own Z (by first | omega | (simp only [List.length_append]; omega))) Z (.read (readTok _)) (by decide) (by simp; omega) (by decide) Z ?_))
 refine nZ Z (eZ Z (oN (tN (W_le (Le.gather (u := 2) (id := 5) Z Z (by simp)) ?_))))
 refine rT (eR ?_)
 ·show [D.own (.list 2 _)] = [D.own (.list 2 _)]
  simp only [List.take_length, List.nil_append, List.length_map]
  rw [List.take_of_length_le (by simp)]
theorem cloneProg_fun (p : Prog) (hp : p.ok 1048576) : Fun Tryz.prog 52 [.t p.tt] (tupD [.agg [.own (T.Funcs p.funcs)]]) := by
  have hpl : p.funcs.length ≤ 1048576 := hp.1.1
  refine Fun.begin tys Tryz.func52 Z Z (N := 59) [(0, .t p.tt)] Z Z (fun w0 G F0 => ?_)
  refine sQ (rG (WO_box Z Z (lt_of Z) Z Z (nZ Z (WO_alloc tys Z Z (lt_of Z) Z Z Z (nZ Z (oN (tN (sQ (rG (WO_alloc tys Z Z (lt_of Z) Z Z Z (nZ Z (oN (tN (sQ (sQ ?_)))))))))))))))
  refine rG (nZ Z (WO_le (Le.nilBox (u := 3) (j := 0) 4 Z Z) (nZ Z (WO_le (Le.adoptBox (u := 3) (j := 0) (id := 190) Z Z Z) (nZ Z (eK 2 Z (evE ?_)))))))
  refine eZ Z (oN (tN (W_block ?_)))
  refine lK (α := Int × Nat × List T) [2, 3, 10, 11] [2] (fun x => [(12, .t (.int (x.1)))]) (fun x => [(3, .box [.sl 190 0 (x.2.1)]), (190, .L 4 (x.2.2))]) (fun x => 0 ≤ (x.1) ∧ (x.1) ≤ p.funcs.length ∧ (x.2.1) = (x.2.2).length ∧ (x.2.2) = (p.funcs.take (x.1).toNat).map Func.tt) (fun x => Int.toNat (p.funcs.length - (x.1))) (0, 0, []) ?_ (fun x hx => ?_)
  · exact ⟨by omega, by omega, rfl, rfl⟩
  obtain ⟨k, m, xs⟩ := x
  obtain ⟨hk0, hk1, hm, hxs⟩ := hx
  dsimp only at hk0 hk1 hm hxs ⊢
  refine nY Z (sQ (rG (eZ Z (oN (tN (sQ ?_))))))
  refine W_cond Z (fun h1 => ?_) (fun h1 => ?_)
  ·
    simp only [HS] at h1
    refine W_skip (tN (sQ (W_block (sQ (rG (WO_idxT tys Z Z (lt_of Z) Z Z Z Z Z Z Z (by omega) _ (getT _ _ (by omega) (by omega)) ?_))))))
    have hf := func_ok hp (n := k.toNat) (by omega)
    have hl : (p.funcs[k.toNat]'(by omega)).stmts.length ≤ 1048576 := hf.2.1.1
    have hbl : (p.funcs[k.toNat]'(by omega)).body.length ≤ 1048576 := hf.1
    refine eZ Z ?_
    try refine WO_le (Le.freeze (u := 15) rfl) ?_
    refine nZ Z (WO_alloc tys Z Z (lt_of Z) Z Z Z (nZ Z (sT Z (nZ Z (oN (tN (sQ (W_regionGm 9 mixed Z (by kernel_rfl) (by kernel_rfl) (QG_ev tys Z Z (lt_of Z) Z (QG_norm Z ?_))))))))))
    iterate 5 (refine QG_ev tys rfl rfl (lt_of rfl) rfl ?_)
    refine callBG ?_
    refine ⟨_, cloneI_fun _ (by omega), rfl, ?_⟩
    refine QG_norm Z (QG_struct tys Z Z (lt_of Z) Z Z Z (by kernel_rfl) Z Z Z Z Z Z (QG_alloc tys Z Z (lt_of Z) Z Z Z Z (QG_nil ?_)))
    refine ⟨by kernel_rfl, ?_⟩
    refine nZ Z (sT Z (nZ Z (oN (tN (sQ (sQ (rG (nZ Z (WO_le (Le.nilBox (u := 6) (j := 3) 5 Z Z) (nZ Z (WO_le (Le.adoptBox (u := 6) (j := 3) (id := 180) Z Z Z) (nZ Z (eK 2 Z (evE ?_))))))))))))))
    refine eZ Z (oN (tN (W_block ?_)))
    refine lK (α := Int × Nat × List T) [2, 3, 6, 10, 11, 12, 25, 26] [2, 3, 190] (fun x => [(27, .t (.int (x.1)))]) (fun x => [(6, .box [.t (T.int (p.funcs[k.toNat]'(by omega)).params), .t (T.int (p.funcs[k.toNat]'(by omega)).vars), .own (T.ints (p.funcs[k.toNat]'(by omega)).body), .sl 180 0 (x.2.1)]), (180, .L 5 (x.2.2))]) (fun x => 0 ≤ (x.1) ∧ (x.1) ≤ (p.funcs[k.toNat]'(by omega)).stmts.length ∧ (x.2.1) = (x.2.2).length ∧ (x.2.2) = ((p.funcs[k.toNat]'(by omega)).stmts.take (x.1).toNat).map Stmt.tt) (fun x => Int.toNat ((p.funcs[k.toNat]'(by omega)).stmts.length - (x.1))) (0, 0, []) ?_ (fun x hx => ?_)
    · exact ⟨by omega, by omega, rfl, rfl⟩
    obtain ⟨j, m2, ys⟩ := x
    obtain ⟨hj0, hj1, hm2, hys⟩ := hx
    dsimp only at hj0 hj1 hm2 hys ⊢
    refine nY Z (sQ (rG (eZ Z (oN (tN (sQ ?_))))))
    refine W_cond Z (fun h2 => ?_) (fun h2 => ?_)
    ·
      simp only [HS] at h2
      refine W_skip (tN (sQ (W_block (sQ (rG (WO_idxT tys Z Z (lt_of Z) Z Z Z Z Z Z Z (by omega) _ (getT _ _ (by omega) (by omega)) ?_))))))
      have hso := stmt_ok hf (n := j.toNat) (by omega)
      refine eZ Z ?_
      try refine WO_le (Le.freeze (u := 30) rfl) ?_
      refine nZ Z (WO_alloc tys Z Z (lt_of Z) Z Z Z (nZ Z (sT Z (nZ Z (oN (tN (W_regionGm 17 mixed Z (by kernel_rfl) (by kernel_rfl) (QG_ev tys Z Z (lt_of Z) Z (QG_norm Z ?_)))))))))
      iterate 6 (refine QG_ev tys rfl rfl (lt_of rfl) rfl ?_)
      refine QG_norm Z (QG_ev tys Z Z (lt_of Z) Z (callBG ?_))
      refine ⟨_, cloneTok_fun _ (by omega), rfl, ?_⟩
      refine QG_ev tys Z Z (lt_of Z) Z (QG_ev tys Z Z (lt_of Z) Z (callBG ?_))
      refine ⟨_, cloneI_fun _ (by omega), rfl, ?_⟩
      refine QG_ev tys Z Z (lt_of Z) Z (QG_norm Z (QG_ev tys Z Z (lt_of Z) Z (callBG ?_)))
      refine ⟨_, cloneI_fun _ (by omega), rfl, ?_⟩
      refine QG_struct tys Z Z (lt_of Z) Z Z Z (by kernel_rfl) Z Z Z Z Z Z ?_
      refine QG_buildS tys [(((p.funcs[k.toNat]'(by omega)).stmts)[j.toNat]'(by omega)).tt] Z Z (lt_of Z) Z Z Z Z Z (lt_of Z) (by repeat (first | exact PartsOk.nil' | refine PartsOk.cons' rfl (by repeat (first | exact AbsL.nil' | refine AbsL.v' ?_ | refine AbsL.own' ?_ | refine AbsL.none' ?_)) Z ?_)) Z Z Z (by decide) ?_
      refine QG_nil ?_
      refine ⟨by kernel_rfl, ?_⟩
      refine nZ Z (WO_le (Le.adoptE (u := 47) 47 Z Z) (nZ Z (WO_append tys Z Z (lt_of Z) Z Z Z Z Z (.own Z (by first | omega | (simp only [List.length_append]; omega))) Z (.own Z (by first | decide | omega)) (by decide) (by simp only [List.length_take, List.length_cons, List.length_nil]; rw [hys, List.length_map, List.length_take]; omega) (by decide) Z ?_)))
      refine nZ Z (eZ Z (sT Z (nZ Z (oN (bN (tN (rG (evI ?_))))))))
      refine eZ Z (oN ?_)
      refine lQ (_, _, _) ?_ ?_
      · dsimp only
        subst hm2
        refine ⟨by omega, by omega, by simp, ?_⟩
        rw [List.take_length, hys, take_at hj0 (by omega), List.map_append]
        all_goals rfl
      · (show Int.toNat _ < Int.toNat _); omega
    simp only [HS] at h2
    refine W_exit (tE (loopQ_e (inBlk_y (tN (rG (eK 2 Z (nZ Z (WO_le (Le.gatherBox (u := 6) (j := 3) (id := 180) Z Z Z (by omega) Z) (nZ Z (WO_loadMove tys Z Z (lt_of Z) Z Z Z Z Z Z (nZ Z ?_)))))))))))
    refine WO_buildSlice tys [.agg [T.int (p.funcs[k.toNat]'(by omega)).params, T.int (p.funcs[k.toNat]'(by omega)).vars, T.ints (p.funcs[k.toNat]'(by omega)).body, .list 5 (ys.take m2)]] Z Z (lt_of Z) Z Z Z Z Z (lt_of Z) (by repeat (first | exact PartsOk.nil' | refine PartsOk.cons' rfl (by repeat (first | exact AbsL.nil' | refine AbsL.v' ?_ | refine AbsL.own' ?_ | refine AbsL.none' ?_)) Z ?_)) (by first | exact List.nodup_nil | exact nodup1 _ | decide | exact nodupB_sound Z) Z (by decide) ?_
    refine nZ Z (WO_append tys Z Z (lt_of Z) Z Z Z Z Z (.own Z (by first | omega | (simp only [List.length_append]; omega))) Z (.own Z (by first | decide | omega)) (by decide) (by simp only [List.length_take, List.length_cons, List.length_nil]; rw [hxs, List.length_map, List.length_take]; omega) (by decide) Z ?_)
    refine nZ Z (eZ Z (sT Z (nZ Z (oN (bN (tN (kY [2,3,6,10,11,12,25,26,27,28,51,52,53,54,55,56] Z (rG (evI ?_)))))))))
    refine eZ Z (oN ?_)
    refine lQ (_, _, _) ?_ ?_
    · dsimp only
      have e : (p.funcs[k.toNat]'(by omega)).tt = .agg [T.int (p.funcs[k.toNat]'(by omega)).params, T.int (p.funcs[k.toNat]'(by omega)).vars, T.ints (p.funcs[k.toNat]'(by omega)).body, .list 5 (ys.take m2)] := by
       rw [hm2, List.take_length, hys, take_end (l := (p.funcs[k.toNat]'(by omega)).stmts) (k := j) (by omega)]
       all_goals rfl
      subst hm
      refine ⟨by omega, by omega, by simp, ?_⟩
      rw [List.take_length, hxs, take_at hk0 (by omega), List.map_append, List.map_cons, List.map_nil, e]
      all_goals rfl
    · (show Int.toNat _ < Int.toNat _); omega
  simp only [HS] at h1
  refine W_exit (tE (loopQ_e (inBlk_y (tN (sQ (rG (nZ Z (WO_le (Le.gatherBox (u := 3) (j := 0) (id := 190) Z Z Z (by omega) Z) (nZ Z (WO_loadMove tys Z Z (lt_of Z) Z Z Z Z Z Z (nZ Z (sT Z (nZ Z (oN (tN ?_)))))))))))))))
  refine rT (eR ?_)
  · rw [hm, List.take_length, hxs, take_end (by omega)]
    all_goals rfl
open Go.Eng
def run (m : Int) (g : Nat) : List Int := (List.range g).map fun i : Nat => m + i
theorem run_len (m : Int) (g : Nat) : (run m g).length = g := by simp [run]
theorem run_succ (m : Int) (g : Nat) : run m (g + 1) = run m g ++ [m + g] := by simp [run, List.range_succ]
theorem mem_run {m x : Int} {g : Nat} : x ∈ run m g ↔ m ≤ x ∧ x < m + g := by
 simp only [run, List.mem_map, List.mem_range]
 constructor
 ·rintro ⟨i, hi, rfl⟩; omega
 ·intro h; exact ⟨(x - m).toNat, by omega, by omega⟩
theorem run_rise (m : Int) (g : Nat) : (run m g).Pairwise (· < ·) := by
 induction g with
 | zero => simp [run]
 | succ g ih =>
  rw [run_succ, List.pairwise_append]
  refine ⟨ih, by simp, fun a ha b hb => ?_⟩
  rw [List.mem_singleton] at hb
  subst hb
  exact (mem_run.1 ha).2
theorem run_add (m : Int) (g h : Nat) : run m (g + h) = run m g ++ run (m + g) h := by
 induction h with
 | zero => simp [run]
 | succ h ih => rw [← Nat.add_assoc, run_succ, ih, run_succ, List.append_assoc]; congr 3; simp; omega
theorem run_cut {m : Int} {g : Nat} {a b : List Int} (h : run m g = a ++ b) : a = run m a.length ∧ b = run (m + a.length) b.length := by
 have hl := congrArg List.length h
 rw [run_len, List.length_append] at hl
 rw [hl, run_add] at h
 exact ⟨(List.append_inj_left h (by rw [run_len])).symm, (List.append_inj_right h (by rw [run_len])).symm⟩
theorem upto_run (N : Nat) : upto N = run 0 N := by simp [upto, run]
theorem put_run (m : Int) (g : Nat) : put (run m g) (m + g) = run m (g + 1) := by
 have h : ∀ x, x ∈ run m g → decide (x < m + (g : Int)) = true := fun x hx => decide_eq_true (mem_run.1 hx).2
 rw [put, if_neg (fun h => by have := (mem_run.1 h).2; omega), run_succ]
 congr 1
 ·have : ∀ l : List Int, (∀ x, x ∈ l → decide (x < m + (g : Int)) = true) → l.takeWhile (fun x => decide (x < m + (g : Int))) = l := by
   intro l hl
   induction l with
   | nil => rfl
   | cons y l ih => rw [List.takeWhile_cons, if_pos (hl y (by simp)), ih fun x hx => hl x (by simp [hx])]
  exact this _ h
 ·have : ∀ l : List Int, (∀ x, x ∈ l → decide (x < m + (g : Int)) = true) → l.dropWhile (fun x => decide (x < m + (g : Int))) = [] := by
   intro l hl
   induction l with
   | nil => rfl
   | cons y l ih => rw [List.dropWhile_cons, if_pos (hl y (by simp)), ih fun x hx => hl x (by simp [hx])]
  rw [this _ h]
theorem ord_app {N : Int} {kids : Int → List Int × List Int} (hd : downB N kids) : ∀ {a b : List Int}, inB N 0 (a ++ b) → ord N kids (a ++ b) = ord N kids a ++ ord N kids b
 | [], b, _ => by rw [ord_nil]; rfl
 | x :: a, b, h => by
  rw [List.cons_append] at h ⊢
  rw [ord_cons hd h, ord_cons hd (fun y hy => h y (by
   rcases List.mem_cons.1 hy with rfl | hy
   ·exact List.mem_cons_self ..
   ·exact List.mem_cons_of_mem _ (List.mem_append_left _ hy))), ord_app hd (a := a) (fun y hy => h y (List.mem_cons_of_mem _ hy))]
  simp
theorem ord_part {N : Int} {kids : Int → List Int × List Int} (hd : downB N kids) {b : List Int} (hb : inB N 0 b) (m : Int) (hm : m ∈ ord N kids b) : ∃ l r, ord N kids b = l ++ ord N kids [m] ++ r :=
 ord_ind' hd (p := fun b o => m ∈ o → ∃ l r, o = l ++ ord N kids [m] ++ r) (fun h => by cases h) (fun n b h1 h2 _ i1 i2 i3 hm => by
  simp only [List.cons_append, List.mem_cons, List.mem_append] at hm ⊢
  rcases hm with rfl | (hm | hm) | hm
  ·refine ⟨[], ord N kids b, ?_⟩
   rw [ord_cons hd (by intro x hx; rw [List.mem_singleton] at hx; subst hx; exact ⟨h1, h2⟩), ord_nil]
   simp
  ·obtain ⟨l, r, e⟩ := i1 hm; exact ⟨n :: l, r ++ (ord N kids (kids n).2 ++ ord N kids b), by rw [e]; simp⟩
  ·obtain ⟨l, r, e⟩ := i2 hm; exact ⟨n :: (ord N kids (kids n).1 ++ l), r ++ ord N kids b, by rw [e]; simp⟩
  ·obtain ⟨l, r, e⟩ := i3 hm; exact ⟨n :: (ord N kids (kids n).1 ++ (ord N kids (kids n).2 ++ l)), r, by rw [e]; simp⟩) hb hm
theorem shapeF_iff {f : Func} (h : shapeF f = true) : downB f.stmts.length (kids f.stmts) ∧ inB f.stmts.length 0 f.body ∧ ord f.stmts.length (kids f.stmts) f.body = upto f.stmts.length := by
 unfold shapeF at h
 simp only [Bool.and_eq_true] at h
 exact shapeB_iff.1 h.2.2.1
def goneN (f : Func) (s : Int) : Nat := (ordF f [s]).length
theorem gone_run {f : Func} (h : shapeF f = true) {s : Int} (h0 : 0 ≤ s) (h1 : s < f.stmts.length) : ordF f [s] = run s (goneN f s) ∧ 1 ≤ goneN f s ∧ s + goneN f s ≤ f.stmts.length := by
 obtain ⟨hd, hb, ho⟩ := shapeF_iff h
 have hm : s ∈ ord f.stmts.length (kids f.stmts) f.body := by rw [ho]; exact mem_upto.2 ⟨h0, h1⟩
 obtain ⟨l, r, e⟩ := ord_part hd hb s hm
 rw [ho, upto_run, List.append_assoc] at e
 have hs : ordF f [s] = s :: (ordF f (kids f.stmts s).1 ++ ordF f (kids f.stmts s).2) := by
  unfold ordF
  rw [ord_cons hd (by intro x hx; rw [List.mem_singleton] at hx; subst hx; exact ⟨h0, h1⟩), ord_nil]
  simp
 have hl := congrArg List.length e
 rw [run_len, List.length_append, List.length_append] at hl
 obtain ⟨e1, e2⟩ := run_cut e
 obtain ⟨e3, e4⟩ := run_cut e2.symm
 have e5 : ordF f [s] = run (0 + (l.length : Int)) (goneN f s) := e3
 have hg : 1 ≤ goneN f s := by unfold goneN; rw [hs]; simp
 have e6 : s = 0 + (l.length : Int) := by
  have h2 : (ordF f [s]).head? = some s := by rw [hs]; rfl
  rw [e5] at h2
  obtain ⟨g, hg'⟩ : ∃ g, goneN f s = g + 1 := ⟨goneN f s - 1, by omega⟩
  rw [hg'] at h2
  simp [run, List.range_succ_eq_map] at h2
  omega
 rw [← e6] at e5
 refine ⟨e5, hg, ?_⟩
 have : (ord (f.stmts.length : Int) (kids f.stmts) [s]).length = goneN f s := rfl
 omega
def kidsL (f : Func) (s : Int) : List Int := (stmtAt f s).thn ++ (stmtAt f s).els
theorem kidsL_kids {f : Func} {s : Int} : kidsL f s = both (kids f.stmts) s := by
 unfold kidsL both kids stmtAt
 cases f.stmts[s.toNat]? <;> rfl
theorem kidsL_in {f : Func} (hd : downB f.stmts.length (kids f.stmts)) {s : Int} (h0 : 0 ≤ s) (h1 : s < f.stmts.length) : inB f.stmts.length (s + 1) (kidsL f s) := by
 intro x hx
 rw [kidsL_kids] at hx
 rcases List.mem_append.1 hx with hx | hx
 ·exact (hd s h0 h1).1 x hx
 ·exact (hd s h0 h1).2 x hx
theorem ordF_one {f : Func} (hd : downB f.stmts.length (kids f.stmts)) {s : Int} (h0 : 0 ≤ s) (h1 : s < f.stmts.length) : ordF f [s] = s :: ordF f (kidsL f s) := by
 have hk := kidsL_in hd h0 h1
 have hk2 := inB_lower hk (show (0 : Int) ≤ s + 1 by omega)
 rw [kidsL_kids] at hk2
 unfold ordF
 rw [ord_cons hd (by intro x hx; rw [List.mem_singleton] at hx; subst hx; exact ⟨h0, h1⟩), ord_nil, kidsL_kids, both, ord_app hd hk2]
 simp
theorem kids_run {f : Func} (hd : downB f.stmts.length (kids f.stmts)) {s : Int} (h0 : 0 ≤ s) (h1 : s < f.stmts.length) (hg : ordF f [s] = run s (goneN f s)) {k : Nat} (hk : k < (kidsL f s).length) :
  (∀ (j : Nat) (hj : j < (ordF f [(kidsL f s)[k]]).length), (ordF f [(kidsL f s)[k]])[j] = s + ((1 + (ordF f ((kidsL f s).take k)).length + j : Nat) : Int)) ∧ 1 + (ordF f ((kidsL f s).take (k + 1))).length = 1 + (ordF f ((kidsL f s).take k)).length + (ordF f [(kidsL f s)[k]]).length ∧ 1 + (ordF f ((kidsL f s).take k)).length + (ordF f [(kidsL f s)[k]]).length ≤ goneN f s := by
 have hin := inB_lower (kidsL_in hd h0 h1) (show (0 : Int) ≤ s + 1 by omega)
 have e1 : ordF f ((kidsL f s).take (k + 1)) = ordF f ((kidsL f s).take k) ++ ordF f [(kidsL f s)[k]] := by
  have hq : inB f.stmts.length 0 ((kidsL f s).take k ++ [(kidsL f s)[k]]) := fun x hx => hin x (by
   rw [← List.take_succ_eq_append_getElem hk] at hx
   exact List.mem_of_mem_take hx)
  unfold ordF
  rw [List.take_succ_eq_append_getElem hk, ord_app hd hq]
 have e2 : ordF f (kidsL f s) = ordF f ((kidsL f s).take (k + 1)) ++ ordF f ((kidsL f s).drop (k + 1)) := by
  unfold ordF
  rw [← ord_app hd (by rw [List.take_append_drop]; exact hin), List.take_append_drop]
 rw [ordF_one hd h0 h1, e2, e1] at hg
 refine ⟨fun j hj => ?_, by rw [e1, List.length_append]; omega, by
  have hl := congrArg List.length hg
  simp only [List.length_cons, List.length_append, run_len] at hl
  omega⟩
 have h2 := congrArg (fun l => l[1 + (ordF f ((kidsL f s).take k)).length + j]?) hg
 have hl := congrArg List.length hg
 simp only [List.length_cons, List.length_append, run_len] at hl
 simp only [run, List.getElem?_map, List.getElem?_range] at h2
 rw [show 1 + (ordF f ((kidsL f s).take k)).length + j = (ordF f ((kidsL f s).take k)).length + j + 1 from by omega, List.getElem?_cons_succ, List.append_assoc, List.getElem?_append_right (by omega), List.getElem?_append_left (by omega),
  show (ordF f ((kidsL f s).take k)).length + j - (ordF f ((kidsL f s).take k)).length = j from by omega, List.getElem?_eq_getElem hj, List.getElem?_eq_getElem (by simp; omega)] at h2
 simp only [Option.map_some, Option.some.injEq, List.getElem_range] at h2
 rw [h2]; omega
theorem l18Gone_fun0 (f : Func) (s : Int) (hf : f.ok 1048576) (hn : f.stmts.length ≤ 16) (hs0 : 0 ≤ s) (hs1 : s < f.stmts.length) (hd : downB f.stmts.length (kids f.stmts)) (hg : ordF f [s] = run s (goneN f s)) (hgn : s + goneN f s ≤ f.stmts.length) (ih : ∀ n, n ∈ kidsL f s → Fun Tryz.prog 121 [.t f.tt, .t (.int n)] (.t (T.ints (ordF f [n])))) : Fun Tryz.prog 121 [.t f.tt, .t (.int s)] (tupD [.t (T.ints (ordF f [s]))]) := by
  have hso := stmt_ok hf (n := s.toNat) (by omega)
  have hin := kidsL_in hd hs0 hs1
  have hkl : (kidsL f s).length ≤ 2097152 := by rw [kidsL, stmtAt, List.getElem?_eq_getElem (by omega)]; simp; omega
  have hge : goneN f s = 1 + (ordF f (kidsL f s)).length := by unfold goneN; rw [ordF_one hd hs0 hs1]; simp; omega
  refine Fun.begin tys Tryz.func121 Z Z (N := 43) [(0, .t f.tt), (1, .t (.int s))] Z Z (fun w0 G F0 => ?_)
  refine sQ (rG (WO_box Z Z (lt_of Z) Z Z (nZ Z (eZ Z (oN (tN (sQ (rG (eK 3 Z (WO_idxT tys Z Z (lt_of Z) Z Z Z Z Z Z Z (by omega) _ (getT _ _ (by omega) (by omega)) (eZ Z ?_)))))))))))
  try refine WO_le (Le.freeze (u := 15) rfl) ?_
  refine nZ Z (WO_alloc tys Z Z (lt_of Z) Z Z Z (nZ Z (sT Z (nZ Z (kZ [1,2,4,5] Z (oN (tN (sQ (rG (eZ Z ?_))))))))))
  refine WO_buildSlice tys [T.int s] Z Z (lt_of Z) Z Z Z Z Z (lt_of Z) (by repeat (first | exact PartsOk.nil' | refine PartsOk.cons' rfl (by repeat (first | exact AbsL.nil' | refine AbsL.v' ?_ | refine AbsL.own' ?_ | refine AbsL.none' ?_)) Z ?_)) (by first | exact List.nodup_nil | exact nodup1 _ | decide | exact nodupB_sound Z) Z (by decide) ?_
  refine nZ Z (WO_le (Le.gather (u := 17) (id := 17) Z Z (by first | (simp; done) | (simp; omega) | omega)) ?_)
  refine nZ Z (WO_le (Le.freeze (u := 17) Z) (nZ Z (eZ Z (oN (tN (sQ (sQ (W_regionDZm 5 7 mixed Z Z Z Z Z Z Z (lt_of Z) (by kernel_rfl) (by kernel_rfl) (by kernel_rfl) (by kernel_rfl) (by kernel_rfl) (evQ ?_)))))))))
  refine evQ ?_
  refine callBQ ?_
  refine ⟨_, l1Own_fun _ (by omega), rfl, ?_⟩
  refine QL_norm Z (evQ ?_)
  refine evQ ?_
  refine QL_nil (nZ Z (WO_le (Le.adoptE (u := 20) 20 Z (by first | exact lenN | exact Z)) ?_))
  refine nZ Z (WO_append tys Z Z (lt_of Z) Z Z Z Z Z (.own Z (by simp)) Z (.read (readI _)) (by decide) (by simp; omega) (by decide) Z ?_)
  refine nZ Z (WO_le (Le.gather (u := 23) (id := 20) Z Z (by simp)) ?_)
  refine nZ Z ?_
  refine WO_le (Le.eqF (u := 23) (e := .own (T.ints (kidsL f s))) Z (by
   show D.own (.list 1 _) = D.own (T.ints (kidsL f s))
   rw [kidsL, stmtAt, List.getElem?_eq_getElem (by omega)]
   simp [T.ints, List.take_of_length_le])) ?_
  refine nZ Z (WO_le (Le.freeze (u := 23) Z) (nZ Z (evE ?_)))
  refine oN (nQ_n (tN (W_block ?_)))
  refine lK (α := Int × List Int) [2, 23, 24] [2] (fun x => [(25, .t (.int (x.1))), (6, .t (T.ints (x.2)))]) (fun x => []) (fun x => 0 ≤ (x.1) ∧ (x.1) ≤ (kidsL f s).length ∧ (x.2) = run s (1 + (ordF f ((kidsL f s).take (x.1).toNat)).length)) (fun x => Int.toNat ((kidsL f s).length - (x.1))) (0, [s]) ?_ (fun x hx => ?_)
  · refine ⟨by omega, by omega, ?_⟩
    rw [show (0 : Int).toNat = 0 from rfl, List.take_zero, ordF_nil]
    simp [run]
  obtain ⟨k, out⟩ := x
  obtain ⟨hk0, hk1, ho⟩ := hx
  dsimp only at hk0 hk1 ho ⊢
  refine nY Z (sQ (rG (eZ Z (oN (tN (sQ ?_))))))
  refine W_cond Z (fun h1 => ?_) (fun h1 => ?_)
  ·
    simp only [HS] at h1
    refine W_skip (tN (sQ (W_block (sQ (rG ?_)))))
    have hkn := hin _ (List.getElem_mem (show k.toNat < (kidsL f s).length by omega))
    refine WO_idxT tys Z Z (lt_of Z) Z Z Z Z Z Z Z (by omega) _ (getT _ _ (by omega) (by omega)) (eK 2 Z (oN (tN (sQ (rG (eZ Z ?_))))))
    try refine WO_le (Le.freeze (u := 29) rfl) ?_
    refine nZ Z (eZ Z (WO_callF Z Z (lt_of Z) Z Z Z Z Z (ih _ (List.getElem_mem (show k.toNat < (kidsL f s).length by omega))) Z ?_))
    obtain ⟨hr1, hr2, hr3⟩ := kids_run hd hs0 hs1 hg (k := k.toNat) (by omega)
    refine evE ?_
    refine eZ Z (kZ [2,6,8,23,24,25,26,27,28,29,30,31,32,33] Z (oN (tN (W_block ?_))))
    refine lK (α := Int × List Int) [2, 23, 24, 25, 31, 32] [2] (fun x => [(33, .t (.int (x.1))), (6, .t (T.ints (x.2)))]) (fun x => []) (fun x => 0 ≤ (x.1) ∧ (x.1) ≤ (ordF f [(kidsL f s)[k.toNat]'(by omega)]).length ∧ (x.2) = run s (1 + (ordF f ((kidsL f s).take k.toNat)).length + (x.1).toNat)) (fun x => Int.toNat ((ordF f [(kidsL f s)[k.toNat]'(by omega)]).length - (x.1))) (0, out) ?_ (fun x hx => ?_)
    · exact ⟨by omega, by omega, ho⟩
    obtain ⟨j, o2⟩ := x
    obtain ⟨hj0, hj1, ho2⟩ := hx
    dsimp only at hj0 hj1 ho2 ⊢
    refine nY Z (sQ (rG (eZ Z (oN (tN (sQ ?_))))))
    refine W_cond Z (fun h2 => ?_) (fun h2 => ?_)
    ·
      simp only [HS] at h2
      refine W_skip (tN (sQ (W_block (sQ (rG (WO_idxT tys Z Z (lt_of Z) Z Z Z Z Z Z Z (by omega) _ (getT _ _ (by omega) (by omega)) (eK 2 Z (oN (tN (rG (eK 2 Z (WO_callF Z Z (lt_of Z) Z Z Z Z Z (l1Put_fun _ _ (by rw [ho2, run_len]; omega) (by rw [ho2]; exact run_rise _ _)) Z ?_))))))))))))
      refine eZ Z (oN (bN (tN (kY [2,6,10,23,24,25,31,32,33,34,35,36,37,38,39] Z (rG (evI ?_))))))
      refine eZ Z (oN ?_)
      refine lQ (_, _) ?_ ?_
      · dsimp only
        refine ⟨by omega, by omega, ?_⟩
        have e := hr1 j.toNat (by omega)
        rw [e, ho2, show (j + 1).toNat = j.toNat + 1 from by omega, ← Nat.add_assoc, ← put_run]
      · (show Int.toNat _ < Int.toNat _); omega
    simp only [HS] at h2
    refine W_exit (tE (loopQ_e (inBlk_y (bN (tN (rG (evI ?_)))))))
    refine eZ Z (oN ?_)
    refine lQ (_, _) ?_ ?_
    · dsimp only
      refine ⟨by omega, by omega, ?_⟩
      rw [ho2, show (k + 1).toNat = k.toNat + 1 from by omega, hr2, show j.toNat = (ordF f [(kidsL f s)[k.toNat]'(by omega)]).length from by omega]
    · (show Int.toNat _ < Int.toNat _); omega
  simp only [HS] at h1
  refine W_exit (tE (loopQ_e (inBlk_y (tN (sQ (rG (eK 2 Z (oN (tN (rT (eR ?_)))))))))))
  · rw [ho, take_end (by omega), hg, hge]
    rfl
theorem l18Gone_fun {f : Func} (hf : f.ok 1048576) (hn : f.stmts.length ≤ 16) (hs : shapeF f = true) : ∀ (k : Nat) (s : Int), 0 ≤ s → s < f.stmts.length → f.stmts.length - s ≤ k → Fun Tryz.prog 121 [.t f.tt, .t (.int s)] (.t (T.ints (ordF f [s])))
 | 0, s, h0, h1, h2 => by omega
 | k + 1, s, h0, h1, h2 => by
  obtain ⟨hd, _, _⟩ := shapeF_iff hs
  obtain ⟨g1, g2, g3⟩ := gone_run hs h0 h1
  refine l18Gone_fun0 f s hf hn h0 h1 hd g1 g3 fun n hn' => ?_
  have := kidsL_in hd h0 h1 n hn'
  exact l18Gone_fun hf hn hs k n (by omega) (by omega) (by omega)
def lessN (gone : List Int) (n : Int) : Int := ((gone.filter fun m => decide (m < n)).length : Nat)
def leftG (gone b : List Int) : List Int := (b.filter fun n => !decide (n ∈ gone)).map fun n => n - lessN gone n
theorem leftG_len (gone b : List Int) : (leftG gone b).length ≤ b.length := by
 unfold leftG; rw [List.length_map]; exact List.length_filter_le ..
theorem lessN_at {l : List Int} {n k : Int} (h0 : 0 ≤ k) (h1 : k < l.length) : lessN (l.take (k + 1).toNat) n = lessN (l.take k.toNat) n + (if l[k.toNat]'(by omega) < n then 1 else 0) := by
 unfold lessN
 rw [take_at h0 h1, List.filter_append, List.length_append]
 split
 ·rename_i h; rw [List.filter_cons_of_pos (by simpa using h)]; simp
 ·rename_i h; rw [List.filter_cons_of_neg (by simpa using h)]; simp
theorem lessN_bnd (l : List Int) (n : Int) : 0 ≤ lessN l n ∧ lessN l n ≤ l.length := by
 unfold lessN
 have := List.length_filter_le (fun m => decide (m < n)) l
 omega
theorem leftG_at {gone b : List Int} {k : Int} (h0 : 0 ≤ k) (h1 : k < b.length) : leftG gone (b.take (k + 1).toNat) = leftG gone (b.take k.toNat) ++ (if b[k.toNat]'(by omega) ∈ gone then [] else [b[k.toNat]'(by omega) - lessN gone (b[k.toNat]'(by omega))]) := by
 unfold leftG
 rw [take_at h0 h1, List.filter_append, List.map_append]
 congr 1
 split
 ·rename_i h; rw [List.filter_cons_of_neg (by simpa using h)]; rfl
 ·rename_i h; rw [List.filter_cons_of_pos (by simpa using h)]; rfl
theorem l18Left_fun (b gone : List Int) (hb : b.length ≤ 1048576) (hg : gone.length ≤ 1048576) (hv : ∀ n, n ∈ b → -1073741824 ≤ n ∧ n ≤ 1073741824) : Fun Tryz.prog 122 [.t (T.ints b), .t (T.ints gone)] (tupD [.own (T.ints (leftG gone b))]) := by
 refine Fun.begin tys Tryz.func122 Z Z (N := 40) [(0, .t (T.ints b)), (1, .t (T.ints gone))] Z Z (fun w0 G F0 => ?_)
 refine sQ (rG (eZ Z (oN (tN (sQ (rG (eZ Z (WO_le (Le.nilOwn (u := 5) 1 Z) (WO_le (Le.adoptE (u := 5) 5 Z Z) (nZ Z (oN (tN (sQ (sQ (rG ?_)))))))))))))))
 refine eZ Z (evE ?_)
 refine eZ Z (oN (tN (W_block ?_)))
 refine lK (α := Int × Nat × List T) [1, 11, 12] [] (fun x => [(13, .t (.int (x.1))), (5, .sl 5 0 (x.2.1))]) (fun x => [(5, .L 1 (x.2.2))]) (fun x => 0 ≤ (x.1) ∧ (x.1) ≤ b.length ∧ (x.2.1) = (x.2.2).length ∧ (x.2.2).length ≤ (x.1) ∧ (x.2.2) = (leftG gone (b.take (x.1).toNat)).map T.int) (fun x => Int.toNat (b.length - (x.1))) (0, 0, []) ?_ (fun x hx => ?_)
 ·exact ⟨by omega, by omega, rfl, by simp, rfl⟩
 obtain ⟨k, m, ws⟩ := x
 obtain ⟨hk0, hk1, hm, hwl, hws⟩ := hx
 dsimp only at hk0 hk1 hm hwl hws ⊢
 refine nY Z (sQ (rG (eZ Z (oN (tN (sQ ?_))))))
 refine W_cond Z (fun h1 => ?_) (fun h1 => ?_)
 ·
  simp only [HS] at h1
  refine W_skip (tN (sQ (W_block (sQ (rG (WO_idxT tys Z Z (lt_of Z) Z Z Z Z Z Z Z (by omega) _ (getT _ _ (by omega) (by omega)) (eK 2 Z (oN (tN (sQ (sQ (rG (eK 2 Z (callB ?_))))))))))))))
  refine ⟨_, l1Has_fun _ _ (by omega), rfl, ?_⟩
  refine oN (tN ?_)
  refine W_cond Z (fun h2 => ?_) (fun h2 => ?_)
  ·
   simp only [HS] at h2
   refine W_exit (tE (inBlk_y (tN (kY [1,5,7,11,12,13,14,15,16,17,18,19] Z (rG (evI ?_))))))
   refine eZ Z (oN ?_)
   refine lQ (_, _, _) ?_ ?_
   ·dsimp only
    subst hm
    first
    | (refine ⟨by omega, by omega, rfl, by omega, ?_⟩; rw [hws, leftG_at hk0 (by omega), if_pos (by assumption), List.append_nil]; done)
   ·(show Int.toNat _ < Int.toNat _); omega
  simp only [HS] at h2
  refine W_skip (tN (sQ (kY [1,5,7,11,12,13,14,15,16,17,18,19] Z (rG (eZ Z (oN (tN (sQ (sQ (rG ?_))))))))))
  have hvk := hv _ (List.getElem_mem (show k.toNat < b.length by omega))
  refine eZ Z (evE ?_)
  refine eZ Z (oN (tN (W_block ?_)))
  refine lK (α := Int × Int) [1, 5, 7, 11, 12, 13, 20, 21] [5] (fun x => [(22, .t (.int (x.1))), (8, .t (.int (x.2)))]) (fun x => []) (fun x => 0 ≤ (x.1) ∧ (x.1) ≤ gone.length ∧ (x.2) = lessN (gone.take (x.1).toNat) (b[k.toNat]'(by omega))) (fun x => Int.toNat (gone.length - (x.1))) (0, 0) ?_ (fun x hx => ?_)
  ·exact ⟨by omega, by omega, rfl⟩
  obtain ⟨j, c⟩ := x
  obtain ⟨hj0, hj1, hc⟩ := hx
  dsimp only at hj0 hj1 hc ⊢
  refine nY Z (sQ (rG (eZ Z (oN (tN (sQ ?_))))))
  refine W_cond Z (fun h3 => ?_) (fun h3 => ?_)
  ·
   simp only [HS] at h3
   refine W_skip (tN (sQ (W_block (sQ (rG (WO_idxT tys Z Z (lt_of Z) Z Z Z Z Z Z Z (by omega) _ (getT _ _ (by omega) (by omega)) (eK 2 Z (oN (tN (sQ (rG ?_)))))))))))
   have hcb := lessN_bnd (gone.take j.toNat) (b[k.toNat]'(by omega))
   have hcl : (gone.take j.toNat).length ≤ 1048576 := by rw [List.length_take]; omega
   refine eK 3 Z (oN (tN ?_))
   refine W_cond Z (fun h4 => ?_) (fun h4 => ?_)
   ·
    simp only [HS] at h4
    refine kY [1,5,7,8,10,11,12,13,20,21,22,23,24,25,26,27,28] Z (rG (eZ Z (evI ?_)))
    refine eZ Z (oN (bN (tN (rG (evI ?_)))))
    refine eZ Z (oN ?_)
    refine lQ (_, _) ?_ ?_
    ·dsimp only
     refine ⟨by omega, by omega, ?_⟩
     rw [lessN_at hj0 (by omega)]
     first
     | (rw [if_pos (by assumption), hc]; done)
    ·(show Int.toNat _ < Int.toNat _); omega
   simp only [HS] at h4
   refine W_skip (bN (tN (kY [1,5,7,8,10,11,12,13,20,21,22,23,24,25,26,27,28] Z (rG (evI ?_)))))
   refine eZ Z (oN ?_)
   refine lQ (_, _) ?_ ?_
   ·dsimp only
    refine ⟨by omega, by omega, ?_⟩
    rw [lessN_at hj0 (by omega)]
    first
    | (rw [if_neg (by omega), hc]; omega)
   ·(show Int.toNat _ < Int.toNat _); omega
  simp only [HS] at h3
  refine W_exit (tE (loopQ_e (inBlk_y (tN (rG ?_)))))
  have hcb := lessN_bnd gone (b[k.toNat]'(by omega))
  have hc' : c = lessN gone (b[k.toNat]'(by omega)) := by rw [hc, take_end (by omega)]
  refine eK 3 Z (evI ?_)
  refine WO_buildSlice tys [T.int (b[k.toNat]'(by omega) - c)] Z Z (lt_of Z) Z Z Z Z Z (lt_of Z) (by repeat (first | exact PartsOk.nil' | refine PartsOk.cons' rfl (by repeat (first | exact AbsL.nil' | refine AbsL.v' ?_ | refine AbsL.own' ?_ | refine AbsL.none' ?_)) Z ?_)) (by first | exact List.nodup_nil | exact nodup1 _ | decide | exact nodupB_sound Z) Z (by decide) ?_
  refine nZ Z (WO_append tys Z Z (lt_of Z) Z Z Z Z Z (.own Z (by first | omega | (simp only [List.length_append]; omega))) Z (.own Z (by first | decide | omega)) (by decide) (by simp only [List.length_take, List.length_cons, List.length_nil]; omega) (by decide) Z ?_)
  refine nZ Z (eZ Z (oN (bN (tN (kY [1,5,7,8,11,12,13,20,21,22,23,32,33,34,35,36,37] Z (rG (evI ?_)))))))
  refine eZ Z (oN ?_)
  refine lQ (_, _, _) ?_ ?_
  ·dsimp only
   subst hm
   first
   | (refine ⟨by omega, by omega, by simp, by simp; omega, ?_⟩; rw [List.take_length, hws, leftG_at hk0 (by omega), if_neg (by assumption), List.map_append, hc']; rfl)
  ·(show Int.toNat _ < Int.toNat _); omega
 simp only [HS] at h1
 refine W_exit (tE (loopQ_e (inBlk_y (tN (sQ (rG (eK 2 Z (oN (tN (W_le (Le.gather (u := 4) (id := 5) Z Z (by omega)) (rT (eR ?_))))))))))))
 ·(rw [hm, List.take_length, hws]; refine retOwnI ?_; rw [take_end (by omega)])
end Go.Proofs.YtimpganophnehaaGreat
