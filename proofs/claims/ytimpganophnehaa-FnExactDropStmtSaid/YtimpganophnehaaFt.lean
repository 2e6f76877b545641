/- Marks of programs. -/
import Derived.Test.YtimpganophnehaaFr
import Derived.Test.YtimpganophnehaaFp
set_option linter.unusedVariables false
set_option linter.unusedSimpArgs false
set_option maxRecDepth 10000
set_option maxHeartbeats 1000000
namespace Go.Proofs.Ytimpganophnehaa
open Go.Eng

def mkTok (x : Tok) (k : Int) : Tok := ⟨k, k + 1⟩
def ctTok (x : Tok) : Int := 1 + 1
theorem ctTok_pos (x : Tok) : 1 ≤ ctTok x := by
  unfold ctTok; omega
def Tok.cl (x : Tok) : List T := (Tok.tt x).cells
theorem Tok.cl_len (x : Tok) : x.cl.length = 2 := rfl

theorem markTokS_nil (k : Int) : Fun Try.prog 90 [.t (.list 2 []), .t (.int k)] (tupD [.t (.int k)]) := by
  refine Fun.begin tys Try.func90 rfl rfl (N := 27) [(0, .t (.list 2 [])), (1, .t (.int k))] rfl rfl (fun w0 G F0 => ?_)
  refine W_seq ?_
  refine W_region ?_
  refine ev ?_
  refine WO_nil ?_
  refine thenQ_n ?_
  iterate 2 (refine W_seq ?_)
  refine W_region ?_
  refine ev ?_
  refine WO_nil ?_
  refine thenQ_n ?_
  refine W_block ?_
  refine W_loopK (α := Int) [0, 1] [] (fun (x : Int) => [(5, .t (.int x))]) (fun (x : Int) => []) (fun (x : Int) => 0 ≤ x) (fun (x : Int) => Int.toNat (0)) 0 ?_ ?_ ?_ (fun z hx => ?_)
  · repeat (first | exact Sub.nil' | refine Sub.cons' rfl ?_ )
  · repeat (first | exact SubM.nil' | refine SubM.cons' rfl ?_ )
  · exact Int.le_refl 0
  have hz := hx
  refine W_norm rfl ?_
  iterate 2 (refine W_seq ?_)
  refine W_region ?_
  refine ev ?_
  refine ev ?_
  refine evE ?_
  refine ev ?_
  refine WO_nil ?_
  refine thenQ_n ?_
  refine W_cond rfl (fun h1 => ?_) (fun h1 => ?_)
  ·
    try simp only [HS] at h1
    exfalso; simp at h1; omega
  try simp only [HS] at h1
  refine W_exit ?_
  refine thenQ_e ?_
  refine loopQ_e ?_
  refine inBlk_y ?_
  refine thenQ_n ?_
  refine W_seq ?_
  refine W_region ?_
  refine ev ?_
  refine ev ?_
  refine WO_nil ?_
  refine thenQ_n ?_
  refine W_ret ?_
  refine Ends_of (.inr rfl) (ret_okF rfl) (by decide) rfl ?_
  · rfl

theorem markTokS_m (l : List Tok) (k : Int) (hk : 0 ≤ k) (hb : k + ctL ctTok l ≤ 1073741824) : MarkF Try.prog 90 (.list 2 (l.map Tok.tt)) (k) (k + ctL ctTok l) (.list 2 ((mkL mkTok ctTok l k).map Tok.tt)) := by
  have hlen := ctL_len ctTok_pos l
  refine MarkF.slice Try.func90 rfl rfl (N := 27) rfl (fun y hy => (by obtain ⟨a, _, rfl⟩ := List.mem_map.1 hy; rfl) ) ( by simp [mkL_len]) (fun h => by cases l with | nil => (rw [show k + ctL ctTok [] = k from by simp [ctL]]; exact markTokS_nil k) | cons _ _ => simp at h) (fun b cap vs w0 G F0 => ?_)
  refine W_seq ?_
  refine W_region ?_
  refine ev ?_
  refine WO_nil ?_
  refine thenQ_n ?_
  iterate 2 (refine W_seq ?_)
  refine W_region ?_
  refine ev ?_
  refine WO_nil ?_
  refine thenQ_n ?_
  refine W_block ?_
  refine W_loopK (α := Int × Int × List Value × List T) [0] [] (fun (x : Int × Int × List Value × List T) => [(5, .t (.int (x.1))), (1, .t (.int (x.2.1)))]) (fun (x : Int × Int × List Value × List T) => [(27, .raw b (cap * 2) (x.2.2.1) (x.2.2.2))]) (fun (x : Int × Int × List Value × List T) => 0 ≤ (x.1) ∧ (x.1) ≤ l.length ∧ k ≤ (x.2.1) ∧ (x.2.1) + ctL ctTok (l.drop (x.1).toNat) = k + ctL ctTok l ∧ ∃ done : List Tok, done.length = (x.1).toNat ∧ (x.2.2.2) = done.flatMap Tok.cl ++ (l.drop (x.1).toNat).flatMap Tok.cl ∧ mkL mkTok ctTok l k = done ++ mkL mkTok ctTok (l.drop (x.1).toNat) (x.2.1)) (fun (x : Int × Int × List Value × List T) => Int.toNat (l.length - (x.1))) (0, k, vs, (l.map Tok.tt).flatMap T.cells) ?_ ?_ ?_ (fun x hx => ?_)
  · repeat (first | exact Sub.nil' | refine Sub.cons' rfl ?_ )
  · repeat (first | exact SubM.nil' | refine SubM.cons' rfl ?_ )
  · exact ⟨by omega, by omega, Int.le_refl k, rfl, [], rfl, by rw [List.flatMap_map]; rfl, rfl⟩
  obtain ⟨i, k', vs', ts⟩ := x
  obtain ⟨hi0, hi1, hkk, hk', done, hd, hts, he⟩ := hx
  try dsimp only at hi0 hi1 hkk hk' hd hts he ⊢
  refine W_norm rfl ?_
  iterate 2 (refine W_seq ?_)
  refine W_region ?_
  refine ev ?_
  refine ev ?_
  refine WO_lenV rfl rfl (lt_of rfl) rfl ⟨87, by kernel_rfl⟩ rfl ?_
  refine ev ?_
  refine WO_nil ?_
  refine thenQ_n ?_
  refine W_cond rfl (fun h1 => ?_) (fun h1 => ?_)
  ·
    try simp only [HS] at h1
    refine W_skip ?_
    refine thenQ_n ?_
    refine W_seq ?_
    refine W_block ?_
    refine W_seq ?_
    refine W_region ?_
    have hD := flat_lens Tok.cl_len done hd
    have hca := ctL_at ctTok hi0 h1
    have hcx : ctTok (l[i.toNat]'(by omega)) = ctTok (l[i.toNat]'(by omega)) := rfl
    conv at hcx => rhs; unfold ctTok
    have hcr := ctL_pos ctTok_pos (l.drop (i + 1).toNat)
    rw [drop_at hi0 h1, List.flatMap_cons] at hts
    subst hts
    iterate 3 (refine ev ?_)
    refine WO_idxV tys rfl rfl (lt_of rfl) rfl rfl rfl rfl rfl rfl (by omega) (by first | omega | (simp only [List.length_map]; omega)) ?_
    refine WO_fieldV tys rfl rfl (lt_of rfl) rfl rfl rfl rfl rfl ?_
    refine WO_keep [0, 1, 5, 6, 7, 8, 9, 12, 13, 14, 15, 16] rfl ?_
    refine WO_storeV tys (id := 27) rfl rfl rfl rfl rfl rfl rfl (by exact fgetE hD rfl) rfl rfl rfl ?_
    refine WO_norm rfl ?_
    refine WO_nil ?_
    refine thenQ_n ?_
    refine W_seq ?_
    refine W_region ?_
    refine ev ?_
    refine evI ?_
    refine ev ?_
    refine WO_nil ?_
    refine thenQ_n ?_
    refine W_seq ?_
    refine W_region ?_
    iterate 3 (refine ev ?_)
    refine WO_idxV tys rfl rfl (lt_of rfl) rfl rfl rfl rfl rfl rfl (by omega) (by first | omega | (simp only [List.length_map]; omega)) ?_
    refine WO_fieldV tys rfl rfl (lt_of rfl) rfl rfl rfl rfl rfl ?_
    refine WO_keep [0, 1, 5, 6, 7, 8, 9, 12, 13, 14, 15, 16, 17, 18, 19, 20, 21, 22, 23] rfl ?_
    refine WO_storeV tys (id := 27) rfl rfl rfl rfl rfl rfl rfl (by rw [fset hD]; exact fgetE hD rfl) rfl rfl rfl ?_
    refine WO_norm rfl ?_
    refine WO_nil ?_
    refine thenQ_n ?_
    refine W_region ?_
    refine ev ?_
    refine evI ?_
    refine ev ?_
    refine WO_nil ?_
    refine inBlk_n ?_
    refine thenQ_n ?_
    refine W_region ?_
    refine ev ?_
    refine evI ?_
    refine ev ?_
    refine WO_nil ?_
    refine loopQ_n (_, _, _, _) (by (try dsimp only); repeat (first | exact Sub.nil' | refine Sub.cons' rfl ?_ )) (by (try dsimp only); repeat (first | exact SubM.nil' | refine SubM.cons' rfl ?_ )) ?_ ?_
    · try dsimp only
      refine ⟨by omega, by omega, by omega, by omega, done ++ [mkTok (l[i.toNat]'(by omega)) k'], by simp [hd]; omega, ?_, ?_⟩
      · simp only [fset hD]
        rw [List.flatMap_append, List.append_assoc]
        rfl
      · rw [he, drop_at hi0 h1, mkL, List.append_assoc, show k' + ctTok (l[i.toNat]'(by omega)) = k' + 1 + 1 from by omega]
        rfl
    · (show Int.toNat _ < Int.toNat _); omega
  try simp only [HS] at h1
  refine W_exit ?_
  refine thenQ_e ?_
  refine loopQ_e ?_
  refine inBlk_y ?_
  refine thenQ_n ?_
  refine W_seq ?_
  refine W_region ?_
  refine ev ?_
  refine ev ?_
  refine WO_nil ?_
  refine thenQ_n ?_
  refine W_ret ?_
  refine EndsM_slice (.inr rfl) rfl rfl rfl ?_ ?_
  · rw [drop_end h1] at hk'; simp only [ctL_nil] at hk'; omega
  · rw [hts, drop_end h1, he, drop_end h1, List.flatMap_map, mkL, List.append_nil]; exact List.append_nil _

theorem heldTokS_mk (l : List Tok) (k : Int) (hk : 0 ≤ k) (hb : k + ctL ctTok l ≤ 1073741824) : Fun Try.prog 91 [.t (T.Toks (mkL mkTok ctTok l k)), .t (.int k)] (tupD [.t (.int (k + ctL ctTok l))]) := by
  have hlen := ctL_len ctTok_pos l
  have hml := mkL_len mkTok ctTok l k
  refine Fun.begin tys Try.func91 rfl rfl (N := 31) [(0, .t (T.Toks (mkL mkTok ctTok l k))), (1, .t (.int k))] rfl rfl (fun w0 G F0 => ?_)
  refine W_seq ?_
  refine W_region ?_
  refine ev ?_
  refine WO_nil ?_
  refine thenQ_n ?_
  iterate 2 (refine W_seq ?_)
  refine W_region ?_
  refine ev ?_
  refine WO_nil ?_
  refine thenQ_n ?_
  refine W_block ?_
  refine W_loopK (α := Int × Int) [0] [] (fun (x : Int × Int) => [(5, .t (.int (x.1))), (1, .t (.int (x.2)))]) (fun (x : Int × Int) => []) (fun (x : Int × Int) => 0 ≤ (x.1) ∧ (x.1) ≤ l.length ∧ k ≤ (x.2) ∧ (x.2) + ctL ctTok (l.drop (x.1).toNat) = k + ctL ctTok l ∧ (x.2) = k + ctL ctTok (l.take (x.1).toNat)) (fun (x : Int × Int) => Int.toNat (l.length - (x.1))) (0, k) ?_ ?_ ?_ (fun x hx => ?_)
  · repeat (first | exact Sub.nil' | refine Sub.cons' rfl ?_ )
  · repeat (first | exact SubM.nil' | refine SubM.cons' rfl ?_ )
  · exact ⟨by omega, by omega, Int.le_refl k, rfl, by rw [show l.take (0 : Int).toNat = [] from rfl]; rw [ctL_nil]; omega⟩
  obtain ⟨i, k'⟩ := x
  obtain ⟨hi0, hi1, hkk, hk', hkt⟩ := hx
  try dsimp only at hi0 hi1 hkk hk' hkt ⊢
  refine W_norm rfl ?_
  iterate 2 (refine W_seq ?_)
  refine W_region ?_
  refine ev ?_
  refine ev ?_
  refine evE ?_
  refine ev ?_
  refine WO_nil ?_
  refine thenQ_n ?_
  refine W_cond rfl (fun h1 => ?_) (fun h1 => ?_)
  ·
    try simp only [HS] at h1
    refine W_skip ?_
    refine thenQ_n ?_
    refine W_seq ?_
    refine W_block ?_
    iterate 2 (refine W_seq ?_)
    refine W_region ?_
    have hca := ctL_at ctTok (l := l) hi0 (by omega)
    have hcx : ctTok (l[i.toNat]'(by omega)) = ctTok (l[i.toNat]'(by omega)) := rfl
    conv at hcx => rhs; unfold ctTok
    have hcr := ctL_pos ctTok_pos (l.drop (i + 1).toNat)
    refine ev ?_
    refine ev ?_
    first | refine WO_idxT tys rfl rfl (lt_of rfl) rfl rfl rfl rfl rfl rfl rfl (by omega) _ (getMk Tok.tt mkTok ctTok hkt (by omega) (by omega)) ?_ | refine WO_idxS tys rfl rfl (lt_of rfl) rfl rfl rfl rfl rfl rfl rfl rfl (by omega) (by omega) ?_
    refine ev ?_
    first | refine ev ?_ | refine WO_loadL tys rfl rfl (lt_of rfl) rfl rfl rfl rfl (getT _ _ (by omega) (by omega)) rfl ?_ | refine WO_loadL tys rfl rfl (lt_of rfl) rfl rfl rfl rfl (getT0 _ _ (by omega) (by omega)) rfl ?_
    refine WO_keep [0, 1, 5, 6, 7, 8, 9, 12, 13, 14, 15, 16] rfl ?_
    refine ev ?_
    refine ev ?_
    refine WO_le (Le.known (t := 18) false rfl (by simp [mkTok])) ?_
    refine WO_nil ?_
    refine thenQ_n ?_
    refine W_condF rfl ?_
    refine W_skip ?_
    refine thenQ_n ?_
    refine W_seq ?_
    refine W_region ?_
    refine ev ?_
    refine evI ?_
    refine ev ?_
    refine WO_nil ?_
    refine thenQ_n ?_
    iterate 2 (refine W_seq ?_)
    refine W_region ?_
    refine ev ?_
    refine ev ?_
    first | refine WO_idxT tys rfl rfl (lt_of rfl) rfl rfl rfl rfl rfl rfl rfl (by omega) _ (getMk Tok.tt mkTok ctTok hkt (by omega) (by omega)) ?_ | refine WO_idxS tys rfl rfl (lt_of rfl) rfl rfl rfl rfl rfl rfl rfl rfl (by omega) (by omega) ?_
    refine ev ?_
    refine WO_keep [0, 1, 5, 6, 7, 8, 9, 12, 13, 14, 15, 16, 17, 18, 19, 20, 21, 22, 23, 24] rfl ?_
    first | refine ev ?_ | refine WO_loadL tys rfl rfl (lt_of rfl) rfl rfl rfl rfl (getT _ _ (by omega) (by omega)) rfl ?_ | refine WO_loadL tys rfl rfl (lt_of rfl) rfl rfl rfl rfl (getT0 _ _ (by omega) (by omega)) rfl ?_
    refine ev ?_
    refine ev ?_
    refine WO_le (Le.known (t := 27) false rfl (by simp [mkTok])) ?_
    refine WO_nil ?_
    refine thenQ_n ?_
    refine W_condF rfl ?_
    refine W_skip ?_
    refine thenQ_n ?_
    refine W_region ?_
    refine ev ?_
    refine evI ?_
    refine ev ?_
    refine WO_nil ?_
    refine inBlk_n ?_
    refine thenQ_n ?_
    refine W_region ?_
    refine ev ?_
    refine evI ?_
    refine ev ?_
    refine WO_keep [0, 1, 5, 6, 7, 8, 9, 10, 11, 12, 13, 14, 15, 16, 17, 18, 19, 20, 21, 22, 23, 24, 25, 26, 27, 28, 29] rfl ?_
    refine WO_nil ?_
    refine loopQ_n (_, _) (by (try dsimp only); repeat (first | exact Sub.nil' | refine Sub.cons' rfl ?_ )) (by (try dsimp only); repeat (first | exact SubM.nil' | refine SubM.cons' rfl ?_ )) ?_ ?_
    · try dsimp only
      refine ⟨by omega, by omega, by omega, by omega, ?_⟩
      rw [ctL_take ctTok hi0 (by omega)]
      omega
    · (show Int.toNat _ < Int.toNat _); omega
  try simp only [HS] at h1
  refine W_exit ?_
  refine thenQ_e ?_
  refine loopQ_e ?_
  refine inBlk_y ?_
  refine thenQ_n ?_
  refine W_seq ?_
  refine W_region ?_
  refine ev ?_
  refine ev ?_
  refine WO_nil ?_
  refine thenQ_n ?_
  refine W_ret ?_
  refine Ends_of (.inr rfl) (ret_okF rfl) (by decide) rfl ?_
  · rw [drop_end (by omega)] at hk'; simp only [ctL_nil] at hk'; refine congrArg (fun n => [D.t (T.int n)]) ?_; omega

def mkStmt (x : Stmt) (k : Int) : Stmt := ⟨k, k + 1, mkL mkTok ctTok x.ex (k + 1 + 1), mkI x.thn (k + 1 + 1 + ctL ctTok x.ex), mkI x.els (k + 1 + 1 + ctL ctTok x.ex + (x.thn.length : Int))⟩
def ctStmt (x : Stmt) : Int := 1 + 1 + ctL ctTok x.ex + (x.thn.length : Int) + (x.els.length : Int)
theorem ctStmt_pos (x : Stmt) : 1 ≤ ctStmt x := by
  have p0 := ctL_pos ctTok_pos x.ex
  unfold ctStmt; omega
def Stmt.cl (x : Stmt) : List T := (Stmt.tt x).cells
theorem Stmt.cl_len (x : Stmt) : x.cl.length = 5 := rfl

theorem markStmtS_nil (k : Int) : Fun Try.prog 61 [.t (.list 5 []), .t (.int k)] (tupD [.t (.int k)]) := by
  refine Fun.begin tys Try.func61 rfl rfl (N := 48) [(0, .t (.list 5 [])), (1, .t (.int k))] rfl rfl (fun w0 G F0 => ?_)
  refine W_seq ?_
  refine W_region ?_
  refine ev ?_
  refine WO_nil ?_
  refine thenQ_n ?_
  iterate 2 (refine W_seq ?_)
  refine W_region ?_
  refine ev ?_
  refine WO_nil ?_
  refine thenQ_n ?_
  refine W_block ?_
  refine W_loopK (α := Int) [0, 1] [] (fun (x : Int) => [(5, .t (.int x))]) (fun (x : Int) => []) (fun (x : Int) => 0 ≤ x) (fun (x : Int) => Int.toNat (0)) 0 ?_ ?_ ?_ (fun z hx => ?_)
  · repeat (first | exact Sub.nil' | refine Sub.cons' rfl ?_ )
  · repeat (first | exact SubM.nil' | refine SubM.cons' rfl ?_ )
  · exact Int.le_refl 0
  have hz := hx
  refine W_norm rfl ?_
  iterate 2 (refine W_seq ?_)
  refine W_region ?_
  refine ev ?_
  refine ev ?_
  refine evE ?_
  refine ev ?_
  refine WO_nil ?_
  refine thenQ_n ?_
  refine W_cond rfl (fun h1 => ?_) (fun h1 => ?_)
  ·
    try simp only [HS] at h1
    exfalso; simp at h1; omega
  try simp only [HS] at h1
  refine W_exit ?_
  refine thenQ_e ?_
  refine loopQ_e ?_
  refine inBlk_y ?_
  refine thenQ_n ?_
  refine W_seq ?_
  refine W_region ?_
  refine ev ?_
  refine ev ?_
  refine WO_nil ?_
  refine thenQ_n ?_
  refine W_ret ?_
  refine Ends_of (.inr rfl) (ret_okF rfl) (by decide) rfl ?_
  · rfl

theorem markStmtS_m (l : List Stmt) (k : Int) (hk : 0 ≤ k) (hb : k + ctL ctStmt l ≤ 1073741824) : MarkF Try.prog 61 (.list 5 (l.map Stmt.tt)) (k) (k + ctL ctStmt l) (.list 5 ((mkL mkStmt ctStmt l k).map Stmt.tt)) := by
  have hlen := ctL_len ctStmt_pos l
  refine MarkF.slice Try.func61 rfl rfl (N := 48) rfl (fun y hy => (by obtain ⟨a, _, rfl⟩ := List.mem_map.1 hy; rfl) ) ( by simp [mkL_len]) (fun h => by cases l with | nil => (rw [show k + ctL ctStmt [] = k from by simp [ctL]]; exact markStmtS_nil k) | cons _ _ => simp at h) (fun b cap vs w0 G F0 => ?_)
  refine W_seq ?_
  refine W_region ?_
  refine ev ?_
  refine WO_nil ?_
  refine thenQ_n ?_
  iterate 2 (refine W_seq ?_)
  refine W_region ?_
  refine ev ?_
  refine WO_nil ?_
  refine thenQ_n ?_
  refine W_block ?_
  refine W_loopK (α := Int × Int × List Value × List T) [0] [] (fun (x : Int × Int × List Value × List T) => [(5, .t (.int (x.1))), (1, .t (.int (x.2.1)))]) (fun (x : Int × Int × List Value × List T) => [(48, .raw b (cap * 5) (x.2.2.1) (x.2.2.2))]) (fun (x : Int × Int × List Value × List T) => 0 ≤ (x.1) ∧ (x.1) ≤ l.length ∧ k ≤ (x.2.1) ∧ (x.2.1) + ctL ctStmt (l.drop (x.1).toNat) = k + ctL ctStmt l ∧ ∃ done : List Stmt, done.length = (x.1).toNat ∧ (x.2.2.2) = done.flatMap Stmt.cl ++ (l.drop (x.1).toNat).flatMap Stmt.cl ∧ mkL mkStmt ctStmt l k = done ++ mkL mkStmt ctStmt (l.drop (x.1).toNat) (x.2.1)) (fun (x : Int × Int × List Value × List T) => Int.toNat (l.length - (x.1))) (0, k, vs, (l.map Stmt.tt).flatMap T.cells) ?_ ?_ ?_ (fun x hx => ?_)
  · repeat (first | exact Sub.nil' | refine Sub.cons' rfl ?_ )
  · repeat (first | exact SubM.nil' | refine SubM.cons' rfl ?_ )
  · exact ⟨by omega, by omega, Int.le_refl k, rfl, [], rfl, by rw [List.flatMap_map]; rfl, rfl⟩
  obtain ⟨i, k', vs', ts⟩ := x
  obtain ⟨hi0, hi1, hkk, hk', done, hd, hts, he⟩ := hx
  try dsimp only at hi0 hi1 hkk hk' hd hts he ⊢
  refine W_norm rfl ?_
  iterate 2 (refine W_seq ?_)
  refine W_region ?_
  refine ev ?_
  refine ev ?_
  refine WO_lenV rfl rfl (lt_of rfl) rfl ⟨71, by kernel_rfl⟩ rfl ?_
  refine ev ?_
  refine WO_nil ?_
  refine thenQ_n ?_
  refine W_cond rfl (fun h1 => ?_) (fun h1 => ?_)
  ·
    try simp only [HS] at h1
    refine W_skip ?_
    refine thenQ_n ?_
    refine W_seq ?_
    refine W_block ?_
    refine W_seq ?_
    refine W_region ?_
    have hD := flat_lens Stmt.cl_len done hd
    have hca := ctL_at ctStmt hi0 h1
    have hcx : ctStmt (l[i.toNat]'(by omega)) = ctStmt (l[i.toNat]'(by omega)) := rfl
    conv at hcx => rhs; unfold ctStmt
    have hcr := ctL_pos ctStmt_pos (l.drop (i + 1).toNat)
    have p0 := ctL_pos ctTok_pos (l[i.toNat]'(by omega)).ex
    rw [drop_at hi0 h1, List.flatMap_cons] at hts
    subst hts
    iterate 3 (refine ev ?_)
    refine WO_idxV tys rfl rfl (lt_of rfl) rfl rfl rfl rfl rfl rfl (by omega) (by first | omega | (simp only [List.length_map]; omega)) ?_
    refine WO_fieldV tys rfl rfl (lt_of rfl) rfl rfl rfl rfl rfl ?_
    refine WO_keep [0, 1, 5, 6, 7, 8, 9, 12, 13, 14, 15, 16] rfl ?_
    refine WO_storeV tys (id := 48) rfl rfl rfl rfl rfl rfl rfl (by exact fgetE hD rfl) rfl rfl rfl ?_
    refine WO_norm rfl ?_
    refine WO_nil ?_
    refine thenQ_n ?_
    refine W_seq ?_
    refine W_region ?_
    refine ev ?_
    refine evI ?_
    refine ev ?_
    refine WO_nil ?_
    refine thenQ_n ?_
    refine W_seq ?_
    refine W_region ?_
    iterate 3 (refine ev ?_)
    refine WO_idxV tys rfl rfl (lt_of rfl) rfl rfl rfl rfl rfl rfl (by omega) (by first | omega | (simp only [List.length_map]; omega)) ?_
    refine WO_fieldV tys rfl rfl (lt_of rfl) rfl rfl rfl rfl rfl ?_
    refine WO_keep [0, 1, 5, 6, 7, 8, 9, 12, 13, 14, 15, 16, 17, 18, 19, 20, 21, 22, 23] rfl ?_
    refine WO_storeV tys (id := 48) rfl rfl rfl rfl rfl rfl rfl (by rw [fset hD]; exact fgetE hD rfl) rfl rfl rfl ?_
    refine WO_norm rfl ?_
    refine WO_nil ?_
    refine thenQ_n ?_
    refine W_seq ?_
    refine W_region ?_
    refine ev ?_
    refine evI ?_
    refine ev ?_
    refine WO_nil ?_
    refine thenQ_n ?_
    refine W_seq ?_
    refine W_region ?_
    refine ev ?_
    refine ev ?_
    refine WO_idxV tys rfl rfl (lt_of rfl) rfl rfl rfl rfl rfl rfl (by omega) (by first | omega | (simp only [List.length_map]; omega)) ?_
    refine WO_fieldV tys rfl rfl (lt_of rfl) rfl rfl rfl rfl rfl ?_
    refine WO_loadV tys (id := 48) rfl rfl (lt_of rfl) rfl rfl rfl rfl rfl (by rw [fset hD, fset hD]; exact fgetE hD rfl) (fun u30 hu30 => ?_)
    refine WO_keep [0, 1, 5, 6, 7, 8, 9, 12, 13, 14, 15, 16, 17, 18, 19, 20, 21, 22, 23, 24, 25, 26, 27, 28, 29, 30] rfl ?_
    refine ev ?_
    refine WO_markN (id := 48) (j := i.toNat * 5 + 2) rfl rfl (lt_of rfl) rfl rfl rfl rfl rfl rfl (hu30) (by rw [fset hD, fset hD]; exact fgetE hD rfl) (markTokS_m (l[i.toNat]'(by omega)).ex (k' + 1 + 1) (by omega) (by omega)) ?_
    refine ev ?_
    refine WO_nil ?_
    refine thenQ_n ?_
    refine W_seq ?_
    refine W_region ?_
    refine ev ?_
    refine ev ?_
    refine WO_idxV tys rfl rfl (lt_of rfl) rfl rfl rfl rfl rfl rfl (by omega) (by first | omega | (simp only [List.length_map]; omega)) ?_
    refine WO_fieldV tys rfl rfl (lt_of rfl) rfl rfl rfl rfl rfl ?_
    refine WO_loadV tys (id := 48) rfl rfl (lt_of rfl) rfl rfl rfl rfl rfl (by rw [fset hD, fset hD, fset hD]; exact fgetE hD rfl) (fun u37 hu37 => ?_)
    refine ev ?_
    refine WO_keep [0, 1, 5, 6, 7, 8, 9, 12, 13, 14, 15, 16, 17, 18, 19, 20, 21, 22, 23, 24, 25, 26, 27, 28, 29, 30, 31, 32, 33, 34, 35, 36, 37, 38] rfl ?_
    refine WO_markN (id := 48) (j := i.toNat * 5 + 3) rfl rfl (lt_of rfl) rfl rfl rfl rfl rfl rfl (hu37) (by rw [fset hD, fset hD, fset hD]; exact fgetE hD rfl) (markIntS_m (l[i.toNat]'(by omega)).thn (k' + 1 + 1 + ctL ctTok (l[i.toNat]'(by omega)).ex) (by omega) (by omega)) ?_
    refine ev ?_
    refine WO_nil ?_
    refine thenQ_n ?_
    refine W_region ?_
    refine ev ?_
    refine ev ?_
    refine WO_idxV tys rfl rfl (lt_of rfl) rfl rfl rfl rfl rfl rfl (by omega) (by first | omega | (simp only [List.length_map]; omega)) ?_
    refine WO_fieldV tys rfl rfl (lt_of rfl) rfl rfl rfl rfl rfl ?_
    refine WO_loadV tys (id := 48) rfl rfl (lt_of rfl) rfl rfl rfl rfl rfl (by rw [fset hD, fset hD, fset hD, fset hD]; exact fgetE hD rfl) (fun u44 hu44 => ?_)
    refine ev ?_
    refine WO_markN (id := 48) (j := i.toNat * 5 + 4) rfl rfl (lt_of rfl) rfl rfl rfl rfl rfl rfl (hu44) (by rw [fset hD, fset hD, fset hD, fset hD]; exact fgetE hD rfl) (markIntS_m (l[i.toNat]'(by omega)).els (k' + 1 + 1 + ctL ctTok (l[i.toNat]'(by omega)).ex + ((l[i.toNat]'(by omega)).thn.length : Int)) (by omega) (by omega)) ?_
    refine WO_keep [0, 1, 5, 6, 7, 8, 9, 12, 13, 14, 15, 16, 17, 18, 19, 20, 21, 22, 23, 24, 25, 26, 27, 28, 29, 30, 31, 32, 33, 34, 35, 36, 37, 38, 39, 40, 41, 42, 43, 44, 45, 46] rfl ?_
    refine ev ?_
    refine WO_nil ?_
    refine inBlk_n ?_
    refine thenQ_n ?_
    refine W_region ?_
    refine ev ?_
    refine evI ?_
    refine ev ?_
    refine WO_nil ?_
    refine loopQ_n (_, _, _, _) (by (try dsimp only); repeat (first | exact Sub.nil' | refine Sub.cons' rfl ?_ )) (by (try dsimp only); repeat (first | exact SubM.nil' | refine SubM.cons' rfl ?_ )) ?_ ?_
    · try dsimp only
      refine ⟨by omega, by omega, by omega, by omega, done ++ [mkStmt (l[i.toNat]'(by omega)) k'], by simp [hd]; omega, ?_, ?_⟩
      · simp only [fset hD]
        rw [List.flatMap_append, List.append_assoc]
        rfl
      · rw [he, drop_at hi0 h1, mkL, List.append_assoc, show k' + ctStmt (l[i.toNat]'(by omega)) = k' + 1 + 1 + ctL ctTok (l[i.toNat]'(by omega)).ex + ((l[i.toNat]'(by omega)).thn.length : Int) + ((l[i.toNat]'(by omega)).els.length : Int) from by omega]
        rfl
    · (show Int.toNat _ < Int.toNat _); omega
  try simp only [HS] at h1
  refine W_exit ?_
  refine thenQ_e ?_
  refine loopQ_e ?_
  refine inBlk_y ?_
  refine thenQ_n ?_
  refine W_seq ?_
  refine W_region ?_
  refine ev ?_
  refine ev ?_
  refine WO_nil ?_
  refine thenQ_n ?_
  refine W_ret ?_
  refine EndsM_slice (.inr rfl) rfl rfl rfl ?_ ?_
  · rw [drop_end h1] at hk'; simp only [ctL_nil] at hk'; omega
  · rw [hts, drop_end h1, he, drop_end h1, List.flatMap_map, mkL, List.append_nil]; exact List.append_nil _

theorem heldStmtS_mk (l : List Stmt) (k : Int) (hk : 0 ≤ k) (hb : k + ctL ctStmt l ≤ 1073741824) : Fun Try.prog 63 [.t (T.Stmts (mkL mkStmt ctStmt l k)), .t (.int k)] (tupD [.t (.int (k + ctL ctStmt l))]) := by
  have hlen := ctL_len ctStmt_pos l
  have hml := mkL_len mkStmt ctStmt l k
  refine Fun.begin tys Try.func63 rfl rfl (N := 58) [(0, .t (T.Stmts (mkL mkStmt ctStmt l k))), (1, .t (.int k))] rfl rfl (fun w0 G F0 => ?_)
  refine W_seq ?_
  refine W_region ?_
  refine ev ?_
  refine WO_nil ?_
  refine thenQ_n ?_
  iterate 2 (refine W_seq ?_)
  refine W_region ?_
  refine ev ?_
  refine WO_nil ?_
  refine thenQ_n ?_
  refine W_block ?_
  refine W_loopK (α := Int × Int) [0] [] (fun (x : Int × Int) => [(5, .t (.int (x.1))), (1, .t (.int (x.2)))]) (fun (x : Int × Int) => []) (fun (x : Int × Int) => 0 ≤ (x.1) ∧ (x.1) ≤ l.length ∧ k ≤ (x.2) ∧ (x.2) + ctL ctStmt (l.drop (x.1).toNat) = k + ctL ctStmt l ∧ (x.2) = k + ctL ctStmt (l.take (x.1).toNat)) (fun (x : Int × Int) => Int.toNat (l.length - (x.1))) (0, k) ?_ ?_ ?_ (fun x hx => ?_)
  · repeat (first | exact Sub.nil' | refine Sub.cons' rfl ?_ )
  · repeat (first | exact SubM.nil' | refine SubM.cons' rfl ?_ )
  · exact ⟨by omega, by omega, Int.le_refl k, rfl, by rw [show l.take (0 : Int).toNat = [] from rfl]; rw [ctL_nil]; omega⟩
  obtain ⟨i, k'⟩ := x
  obtain ⟨hi0, hi1, hkk, hk', hkt⟩ := hx
  try dsimp only at hi0 hi1 hkk hk' hkt ⊢
  refine W_norm rfl ?_
  iterate 2 (refine W_seq ?_)
  refine W_region ?_
  refine ev ?_
  refine ev ?_
  refine evE ?_
  refine ev ?_
  refine WO_nil ?_
  refine thenQ_n ?_
  refine W_cond rfl (fun h1 => ?_) (fun h1 => ?_)
  ·
    try simp only [HS] at h1
    refine W_skip ?_
    refine thenQ_n ?_
    refine W_seq ?_
    refine W_block ?_
    iterate 2 (refine W_seq ?_)
    refine W_region ?_
    have hca := ctL_at ctStmt (l := l) hi0 (by omega)
    have hcx : ctStmt (l[i.toNat]'(by omega)) = ctStmt (l[i.toNat]'(by omega)) := rfl
    conv at hcx => rhs; unfold ctStmt
    have hcr := ctL_pos ctStmt_pos (l.drop (i + 1).toNat)
    have p0 := ctL_pos ctTok_pos (l[i.toNat]'(by omega)).ex
    refine ev ?_
    refine ev ?_
    first | refine WO_idxT tys rfl rfl (lt_of rfl) rfl rfl rfl rfl rfl rfl rfl (by omega) _ (getMk Stmt.tt mkStmt ctStmt hkt (by omega) (by omega)) ?_ | refine WO_idxS tys rfl rfl (lt_of rfl) rfl rfl rfl rfl rfl rfl rfl rfl (by omega) (by omega) ?_
    refine ev ?_
    first | refine ev ?_ | refine WO_loadL tys rfl rfl (lt_of rfl) rfl rfl rfl rfl (getT _ _ (by omega) (by omega)) rfl ?_ | refine WO_loadL tys rfl rfl (lt_of rfl) rfl rfl rfl rfl (getT0 _ _ (by omega) (by omega)) rfl ?_
    refine WO_keep [0, 1, 5, 6, 7, 8, 9, 12, 13, 14, 15, 16] rfl ?_
    refine ev ?_
    refine ev ?_
    refine WO_le (Le.known (t := 18) false rfl (by simp [mkStmt])) ?_
    refine WO_nil ?_
    refine thenQ_n ?_
    refine W_condF rfl ?_
    refine W_skip ?_
    refine thenQ_n ?_
    refine W_seq ?_
    refine W_region ?_
    refine ev ?_
    refine evI ?_
    refine ev ?_
    refine WO_nil ?_
    refine thenQ_n ?_
    iterate 2 (refine W_seq ?_)
    refine W_region ?_
    refine ev ?_
    refine ev ?_
    first | refine WO_idxT tys rfl rfl (lt_of rfl) rfl rfl rfl rfl rfl rfl rfl (by omega) _ (getMk Stmt.tt mkStmt ctStmt hkt (by omega) (by omega)) ?_ | refine WO_idxS tys rfl rfl (lt_of rfl) rfl rfl rfl rfl rfl rfl rfl rfl (by omega) (by omega) ?_
    refine ev ?_
    refine WO_keep [0, 1, 5, 6, 7, 8, 9, 12, 13, 14, 15, 16, 17, 18, 19, 20, 21, 22, 23, 24] rfl ?_
    first | refine ev ?_ | refine WO_loadL tys rfl rfl (lt_of rfl) rfl rfl rfl rfl (getT _ _ (by omega) (by omega)) rfl ?_ | refine WO_loadL tys rfl rfl (lt_of rfl) rfl rfl rfl rfl (getT0 _ _ (by omega) (by omega)) rfl ?_
    refine ev ?_
    refine ev ?_
    refine WO_le (Le.known (t := 27) false rfl (by simp [mkStmt])) ?_
    refine WO_nil ?_
    refine thenQ_n ?_
    refine W_condF rfl ?_
    refine W_skip ?_
    refine thenQ_n ?_
    refine W_seq ?_
    refine W_region ?_
    refine ev ?_
    refine evI ?_
    refine ev ?_
    refine WO_nil ?_
    refine thenQ_n ?_
    refine W_seq ?_
    refine W_region ?_
    refine ev ?_
    refine ev ?_
    first | refine WO_idxT tys rfl rfl (lt_of rfl) rfl rfl rfl rfl rfl rfl rfl (by omega) _ (getMk Stmt.tt mkStmt ctStmt hkt (by omega) (by omega)) ?_ | refine WO_idxS tys rfl rfl (lt_of rfl) rfl rfl rfl rfl rfl rfl rfl rfl (by omega) (by omega) ?_
    refine WO_keep [0, 1, 5, 6, 7, 8, 9, 12, 13, 14, 15, 16, 17, 18, 19, 20, 21, 22, 23, 24, 25, 26, 27, 28, 29, 30, 31, 32] rfl ?_
    refine ev ?_
    first | refine ev ?_ | refine WO_loadL tys rfl rfl (lt_of rfl) rfl rfl rfl rfl (getT _ _ (by omega) (by omega)) rfl ?_ | refine WO_loadL tys rfl rfl (lt_of rfl) rfl rfl rfl rfl (getT0 _ _ (by omega) (by omega)) rfl ?_
    refine ev ?_
    refine callB ?_
    refine ⟨_, heldTokS_mk (l[i.toNat]'(by omega)).ex (k' + 1 + 1) (by omega) (by omega), rfl, ?_⟩
    refine ev ?_
    refine WO_nil ?_
    refine thenQ_n ?_
    iterate 2 (refine W_seq ?_)
    refine W_region ?_
    refine ev ?_
    refine ev ?_
    refine WO_le (Le.known (t := 38) false rfl (by first | (simp; done) | (simp; omega))) ?_
    refine WO_nil ?_
    refine thenQ_n ?_
    refine W_condF rfl ?_
    refine W_skip ?_
    refine thenQ_n ?_
    refine W_seq ?_
    refine W_keep [0, 1, 5, 6, 7, 8, 9, 12, 13, 14, 15, 16, 17, 18, 19, 20, 21, 22, 23, 24, 25, 26, 27, 28, 29, 30, 31, 32, 33, 34, 35, 36, 37, 38] rfl ?_
    refine W_region ?_
    refine ev ?_
    refine ev ?_
    first | refine WO_idxT tys rfl rfl (lt_of rfl) rfl rfl rfl rfl rfl rfl rfl (by omega) _ (getMk Stmt.tt mkStmt ctStmt hkt (by omega) (by omega)) ?_ | refine WO_idxS tys rfl rfl (lt_of rfl) rfl rfl rfl rfl rfl rfl rfl rfl (by omega) (by omega) ?_
    refine ev ?_
    first | refine ev ?_ | refine WO_loadL tys rfl rfl (lt_of rfl) rfl rfl rfl rfl (getT _ _ (by omega) (by omega)) rfl ?_ | refine WO_loadL tys rfl rfl (lt_of rfl) rfl rfl rfl rfl (getT0 _ _ (by omega) (by omega)) rfl ?_
    refine ev ?_
    refine callB ?_
    refine ⟨_, heldIntS_mk (l[i.toNat]'(by omega)).thn (k' + 1 + 1 + ctL ctTok (l[i.toNat]'(by omega)).ex) (by omega) (by omega), rfl, ?_⟩
    refine ev ?_
    refine WO_nil ?_
    refine thenQ_n ?_
    iterate 2 (refine W_seq ?_)
    refine W_keep [0, 1, 5, 6, 7, 8, 9, 12, 13, 14, 15, 16, 17, 18, 19, 20, 21, 22, 23, 24, 25, 26, 27, 28, 29, 30, 31, 32, 33, 34, 35, 36, 37, 38, 39, 40, 41, 42, 43, 44, 45] rfl ?_
    refine W_region ?_
    refine ev ?_
    refine ev ?_
    refine WO_le (Le.known (t := 47) false rfl (by first | (simp; done) | (simp; omega))) ?_
    refine WO_nil ?_
    refine thenQ_n ?_
    refine W_condF rfl ?_
    refine W_skip ?_
    refine thenQ_n ?_
    refine W_seq ?_
    refine W_region ?_
    refine ev ?_
    refine ev ?_
    first | refine WO_idxT tys rfl rfl (lt_of rfl) rfl rfl rfl rfl rfl rfl rfl (by omega) _ (getMk Stmt.tt mkStmt ctStmt hkt (by omega) (by omega)) ?_ | refine WO_idxS tys rfl rfl (lt_of rfl) rfl rfl rfl rfl rfl rfl rfl rfl (by omega) (by omega) ?_
    refine ev ?_
    first | refine ev ?_ | refine WO_loadL tys rfl rfl (lt_of rfl) rfl rfl rfl rfl (getT _ _ (by omega) (by omega)) rfl ?_ | refine WO_loadL tys rfl rfl (lt_of rfl) rfl rfl rfl rfl (getT0 _ _ (by omega) (by omega)) rfl ?_
    refine ev ?_
    refine callB ?_
    refine ⟨_, heldIntS_mk (l[i.toNat]'(by omega)).els (k' + 1 + 1 + ctL ctTok (l[i.toNat]'(by omega)).ex + ((l[i.toNat]'(by omega)).thn.length : Int)) (by omega) (by omega), rfl, ?_⟩
    refine WO_keep [0, 1, 5, 6, 7, 8, 9, 12, 13, 14, 15, 16, 17, 18, 19, 20, 21, 22, 23, 24, 25, 26, 27, 28, 29, 30, 31, 32, 33, 34, 35, 36, 37, 38, 39, 40, 41, 42, 43, 44, 45, 46, 47, 48, 49, 50, 51, 52, 53, 54] rfl ?_
    refine ev ?_
    refine WO_nil ?_
    refine thenQ_n ?_
    refine W_seq ?_
    refine W_region ?_
    refine ev ?_
    refine ev ?_
    refine WO_le (Le.known (t := 56) false rfl (by first | (simp; done) | (simp; omega))) ?_
    refine WO_nil ?_
    refine thenQ_n ?_
    refine W_condF rfl ?_
    refine W_skip ?_
    refine inBlk_n ?_
    refine thenQ_n ?_
    refine W_region ?_
    refine ev ?_
    refine evI ?_
    refine ev ?_
    refine WO_nil ?_
    refine loopQ_n (_, _) (by (try dsimp only); repeat (first | exact Sub.nil' | refine Sub.cons' rfl ?_ )) (by (try dsimp only); repeat (first | exact SubM.nil' | refine SubM.cons' rfl ?_ )) ?_ ?_
    · try dsimp only
      refine ⟨by omega, by omega, by omega, by omega, ?_⟩
      rw [ctL_take ctStmt hi0 (by omega)]
      omega
    · (show Int.toNat _ < Int.toNat _); omega
  try simp only [HS] at h1
  refine W_exit ?_
  refine thenQ_e ?_
  refine loopQ_e ?_
  refine inBlk_y ?_
  refine thenQ_n ?_
  refine W_seq ?_
  refine W_region ?_
  refine ev ?_
  refine ev ?_
  refine WO_nil ?_
  refine thenQ_n ?_
  refine W_ret ?_
  refine Ends_of (.inr rfl) (ret_okF rfl) (by decide) rfl ?_
  · rw [drop_end (by omega)] at hk'; simp only [ctL_nil] at hk'; refine congrArg (fun n => [D.t (T.int n)]) ?_; omega

def mkFunc (x : Func) (k : Int) : Func := ⟨k, k + 1, mkI x.body (k + 1 + 1), mkL mkStmt ctStmt x.stmts (k + 1 + 1 + (x.body.length : Int))⟩
def ctFunc (x : Func) : Int := 1 + 1 + (x.body.length : Int) + ctL ctStmt x.stmts
theorem ctFunc_pos (x : Func) : 1 ≤ ctFunc x := by
  have p1 := ctL_pos ctStmt_pos x.stmts
  unfold ctFunc; omega
def Func.cl (x : Func) : List T := (Func.tt x).cells
theorem Func.cl_len (x : Func) : x.cl.length = 4 := rfl

theorem markFuncS_nil (k : Int) : Fun Try.prog 28 [.t (.list 4 []), .t (.int k)] (tupD [.t (.int k)]) := by
  refine Fun.begin tys Try.func28 rfl rfl (N := 41) [(0, .t (.list 4 [])), (1, .t (.int k))] rfl rfl (fun w0 G F0 => ?_)
  refine W_seq ?_
  refine W_region ?_
  refine ev ?_
  refine WO_nil ?_
  refine thenQ_n ?_
  iterate 2 (refine W_seq ?_)
  refine W_region ?_
  refine ev ?_
  refine WO_nil ?_
  refine thenQ_n ?_
  refine W_block ?_
  refine W_loopK (α := Int) [0, 1] [] (fun (x : Int) => [(5, .t (.int x))]) (fun (x : Int) => []) (fun (x : Int) => 0 ≤ x) (fun (x : Int) => Int.toNat (0)) 0 ?_ ?_ ?_ (fun z hx => ?_)
  · repeat (first | exact Sub.nil' | refine Sub.cons' rfl ?_ )
  · repeat (first | exact SubM.nil' | refine SubM.cons' rfl ?_ )
  · exact Int.le_refl 0
  have hz := hx
  refine W_norm rfl ?_
  iterate 2 (refine W_seq ?_)
  refine W_region ?_
  refine ev ?_
  refine ev ?_
  refine evE ?_
  refine ev ?_
  refine WO_nil ?_
  refine thenQ_n ?_
  refine W_cond rfl (fun h1 => ?_) (fun h1 => ?_)
  ·
    try simp only [HS] at h1
    exfalso; simp at h1; omega
  try simp only [HS] at h1
  refine W_exit ?_
  refine thenQ_e ?_
  refine loopQ_e ?_
  refine inBlk_y ?_
  refine thenQ_n ?_
  refine W_seq ?_
  refine W_region ?_
  refine ev ?_
  refine ev ?_
  refine WO_nil ?_
  refine thenQ_n ?_
  refine W_ret ?_
  refine Ends_of (.inr rfl) (ret_okF rfl) (by decide) rfl ?_
  · rfl

theorem markFuncS_m (l : List Func) (k : Int) (hk : 0 ≤ k) (hb : k + ctL ctFunc l ≤ 1073741824) : MarkF Try.prog 28 (.list 4 (l.map Func.tt)) (k) (k + ctL ctFunc l) (.list 4 ((mkL mkFunc ctFunc l k).map Func.tt)) := by
  have hlen := ctL_len ctFunc_pos l
  refine MarkF.slice Try.func28 rfl rfl (N := 41) rfl (fun y hy => (by obtain ⟨a, _, rfl⟩ := List.mem_map.1 hy; rfl) ) ( by simp [mkL_len]) (fun h => by cases l with | nil => (rw [show k + ctL ctFunc [] = k from by simp [ctL]]; exact markFuncS_nil k) | cons _ _ => simp at h) (fun b cap vs w0 G F0 => ?_)
  refine W_seq ?_
  refine W_region ?_
  refine ev ?_
  refine WO_nil ?_
  refine thenQ_n ?_
  iterate 2 (refine W_seq ?_)
  refine W_region ?_
  refine ev ?_
  refine WO_nil ?_
  refine thenQ_n ?_
  refine W_block ?_
  refine W_loopK (α := Int × Int × List Value × List T) [0] [] (fun (x : Int × Int × List Value × List T) => [(5, .t (.int (x.1))), (1, .t (.int (x.2.1)))]) (fun (x : Int × Int × List Value × List T) => [(41, .raw b (cap * 4) (x.2.2.1) (x.2.2.2))]) (fun (x : Int × Int × List Value × List T) => 0 ≤ (x.1) ∧ (x.1) ≤ l.length ∧ k ≤ (x.2.1) ∧ (x.2.1) + ctL ctFunc (l.drop (x.1).toNat) = k + ctL ctFunc l ∧ ∃ done : List Func, done.length = (x.1).toNat ∧ (x.2.2.2) = done.flatMap Func.cl ++ (l.drop (x.1).toNat).flatMap Func.cl ∧ mkL mkFunc ctFunc l k = done ++ mkL mkFunc ctFunc (l.drop (x.1).toNat) (x.2.1)) (fun (x : Int × Int × List Value × List T) => Int.toNat (l.length - (x.1))) (0, k, vs, (l.map Func.tt).flatMap T.cells) ?_ ?_ ?_ (fun x hx => ?_)
  · repeat (first | exact Sub.nil' | refine Sub.cons' rfl ?_ )
  · repeat (first | exact SubM.nil' | refine SubM.cons' rfl ?_ )
  · exact ⟨by omega, by omega, Int.le_refl k, rfl, [], rfl, by rw [List.flatMap_map]; rfl, rfl⟩
  obtain ⟨i, k', vs', ts⟩ := x
  obtain ⟨hi0, hi1, hkk, hk', done, hd, hts, he⟩ := hx
  try dsimp only at hi0 hi1 hkk hk' hd hts he ⊢
  refine W_norm rfl ?_
  iterate 2 (refine W_seq ?_)
  refine W_region ?_
  refine ev ?_
  refine ev ?_
  refine WO_lenV rfl rfl (lt_of rfl) rfl ⟨48, by kernel_rfl⟩ rfl ?_
  refine ev ?_
  refine WO_nil ?_
  refine thenQ_n ?_
  refine W_cond rfl (fun h1 => ?_) (fun h1 => ?_)
  ·
    try simp only [HS] at h1
    refine W_skip ?_
    refine thenQ_n ?_
    refine W_seq ?_
    refine W_block ?_
    refine W_seq ?_
    refine W_region ?_
    have hD := flat_lens Func.cl_len done hd
    have hca := ctL_at ctFunc hi0 h1
    have hcx : ctFunc (l[i.toNat]'(by omega)) = ctFunc (l[i.toNat]'(by omega)) := rfl
    conv at hcx => rhs; unfold ctFunc
    have hcr := ctL_pos ctFunc_pos (l.drop (i + 1).toNat)
    have p0 := ctL_pos ctStmt_pos (l[i.toNat]'(by omega)).stmts
    rw [drop_at hi0 h1, List.flatMap_cons] at hts
    subst hts
    iterate 3 (refine ev ?_)
    refine WO_idxV tys rfl rfl (lt_of rfl) rfl rfl rfl rfl rfl rfl (by omega) (by first | omega | (simp only [List.length_map]; omega)) ?_
    refine WO_fieldV tys rfl rfl (lt_of rfl) rfl rfl rfl rfl rfl ?_
    refine WO_keep [0, 1, 5, 6, 7, 8, 9, 12, 13, 14, 15, 16] rfl ?_
    refine WO_storeV tys (id := 41) rfl rfl rfl rfl rfl rfl rfl (by exact fgetE hD rfl) rfl rfl rfl ?_
    refine WO_norm rfl ?_
    refine WO_nil ?_
    refine thenQ_n ?_
    refine W_seq ?_
    refine W_region ?_
    refine ev ?_
    refine evI ?_
    refine ev ?_
    refine WO_nil ?_
    refine thenQ_n ?_
    refine W_seq ?_
    refine W_region ?_
    iterate 3 (refine ev ?_)
    refine WO_idxV tys rfl rfl (lt_of rfl) rfl rfl rfl rfl rfl rfl (by omega) (by first | omega | (simp only [List.length_map]; omega)) ?_
    refine WO_fieldV tys rfl rfl (lt_of rfl) rfl rfl rfl rfl rfl ?_
    refine WO_keep [0, 1, 5, 6, 7, 8, 9, 12, 13, 14, 15, 16, 17, 18, 19, 20, 21, 22, 23] rfl ?_
    refine WO_storeV tys (id := 41) rfl rfl rfl rfl rfl rfl rfl (by rw [fset hD]; exact fgetE hD rfl) rfl rfl rfl ?_
    refine WO_norm rfl ?_
    refine WO_nil ?_
    refine thenQ_n ?_
    refine W_seq ?_
    refine W_region ?_
    refine ev ?_
    refine evI ?_
    refine ev ?_
    refine WO_nil ?_
    refine thenQ_n ?_
    refine W_seq ?_
    refine W_region ?_
    refine ev ?_
    refine ev ?_
    refine WO_idxV tys rfl rfl (lt_of rfl) rfl rfl rfl rfl rfl rfl (by omega) (by first | omega | (simp only [List.length_map]; omega)) ?_
    refine WO_fieldV tys rfl rfl (lt_of rfl) rfl rfl rfl rfl rfl ?_
    refine WO_loadV tys (id := 41) rfl rfl (lt_of rfl) rfl rfl rfl rfl rfl (by rw [fset hD, fset hD]; exact fgetE hD rfl) (fun u30 hu30 => ?_)
    refine WO_keep [0, 1, 5, 6, 7, 8, 9, 12, 13, 14, 15, 16, 17, 18, 19, 20, 21, 22, 23, 24, 25, 26, 27, 28, 29, 30] rfl ?_
    refine ev ?_
    refine WO_markN (id := 41) (j := i.toNat * 4 + 2) rfl rfl (lt_of rfl) rfl rfl rfl rfl rfl rfl (hu30) (by rw [fset hD, fset hD]; exact fgetE hD rfl) (markIntS_m (l[i.toNat]'(by omega)).body (k' + 1 + 1) (by omega) (by omega)) ?_
    refine ev ?_
    refine WO_nil ?_
    refine thenQ_n ?_
    refine W_region ?_
    refine ev ?_
    refine ev ?_
    refine WO_idxV tys rfl rfl (lt_of rfl) rfl rfl rfl rfl rfl rfl (by omega) (by first | omega | (simp only [List.length_map]; omega)) ?_
    refine WO_fieldV tys rfl rfl (lt_of rfl) rfl rfl rfl rfl rfl ?_
    refine WO_loadV tys (id := 41) rfl rfl (lt_of rfl) rfl rfl rfl rfl rfl (by rw [fset hD, fset hD, fset hD]; exact fgetE hD rfl) (fun u37 hu37 => ?_)
    refine ev ?_
    refine WO_keep [0, 1, 5, 6, 7, 8, 9, 12, 13, 14, 15, 16, 17, 18, 19, 20, 21, 22, 23, 24, 25, 26, 27, 28, 29, 30, 31, 32, 33, 34, 35, 36, 37, 38] rfl ?_
    refine WO_markN (id := 41) (j := i.toNat * 4 + 3) rfl rfl (lt_of rfl) rfl rfl rfl rfl rfl rfl (hu37) (by rw [fset hD, fset hD, fset hD]; exact fgetE hD rfl) (markStmtS_m (l[i.toNat]'(by omega)).stmts (k' + 1 + 1 + ((l[i.toNat]'(by omega)).body.length : Int)) (by omega) (by omega)) ?_
    refine ev ?_
    refine WO_nil ?_
    refine inBlk_n ?_
    refine thenQ_n ?_
    refine W_region ?_
    refine ev ?_
    refine evI ?_
    refine ev ?_
    refine WO_nil ?_
    refine loopQ_n (_, _, _, _) (by (try dsimp only); repeat (first | exact Sub.nil' | refine Sub.cons' rfl ?_ )) (by (try dsimp only); repeat (first | exact SubM.nil' | refine SubM.cons' rfl ?_ )) ?_ ?_
    · try dsimp only
      refine ⟨by omega, by omega, by omega, by omega, done ++ [mkFunc (l[i.toNat]'(by omega)) k'], by simp [hd]; omega, ?_, ?_⟩
      · simp only [fset hD]
        rw [List.flatMap_append, List.append_assoc]
        rfl
      · rw [he, drop_at hi0 h1, mkL, List.append_assoc, show k' + ctFunc (l[i.toNat]'(by omega)) = k' + 1 + 1 + ((l[i.toNat]'(by omega)).body.length : Int) + ctL ctStmt (l[i.toNat]'(by omega)).stmts from by omega]
        rfl
    · (show Int.toNat _ < Int.toNat _); omega
  try simp only [HS] at h1
  refine W_exit ?_
  refine thenQ_e ?_
  refine loopQ_e ?_
  refine inBlk_y ?_
  refine thenQ_n ?_
  refine W_seq ?_
  refine W_region ?_
  refine ev ?_
  refine ev ?_
  refine WO_nil ?_
  refine thenQ_n ?_
  refine W_ret ?_
  refine EndsM_slice (.inr rfl) rfl rfl rfl ?_ ?_
  · rw [drop_end h1] at hk'; simp only [ctL_nil] at hk'; omega
  · rw [hts, drop_end h1, he, drop_end h1, List.flatMap_map, mkL, List.append_nil]; exact List.append_nil _

theorem heldFuncS_mk (l : List Func) (k : Int) (hk : 0 ≤ k) (hb : k + ctL ctFunc l ≤ 1073741824) : Fun Try.prog 29 [.t (T.Funcs (mkL mkFunc ctFunc l k)), .t (.int k)] (tupD [.t (.int (k + ctL ctFunc l))]) := by
  have hlen := ctL_len ctFunc_pos l
  have hml := mkL_len mkFunc ctFunc l k
  refine Fun.begin tys Try.func29 rfl rfl (N := 49) [(0, .t (T.Funcs (mkL mkFunc ctFunc l k))), (1, .t (.int k))] rfl rfl (fun w0 G F0 => ?_)
  refine W_seq ?_
  refine W_region ?_
  refine ev ?_
  refine WO_nil ?_
  refine thenQ_n ?_
  iterate 2 (refine W_seq ?_)
  refine W_region ?_
  refine ev ?_
  refine WO_nil ?_
  refine thenQ_n ?_
  refine W_block ?_
  refine W_loopK (α := Int × Int) [0] [] (fun (x : Int × Int) => [(5, .t (.int (x.1))), (1, .t (.int (x.2)))]) (fun (x : Int × Int) => []) (fun (x : Int × Int) => 0 ≤ (x.1) ∧ (x.1) ≤ l.length ∧ k ≤ (x.2) ∧ (x.2) + ctL ctFunc (l.drop (x.1).toNat) = k + ctL ctFunc l ∧ (x.2) = k + ctL ctFunc (l.take (x.1).toNat)) (fun (x : Int × Int) => Int.toNat (l.length - (x.1))) (0, k) ?_ ?_ ?_ (fun x hx => ?_)
  · repeat (first | exact Sub.nil' | refine Sub.cons' rfl ?_ )
  · repeat (first | exact SubM.nil' | refine SubM.cons' rfl ?_ )
  · exact ⟨by omega, by omega, Int.le_refl k, rfl, by rw [show l.take (0 : Int).toNat = [] from rfl]; rw [ctL_nil]; omega⟩
  obtain ⟨i, k'⟩ := x
  obtain ⟨hi0, hi1, hkk, hk', hkt⟩ := hx
  try dsimp only at hi0 hi1 hkk hk' hkt ⊢
  refine W_norm rfl ?_
  iterate 2 (refine W_seq ?_)
  refine W_region ?_
  refine ev ?_
  refine ev ?_
  refine evE ?_
  refine ev ?_
  refine WO_nil ?_
  refine thenQ_n ?_
  refine W_cond rfl (fun h1 => ?_) (fun h1 => ?_)
  ·
    try simp only [HS] at h1
    refine W_skip ?_
    refine thenQ_n ?_
    refine W_seq ?_
    refine W_block ?_
    iterate 2 (refine W_seq ?_)
    refine W_region ?_
    have hca := ctL_at ctFunc (l := l) hi0 (by omega)
    have hcx : ctFunc (l[i.toNat]'(by omega)) = ctFunc (l[i.toNat]'(by omega)) := rfl
    conv at hcx => rhs; unfold ctFunc
    have hcr := ctL_pos ctFunc_pos (l.drop (i + 1).toNat)
    have p0 := ctL_pos ctStmt_pos (l[i.toNat]'(by omega)).stmts
    refine ev ?_
    refine ev ?_
    first | refine WO_idxT tys rfl rfl (lt_of rfl) rfl rfl rfl rfl rfl rfl rfl (by omega) _ (getMk Func.tt mkFunc ctFunc hkt (by omega) (by omega)) ?_ | refine WO_idxS tys rfl rfl (lt_of rfl) rfl rfl rfl rfl rfl rfl rfl rfl (by omega) (by omega) ?_
    refine ev ?_
    first | refine ev ?_ | refine WO_loadL tys rfl rfl (lt_of rfl) rfl rfl rfl rfl (getT _ _ (by omega) (by omega)) rfl ?_ | refine WO_loadL tys rfl rfl (lt_of rfl) rfl rfl rfl rfl (getT0 _ _ (by omega) (by omega)) rfl ?_
    refine WO_keep [0, 1, 5, 6, 7, 8, 9, 12, 13, 14, 15, 16] rfl ?_
    refine ev ?_
    refine ev ?_
    refine WO_le (Le.known (t := 18) false rfl (by simp [mkFunc])) ?_
    refine WO_nil ?_
    refine thenQ_n ?_
    refine W_condF rfl ?_
    refine W_skip ?_
    refine thenQ_n ?_
    refine W_seq ?_
    refine W_region ?_
    refine ev ?_
    refine evI ?_
    refine ev ?_
    refine WO_nil ?_
    refine thenQ_n ?_
    iterate 2 (refine W_seq ?_)
    refine W_region ?_
    refine ev ?_
    refine ev ?_
    first | refine WO_idxT tys rfl rfl (lt_of rfl) rfl rfl rfl rfl rfl rfl rfl (by omega) _ (getMk Func.tt mkFunc ctFunc hkt (by omega) (by omega)) ?_ | refine WO_idxS tys rfl rfl (lt_of rfl) rfl rfl rfl rfl rfl rfl rfl rfl (by omega) (by omega) ?_
    refine ev ?_
    refine WO_keep [0, 1, 5, 6, 7, 8, 9, 12, 13, 14, 15, 16, 17, 18, 19, 20, 21, 22, 23, 24] rfl ?_
    first | refine ev ?_ | refine WO_loadL tys rfl rfl (lt_of rfl) rfl rfl rfl rfl (getT _ _ (by omega) (by omega)) rfl ?_ | refine WO_loadL tys rfl rfl (lt_of rfl) rfl rfl rfl rfl (getT0 _ _ (by omega) (by omega)) rfl ?_
    refine ev ?_
    refine ev ?_
    refine WO_le (Le.known (t := 27) false rfl (by simp [mkFunc])) ?_
    refine WO_nil ?_
    refine thenQ_n ?_
    refine W_condF rfl ?_
    refine W_skip ?_
    refine thenQ_n ?_
    refine W_seq ?_
    refine W_region ?_
    refine ev ?_
    refine evI ?_
    refine ev ?_
    refine WO_nil ?_
    refine thenQ_n ?_
    refine W_seq ?_
    refine W_region ?_
    refine ev ?_
    refine ev ?_
    first | refine WO_idxT tys rfl rfl (lt_of rfl) rfl rfl rfl rfl rfl rfl rfl (by omega) _ (getMk Func.tt mkFunc ctFunc hkt (by omega) (by omega)) ?_ | refine WO_idxS tys rfl rfl (lt_of rfl) rfl rfl rfl rfl rfl rfl rfl rfl (by omega) (by omega) ?_
    refine WO_keep [0, 1, 5, 6, 7, 8, 9, 12, 13, 14, 15, 16, 17, 18, 19, 20, 21, 22, 23, 24, 25, 26, 27, 28, 29, 30, 31, 32] rfl ?_
    refine ev ?_
    first | refine ev ?_ | refine WO_loadL tys rfl rfl (lt_of rfl) rfl rfl rfl rfl (getT _ _ (by omega) (by omega)) rfl ?_ | refine WO_loadL tys rfl rfl (lt_of rfl) rfl rfl rfl rfl (getT0 _ _ (by omega) (by omega)) rfl ?_
    refine ev ?_
    refine callB ?_
    refine ⟨_, heldIntS_mk (l[i.toNat]'(by omega)).body (k' + 1 + 1) (by omega) (by omega), rfl, ?_⟩
    refine ev ?_
    refine WO_nil ?_
    refine thenQ_n ?_
    iterate 2 (refine W_seq ?_)
    refine W_region ?_
    refine ev ?_
    refine ev ?_
    refine WO_le (Le.known (t := 38) false rfl (by first | (simp; done) | (simp; omega))) ?_
    refine WO_nil ?_
    refine thenQ_n ?_
    refine W_condF rfl ?_
    refine W_skip ?_
    refine thenQ_n ?_
    refine W_seq ?_
    refine W_keep [0, 1, 5, 6, 7, 8, 9, 12, 13, 14, 15, 16, 17, 18, 19, 20, 21, 22, 23, 24, 25, 26, 27, 28, 29, 30, 31, 32, 33, 34, 35, 36, 37, 38] rfl ?_
    refine W_region ?_
    refine ev ?_
    refine ev ?_
    first | refine WO_idxT tys rfl rfl (lt_of rfl) rfl rfl rfl rfl rfl rfl rfl (by omega) _ (getMk Func.tt mkFunc ctFunc hkt (by omega) (by omega)) ?_ | refine WO_idxS tys rfl rfl (lt_of rfl) rfl rfl rfl rfl rfl rfl rfl rfl (by omega) (by omega) ?_
    refine ev ?_
    first | refine ev ?_ | refine WO_loadL tys rfl rfl (lt_of rfl) rfl rfl rfl rfl (getT _ _ (by omega) (by omega)) rfl ?_ | refine WO_loadL tys rfl rfl (lt_of rfl) rfl rfl rfl rfl (getT0 _ _ (by omega) (by omega)) rfl ?_
    refine ev ?_
    refine callB ?_
    refine ⟨_, heldStmtS_mk (l[i.toNat]'(by omega)).stmts (k' + 1 + 1 + ((l[i.toNat]'(by omega)).body.length : Int)) (by omega) (by omega), rfl, ?_⟩
    refine ev ?_
    refine WO_nil ?_
    refine thenQ_n ?_
    refine W_seq ?_
    refine W_keep [0, 1, 5, 6, 7, 8, 9, 12, 13, 14, 15, 16, 17, 18, 19, 20, 21, 22, 23, 24, 25, 26, 27, 28, 29, 30, 31, 32, 33, 34, 35, 36, 37, 38, 39, 40, 41, 42, 43, 44, 45] rfl ?_
    refine W_region ?_
    refine ev ?_
    refine ev ?_
    refine WO_le (Le.known (t := 47) false rfl (by first | (simp; done) | (simp; omega))) ?_
    refine WO_nil ?_
    refine thenQ_n ?_
    refine W_condF rfl ?_
    refine W_skip ?_
    refine inBlk_n ?_
    refine thenQ_n ?_
    refine W_region ?_
    refine ev ?_
    refine evI ?_
    refine ev ?_
    refine WO_nil ?_
    refine loopQ_n (_, _) (by (try dsimp only); repeat (first | exact Sub.nil' | refine Sub.cons' rfl ?_ )) (by (try dsimp only); repeat (first | exact SubM.nil' | refine SubM.cons' rfl ?_ )) ?_ ?_
    · try dsimp only
      refine ⟨by omega, by omega, by omega, by omega, ?_⟩
      rw [ctL_take ctFunc hi0 (by omega)]
      omega
    · (show Int.toNat _ < Int.toNat _); omega
  try simp only [HS] at h1
  refine W_exit ?_
  refine thenQ_e ?_
  refine loopQ_e ?_
  refine inBlk_y ?_
  refine thenQ_n ?_
  refine W_seq ?_
  refine W_region ?_
  refine ev ?_
  refine ev ?_
  refine WO_nil ?_
  refine thenQ_n ?_
  refine W_ret ?_
  refine Ends_of (.inr rfl) (ret_okF rfl) (by decide) rfl ?_
  · rw [drop_end (by omega)] at hk'; simp only [ctL_nil] at hk'; refine congrArg (fun n => [D.t (T.int n)]) ?_; omega

def mkProg (x : Prog) (k : Int) : Prog := ⟨mkL mkFunc ctFunc x.funcs (k)⟩
def ctProg (x : Prog) : Int := ctL ctFunc x.funcs
theorem markProg_m (x : Prog) (k : Int) (hk : 0 ≤ k) (hb : k + ctProg x ≤ 1073741824) : MarkF Try.prog 11 (.agg ([T.Funcs x.funcs])) (k) (k + ctProg x) (.agg ([T.Funcs (mkL mkFunc ctFunc x.funcs (k))])) := by
  have hb2 := hb
  unfold ctProg at hb2
  have p0 := ctL_pos ctFunc_pos x.funcs
  refine MarkF.struct Try.func11 rfl rfl (N := 10) rfl (fun vs hvs hone w0 G F0 => ?_)
  obtain ⟨a0, rfl⟩ : ∃ a0, vs = [a0] := by
    match vs, hvs with
    | [a0], _ => exact ⟨_, rfl⟩
  refine W_seq ?_
  refine W_region ?_
  refine WO_box rfl rfl (lt_of rfl) rfl rfl ?_
  refine WO_norm rfl ?_
  refine ev ?_
  refine WO_nil ?_
  refine thenQ_n ?_
  refine W_seq ?_
  refine W_region ?_
  iterate 3 (refine ev ?_)
  refine WO_markN (id := 10) (j := 0) rfl rfl (lt_of rfl) rfl rfl rfl rfl rfl rfl (rfl) (rfl) (markFuncS_m x.funcs (k) (by omega) (by omega)) ?_
  refine ev ?_
  refine WO_nil ?_
  refine thenQ_n ?_
  refine W_seq ?_
  refine W_keep [1, 4] rfl ?_
  refine W_region ?_
  refine ev ?_
  refine ev ?_
  refine WO_nil ?_
  refine thenQ_n ?_
  refine W_ret ?_
  refine EndsM_struct (.inr rfl) rfl rfl rfl ?_ ?_
  · unfold ctProg; omega
  · rfl

theorem heldProg_mk (x : Prog) (k : Int) (hk : 0 ≤ k) (hb : k + ctProg x ≤ 1073741824) : Fun Try.prog 12 [.t (mkProg x k).tt, .t (.int k)] (tupD [.t (.int (k + ctProg x))]) := by
  have hb2 := hb
  unfold ctProg at hb2
  have p0 := ctL_pos ctFunc_pos x.funcs
  refine Fun.begin tys Try.func12 rfl rfl (N := 12) [(0, .t (mkProg x k).tt), (1, .t (.int k))] rfl rfl (fun w0 G F0 => ?_)
  refine W_seq ?_
  refine W_region ?_
  refine WO_box rfl rfl (lt_of rfl) rfl rfl ?_
  refine WO_norm rfl ?_
  refine ev ?_
  refine WO_nil ?_
  refine thenQ_n ?_
  refine W_seq ?_
  refine W_region ?_
  iterate 3 (refine ev ?_)
  refine callB ?_
  refine ⟨_, heldFuncS_mk x.funcs (k) (by omega) (by omega), rfl, ?_⟩
  refine ev ?_
  refine WO_nil ?_
  refine thenQ_n ?_
  iterate 2 (refine W_seq ?_)
  refine W_keep [1, 4] rfl ?_
  refine W_region ?_
  refine ev ?_
  refine ev ?_
  refine WO_le (Le.known (t := 10) false rfl (by first | (simp; done) | (simp; omega))) ?_
  refine WO_nil ?_
  refine thenQ_n ?_
  refine W_condF rfl ?_
  refine W_skip ?_
  refine thenQ_n ?_
  refine W_seq ?_
  refine W_region ?_
  refine ev ?_
  refine ev ?_
  refine WO_nil ?_
  refine thenQ_n ?_
  refine W_ret ?_
  refine Ends_of (.inr rfl) (ret_okF rfl) (by decide) rfl ?_
  · refine congrArg (fun n => [D.t (T.int n)]) ?_; unfold ctProg; omega


theorem szStmt_c (x : Stmt) : SzC (szStmt x) (ctStmt x - 8) :=
  (szSeq_cs (szLen_cl (ct := ctTok) (fun t => by unfold ctTok; omega) x.ex) (szSeq_cs (szIntS_c x.thn) (szSeq_cs (szIntS_c x.els) szSeq_cn))).mono (by unfold ctStmt; omega)
theorem szFunc_c (x : Func) : SzC (szFunc x) (ctFunc x - 8) :=
  (szSeq_cs (szIntS_c x.body) (szSeq_cs (szL_c szStmt_c x.stmts) szSeq_cn)).mono (by unfold ctFunc; omega)
theorem szProg_c (x : Prog) : SzC (szProg x) (ctProg x) :=
  (szSeq_cs (szL_c szFunc_c x.funcs) szSeq_cn).mono (by unfold ctProg; omega)
theorem ctProg_small {p : Prog} (h : 0 ≤ szProg p 1048576) : ctProg p ≤ 8388608 := by
  have := szProg_c p 1048576 (by omega) h
  omega

end Go.Proofs.Ytimpganophnehaa
