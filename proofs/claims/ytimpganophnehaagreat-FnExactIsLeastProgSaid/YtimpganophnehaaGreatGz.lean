/- Walks of DropStmt: the program's. -/
import Derived.Test.YtimpganophnehaaGreatGy
import Derived.Test.YtimpganophnehaaGreatGn
import Derived.Test.YtimpganophnehaaGreatMd
set_option linter.unusedVariables false
set_option linter.unusedSimpArgs false
set_option maxRecDepth 10000
set_option maxHeartbeats 1000000
namespace Go.Proofs.YtimpganophnehaaGreat
open Go.Eng

theorem delS_fun (b n cap i j : Nat) (vs : List Value) (hij : i ≤ j) (hj : j ≤ n) (hn : n ≤ cap) (hl : vs.length = n * 5) : Proc Tryz.prog 130 [.t (.v (.slice (some ⟨b, 0, none⟩) n cap)), .t (.int (i : Nat)), .t (.int (j : Nat))] ([]) ([]) [.raw b (cap * 5) vs (vs.map T.v)] (.t (.v (.slice (some ⟨b, 0, none⟩) (n - (j - i)) cap))) [.raw b (cap * 5) (vs.take (i * 5) ++ vs.drop (j * 5)) ((vs.take (i * 5) ++ vs.drop (j * 5)).map T.v)] := by
 refine Proc.intro tys Tryz.func130 rfl rfl (N := 33) [100] 99 ([(0, .t (.v (.slice (some ⟨b, 0, none⟩) n cap))), (1, .t (.int (i : Nat))), (2, .t (.int (j : Nat)))]) ([(100, .raw b (cap * 5) vs (vs.map T.v)), (99, .ro [] [])]) rfl rfl rfl rfl (by decide) (by decide) rfl (fun w0 G F0 => ?_)
 refine nY rfl (sQ (rG (eZ rfl (oN (tN (sQ (rG (eK 4 rfl (WO_lenV rfl rfl (lt_of rfl) rfl ⟨86, by kernel_rfl⟩ rfl (WO_slice3V tys rfl rfl (lt_of rfl) rfl rfl rfl rfl rfl rfl rfl rfl (by omega) (by omega) (by omega) (by omega) (oN (tN (sQ (sQ (kY [0,1,2,6] rfl ?_)))))))))))))))
 refine rG (eK 3 rfl (oN (tN ?_)))
 refine W_cond rfl (fun h1 => ?_) (fun h1 => ?_)
 ·
  simp only [HS] at h1
  refine sQ (rG (eK 2 rfl (oN (tN (rT (tR ?_))))))
  refine EndsP_of (ks := [_]) (.inr rfl) (ret_okF rfl) (by decide) rfl (noR_spec rfl) (by repeat (first | exact trivial | refine ⟨rfl, rfl, ?_⟩)) ?_ ?_
  ·(have h5 : (i : Int) = j := (by assumption); have h6 : i = j := (by omega); subst h6; show D.t (T.v (Value.slice _ _ _)) = D.t (T.v (Value.slice _ _ _)); rw [Nat.sub_self]; rfl)
  ·(have h5 : (i : Int) = j := (by assumption); have h6 : i = j := (by omega); subst h6; simp; done)
 simp only [HS] at h1
 refine W_skip (tN (sQ (rG (eZ rfl (WO_lenV rfl rfl (lt_of rfl) rfl ⟨86, by kernel_rfl⟩ rfl (eZ rfl (oN (tN (sQ (W_regionDm 6 mixed rfl (by kernel_rfl) (by kernel_rfl) (evQ ?_)))))))))))
 refine QL_norm rfl (evQ ?_)
 refine QL_sliceV tys rfl rfl (lt_of rfl) rfl rfl rfl rfl rfl rfl rfl rfl (by omega) (by omega) (by omega) hn (evQ ?_)
 refine evQ ?_
 refine QL_sliceV tys rfl rfl (lt_of rfl) rfl rfl rfl rfl rfl rfl rfl rfl (by omega) (by omega) (by omega) hn (QL_nil (nZ rfl (WO_le (Le.eqF (u := 22) (d := .t (.v (.slice (cutA b 5 (0 : Int).toNat cap) ((i : Int).toNat - (0 : Int).toNat) (cap - (0 : Int).toNat)))) (e := .t (.v (.slice (some ⟨b, 0, none⟩) i cap))) rfl (by simp [cutA])) ?_)))
 refine nZ rfl (WO_le (Le.eqF (u := 25) (d := .t (.v (.slice (cutA b 5 (j : Int).toNat cap) ((n : Int).toNat - (j : Int).toNat) (cap - (j : Int).toNat)))) (e := .t (.v (.slice (cutA b 5 j cap) (n - j) (cap - j)))) rfl (by rw [Int.toNat_natCast, Int.toNat_natCast])) ?_)
 refine nZ rfl (WO_appendV tys (id := 100) (m := n - j) (j := j) rfl rfl (lt_of rfl) rfl rfl rfl rfl rfl rfl rfl rfl (by rw [hl]; congr 1; omega) (by omega) hij (by omega) rfl ?_)
 refine nZ rfl (eZ rfl (oN (tN (sQ (rG (eK 2 rfl (WO_lenV rfl rfl (lt_of rfl) rfl ⟨86, by kernel_rfl⟩ rfl (eZ rfl (nZ rfl (WO_sliceV tys rfl rfl (lt_of rfl) rfl rfl rfl rfl rfl rfl rfl rfl (by omega) (by omega) (by omega) (by omega) (nZ rfl (WO_le (Le.eqF (u := 31) (d := .t (.v (.slice (cutA b 5 ((i + (n - j) : Nat) : Int).toNat cap) ((n : Int).toNat - ((i + (n - j) : Nat) : Int).toNat) (cap - ((i + (n - j) : Nat) : Int).toNat)))) (e := .t (.v (.slice (cutA b 5 (i + (n - j)) cap) (n - (i + (n - j))) (cap - (i + (n - j)))))) rfl (by rw [Int.toNat_natCast, Int.toNat_natCast])) ?_))))))))))))
 refine nZ rfl (WO_clearV tys (t := 31) (id := 100) (off := i + (n - j)) (m := n - (i + (n - j))) rfl (.inr rfl) (lt_of rfl) rfl rfl rfl rfl rfl rfl rfl rfl rfl (by simp; omega) (by omega) ?_)
 refine nZ rfl (oN (tN (sQ (kY [0,6] rfl (rG (eK 2 rfl (oN (tN (rT ?_)))))))))
 refine EndsP_of (ks := [_]) (.inr rfl) (ret_okF rfl) (by decide) rfl (noR_spec rfl) (by repeat (first | exact trivial | refine ⟨rfl, rfl, ?_⟩)) ?_ ?_
 ·show D.t (T.v (Value.slice _ _ _)) = D.t (T.v (Value.slice _ _ _))
  rw [show i + (n - j) = n - (j - i) from by omega]
 ·rfl

theorem delS_fun' (b n cap : Nat) (i j : Int) (vs : List Value) (hi : 0 ≤ i) (hij : i ≤ j) (hj : j ≤ n) (hn : n ≤ cap) (hl : vs.length = n * 5) :
  Proc Tryz.prog 130 [.t (.v (.slice (some ⟨b, 0, none⟩) n cap)), .t (.int i), .t (.int j)] [] [] [.raw b (cap * 5) vs (vs.map T.v)] (.t (.v (.slice (some ⟨b, 0, none⟩) (n - (j.toNat - i.toNat)) cap)))
   [.raw b (cap * 5) (vs.take (i.toNat * 5) ++ vs.drop (j.toNat * 5)) ((vs.take (i.toNat * 5) ++ vs.drop (j.toNat * 5)).map T.v)] := by
 obtain ⟨i, rfl⟩ := Int.eq_ofNat_of_zero_le hi
 obtain ⟨j, rfl⟩ := Int.eq_ofNat_of_zero_le (show 0 ≤ j by omega)
 have := delS_fun b n cap i j vs (by omega) (by omega) hn hl
 simpa using this

def leftI (s : Int) (g : Nat) (b : List Int) : List Int := b.flatMap fun n => if n < s then [n] else if s + g ≤ n then [n - g] else []
theorem leftI_at {s : Int} {g : Nat} {b : List Int} {k : Int} (h0 : 0 ≤ k) (h1 : k < b.length) : leftI s g (b.take (k + 1).toNat) = leftI s g (b.take k.toNat) ++ (if b[k.toNat]'(by omega) < s then [b[k.toNat]'(by omega)] else if s + g ≤ b[k.toNat]'(by omega) then [b[k.toNat]'(by omega) - g] else []) := by
 unfold leftI
 rw [take_at h0 h1, List.flatMap_append]
 congr 1
 simp
theorem lessN_run (s : Int) (n : Int) (h : ¬ n < s) : ∀ g : Nat, s + g ≤ n → lessN (run s g) n = g
 | 0, _ => rfl
 | g + 1, hg => by
  have ih := lessN_run s n h g (by omega)
  unfold lessN at ih ⊢
  rw [run_succ, List.filter_append, List.length_append, List.filter_cons_of_pos (by simp; omega)]
  simp
  omega
theorem lessN_run0 (s : Int) (n : Int) (h : n < s) (g : Nat) : lessN (run s g) n = 0 := by
 unfold lessN
 rw [List.filter_eq_nil_iff.2]
 ·rfl
 ·intro x hx
  have := mem_run.1 hx
  simp; omega
theorem leftI_eq (s : Int) (g : Nat) (b : List Int) : leftI s g b = leftG (run s g) b := by
 induction b with
 | nil => rfl
 | cons n b ih =>
  have e1 : leftI s g (n :: b) = (if n < s then [n] else if s + g ≤ n then [n - g] else []) ++ leftI s g b := rfl
  have e2 : leftG (run s g) (n :: b) = (if n ∈ run s g then [] else [n - lessN (run s g) n]) ++ leftG (run s g) b := by
   unfold leftG
   by_cases h : n ∈ run s g
   ·rw [List.filter_cons_of_neg (by simpa using h), if_pos h]; rfl
   ·rw [List.filter_cons_of_pos (by simpa using h), if_neg h]; rfl
  rw [e1, e2, ih]
  congr 1
  by_cases h1 : n < s
  ·rw [if_pos h1, if_neg (fun h => by have := mem_run.1 h; omega), lessN_run0 s n h1]
   simp
  ·rw [if_neg h1]
   by_cases h2 : s + g ≤ n
   ·rw [if_pos h2, if_neg (fun h => by have := mem_run.1 h; omega), lessN_run s n h1 g h2]
   ·rw [if_neg h2, if_pos (mem_run.2 ⟨by omega, by omega⟩)]
theorem leftI_len (s : Int) (g : Nat) (b : List Int) : (leftI s g b).length ≤ b.length := by rw [leftI_eq]; exact leftG_len _ _

theorem left_fun (b : List Int) (s : Int) (g : Nat) (hb : b.length ≤ 1048576) (hv : ∀ n, n ∈ b → -1073741824 ≤ n ∧ n ≤ 1073741824) (hs0 : 0 ≤ s) (hs1 : s ≤ 1048576) (hg : g ≤ 1048576) : Fun Tryz.prog 129 [.t (T.ints b), .rp (.agg [T.int s]) 0, .rp (.agg [T.int g]) 0] (tupD [.own (T.ints (leftI s g b))]) := by
 refine Fun.begin tys Tryz.func129 rfl rfl (N := 36) [(0, .t (T.ints b)), (1, .rp (.agg [T.int s]) 0), (2, .rp (.agg [T.int g]) 0)] rfl rfl (fun w0 G F0 => ?_)
 refine sQ (rG (eZ rfl (oN (tN (sQ (rG (eZ rfl (WO_le (Le.nilOwn (u := 5) 1 rfl) (WO_le (Le.adoptE (u := 5) 5 rfl rfl) (nZ rfl (oN (tN (sQ (sQ (rG ?_)))))))))))))))
 refine eZ rfl (evE ?_)
 refine eZ rfl (oN (tN (W_block ?_)))
 refine lK (α := Int × Nat × List T) [1, 2, 8, 9] [] (fun x => [(10, .t (.int (x.1))), (5, .sl 5 0 (x.2.1))]) (fun x => [(5, .L 1 (x.2.2))]) (fun x => 0 ≤ (x.1) ∧ (x.1) ≤ b.length ∧ (x.2.1) = (x.2.2).length ∧ (x.2.2).length ≤ (x.1) ∧ (x.2.2) = (leftI s g (b.take (x.1).toNat)).map T.int) (fun x => Int.toNat (b.length - (x.1))) (0, 0, []) ?_ (fun x hx => ?_)
 ·exact ⟨by omega, by omega, rfl, by simp, rfl⟩
 obtain ⟨k, m, ws⟩ := x
 obtain ⟨hk0, hk1, hm, hwl, hws⟩ := hx
 dsimp only at hk0 hk1 hm hwl hws ⊢
 refine nY rfl (sQ (rG (eZ rfl (oN (tN (sQ ?_))))))
 refine W_cond rfl (fun h1 => ?_) (fun h1 => ?_)
 ·
  simp only [HS] at h1
  refine W_skip (tN (sQ (W_block (sQ (rG (WO_idxT tys rfl rfl (lt_of rfl) rfl rfl rfl rfl rfl rfl rfl (by omega) _ (getT _ _ (by omega) (by omega)) ?_))))))
  have hvk := hv _ (List.getElem_mem (show k.toNat < b.length by omega))
  refine eK 2 rfl (oN (tN (W_block (sQ (rG (eK 4 rfl (oN (tN ?_))))))))
  refine W_cond rfl (fun h2 => ?_) (fun h2 => ?_)
  ·
   simp only [HS] at h2
   refine kY [1,2,5,7,8,9,10,11,12,13,14,15,16,17] rfl (rG (eK 2 rfl ?_))
   refine WO_buildSlice tys [T.int (b[k.toNat]'(by omega))] rfl rfl (lt_of rfl) rfl rfl rfl rfl rfl (lt_of rfl) (by repeat (first | exact PartsOk.nil' | refine PartsOk.cons' rfl (by repeat (first | exact AbsL.nil' | refine AbsL.v' ?_ | refine AbsL.own' ?_ | refine AbsL.none' ?_)) rfl ?_)) (by first | exact List.nodup_nil | exact nodup1 _ | decide | exact nodupB_sound rfl) rfl (by decide) ?_
   refine nZ rfl (WO_append tys rfl rfl (lt_of rfl) rfl rfl rfl rfl rfl (.own rfl (by first | omega | (simp only [List.length_append]; omega))) rfl (.own rfl (by first | decide | omega)) (by decide) (by simp only [List.length_take, List.length_cons, List.length_nil]; omega) (by decide) rfl ?_)
   refine nZ rfl (eZ rfl (oN (bN (bN (tN (rG (evI ?_)))))))
   refine eZ rfl (oN ?_)
   refine lQ (_, _, _) ?_ ?_
   ·dsimp only
    subst hm
    have hla := leftI_at (s := s) (g := g) hk0 (show k < b.length by omega)
    first
    | (refine ⟨by omega, by omega, by simp, by simp; omega, ?_⟩; rw [List.take_length, hws, hla, if_pos (by assumption), List.map_append]; rfl)
   ·(show Int.toNat _ < Int.toNat _); omega
  simp only [HS] at h2
  refine sQ (kY [1,2,5,7,8,9,10,11,12,13,14,15,16,17] rfl (rG (eK 3 rfl (evI ?_))))
  refine eK 2 rfl (oN (tN ?_))
  refine W_cond rfl (fun h3 => ?_) (fun h3 => ?_)
  ·
   simp only [HS] at h3
   refine rG (eK 3 rfl (kZ [1,2,5,7,8,9,10,11,12,13,14,15,16,17,22,23,24,25,26,27,28,29,30] rfl (evI ?_)))
   refine WO_buildSlice tys [T.int (b[k.toNat]'(by omega) - g)] rfl rfl (lt_of rfl) rfl rfl rfl rfl rfl (lt_of rfl) (by repeat (first | exact PartsOk.nil' | refine PartsOk.cons' rfl (by repeat (first | exact AbsL.nil' | refine AbsL.v' ?_ | refine AbsL.own' ?_ | refine AbsL.none' ?_)) rfl ?_)) (by first | exact List.nodup_nil | exact nodup1 _ | decide | exact nodupB_sound rfl) rfl (by decide) ?_
   refine nZ rfl (WO_append tys rfl rfl (lt_of rfl) rfl rfl rfl rfl rfl (.own rfl (by first | omega | (simp only [List.length_append]; omega))) rfl (.own rfl (by first | decide | omega)) (by decide) (by simp only [List.length_take, List.length_cons, List.length_nil]; omega) (by decide) rfl ?_)
   refine nZ rfl (eZ rfl (oN (bN (bN (tN (rG (evI ?_)))))))
   refine eZ rfl (oN ?_)
   refine lQ (_, _, _) ?_ ?_
   ·dsimp only
    subst hm
    have hla := leftI_at (s := s) (g := g) hk0 (show k < b.length by omega)
    first
    | (refine ⟨by omega, by omega, by simp, by simp; omega, ?_⟩; rw [List.take_length, hws, hla, if_neg (by omega), if_pos (by omega), List.map_append]; rfl)
   ·(show Int.toNat _ < Int.toNat _); omega
  simp only [HS] at h3
  refine W_skip (bN (bN (tN (rG (evI ?_)))))
  refine eZ rfl (oN ?_)
  refine lQ (_, _, _) ?_ ?_
  ·dsimp only
   subst hm
   have hla := leftI_at (s := s) (g := g) hk0 (show k < b.length by omega)
   first
   | (refine ⟨by omega, by omega, rfl, by omega, ?_⟩; rw [hws, hla, if_neg (by omega), if_neg (by omega), List.append_nil]; done)
  ·(show Int.toNat _ < Int.toNat _); omega
 simp only [HS] at h1
 refine W_exit (tE (loopQ_e (inBlk_y (tN (sQ (rG (eK 2 rfl (oN (tN (W_le (Le.gather (u := 4) (id := 5) rfl rfl (by omega)) (rT (eR ?_))))))))))))
 ·(rw [hm, List.take_length, hws]; refine retOwnI ?_; rw [take_end (by omega)])

end Go.Proofs.YtimpganophnehaaGreat
