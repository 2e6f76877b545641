/- Walks of whether blocks hold each statement once. -/
import Derived.Test.YtimpganophnehaaGreatFh
set_option linter.unusedVariables false
set_option linter.unusedSimpArgs false
set_option maxRecDepth 10000
set_option maxHeartbeats 1000000
namespace Go.Proofs.YtimpganophnehaaGreat
open Go.Eng

theorem blkO_len (l : List Stmt) (body : List Int) : (blkO l body).length = 1 + 2 * l.length := by rw [blkO, List.length_cons, blkGo_len]; omega
theorem blkGo_take (l : List Stmt) : ∀ (n : Nat) (h : n < l.length) (k : Int), (blkGo l k).take (2 * (n + 1)) = (blkGo l k).take (2 * n) ++ [(k + n, (l[n]).thn), (k + n, (l[n]).els)] := by
 induction l with
 | nil => intro n h; simp at h
 | cons s l ih =>
  intro n h k
  cases n with
  | zero => simp [blkGo]
  | succ n =>
   have := ih n (by simpa using h) (k + 1)
   rw [blkGo, show 2 * (n + 1 + 1) = 2 * (n + 1) + 1 + 1 from by omega, List.take_succ_cons, List.take_succ_cons, this, show 2 * (n + 1) = 2 * n + 1 + 1 from by omega, List.take_succ_cons, List.take_succ_cons]
   simp
   omega
theorem blkO_take {l : List Stmt} {body : List Int} {k : Int} (h0 : 0 ≤ k) (h1 : k < l.length) : (blkO l body).take (1 + 2 * (k + 1).toNat) = (blkO l body).take (1 + 2 * k.toNat) ++ [(k, (l[k.toNat]'(by omega)).thn), (k, (l[k.toNat]'(by omega)).els)] := by
 have := blkGo_take l k.toNat (by omega) 0
 rw [blkO, show (k + 1).toNat = k.toNat + 1 from by omega, show 1 + 2 * (k.toNat + 1) = 2 * (k.toNat + 1) + 1 from by omega, List.take_succ_cons, this, show 1 + 2 * k.toNat = 2 * k.toNat + 1 from by omega, List.take_succ_cons]
 have e : (0 : Int) + k.toNat = k := by omega
 rw [e]; rfl
theorem blkO_mem {f : Func} (hf : f.ok 1048576) {p : Int × List Int} (h : p ∈ blkO f.stmts f.body) : p.2.length ≤ 1048576 := by
 rw [blkO] at h
 rcases List.mem_cons.1 h with rfl | h
 ·exact hf.1
 ·obtain ⟨j, hj, h⟩ := blkGo_mem.1 h
  have := stmt_ok hf hj
  rcases h with rfl | rfl
  ·exact this.1
  ·exact this.2.1

def cnts (N : Nat) (l : List Int) : List Int := (upto N).map (cntF l)
theorem cnts_len (N : Nat) (l : List Int) : (cnts N l).length = N := by rw [cnts, List.length_map, upto_len]
theorem cnts_at {N : Nat} {l : List Int} {n : Int} (h0 : 0 ≤ n) (h1 : n < N) : (cnts N l)[n.toNat]'(by rw [cnts_len]; omega) = cntF l n := by
 unfold cnts
 rw [List.getElem_map, upto_at (by rw [upto_len]; omega), show ((n.toNat : Nat) : Int) = n from by omega]
theorem cnts_set {N : Nat} {l : List Int} {n : Int} (h0 : 0 ≤ n) (h1 : n < N) : (cnts N l).set n.toNat (cntF l n + 1) = cnts N (l ++ [n]) := by
 refine List.ext_getElem (by rw [List.length_set, cnts_len, cnts_len]) fun i h2 h3 => ?_
 rw [cnts_len] at h3
 have e : ∀ l, (cnts N l)[i]? = some (cntF l i) := fun l => by
  rw [List.getElem?_eq_getElem (by rw [cnts_len]; omega)]
  have := cnts_at (l := l) (n := (i : Int)) (by omega) (by omega : (i : Int) < N)
  rw [← this]; rfl
 rw [List.getElem_set]
 have e1 := e l
 have e2 := e (l ++ [n])
 rw [List.getElem?_eq_getElem (by rw [cnts_len]; omega), Option.some_inj] at e1 e2
 rw [e1, e2]
 unfold cntF
 rw [List.count_append]
 split
 ·rename_i hi
  rw [show n = (i : Int) from by omega]; simp
 ·rename_i hi
  rw [List.count_singleton]
  have : (n == (i : Int)) = false := by simp; omega
  simp [this]
theorem cntsT {N : Nat} {l : List Int} {n : Int} {ys : List T} (h : ys = (cnts N l).map T.int) (h0 : 0 ≤ n) (h1 : n < N) : ys.set n.toNat (T.int (cntF l n + 1)) = (cnts N (l ++ [n])).map T.int := by
 rw [h, ← List.map_set, cnts_set h0 h1]
theorem argI {F : Nat} {ds : List D} {r : D} {l : List Int} {xs : List T} (h : xs = l.map T.int) (hf : Fun Tryz.prog F (.t (T.ints l) :: ds) r) : Fun Tryz.prog F (.t (.list 1 xs) :: ds) r := by rw [h]; exact hf
theorem cnts_nil (N : Nat) : cnts N [] = List.replicate N 0 := by
 unfold cnts cntF
 have : ∀ l : List Int, l.map (fun x => ((([] : List Int).count x : Nat) : Int)) = List.replicate l.length 0 := by
  intro l
  induction l with
  | nil => rfl
  | cons x l ih => rw [List.map_cons, ih]; rfl
 rw [this, upto_len]
theorem cnts_once {N : Nat} {l : List Int} : allIn (cnts N l) 1 1 = onceB N l := by
 unfold allIn cnts onceB
 rw [List.all_map]
 congr 1
 funext x
 simp only [Function.comp]
 exact decide_eq_decide.2 (by omega)
theorem cntF_le (l : List Int) (n : Int) : 0 ≤ cntF l n ∧ cntF l n ≤ l.length := by
 unfold cntF; have := List.count_le_length (l := l) (a := n); omega
theorem ownAt {N : Nat} {l : List Int} {n : Int} (h0 : 0 ≤ n) (h1 : n < N) : ((cnts N l).map T.int)[0 + n.toNat]? = some (T.int (cntF l n)) := by
 rw [Nat.zero_add, List.getElem?_map, List.getElem?_eq_getElem (by rw [cnts_len]; omega), cnts_at h0 h1]; rfl
def goneB (B : List (Int × List Int)) (i : Nat) : List Int := ((B.take i).map (·.2)).flatten
theorem goneB_at {B : List (Int × List Int)} {i : Int} (h0 : 0 ≤ i) (h1 : i < B.length) : goneB B (i + 1).toNat = goneB B i.toNat ++ (B[i.toNat]'(by omega)).2 := by
 unfold goneB; rw [take_at h0 h1, List.map_append, List.flatten_append]; simp
theorem goneB_len {B : List (Int × List Int)} (hB : ∀ p, p ∈ B → p.2.length ≤ 1048576) : ∀ i : Nat, i ≤ B.length → (goneB B i).length ≤ i * 1048576
 | 0, _ => by simp [goneB]
 | i + 1, h => by
  have h1 := goneB_len hB i (by omega)
  have h2 := goneB_at (B := B) (i := (i : Int)) (by omega) (by omega)
  have h3 := hB _ (List.getElem_mem (l := B) (n := (i : Int).toNat) (by omega))
  have h4 := congrArg List.length h2
  rw [List.length_append] at h4
  rw [show ((i : Int) + 1).toNat = i + 1 from by omega] at h4
  rw [show (goneB B (i : Int).toNat).length = (goneB B i).length from by rw [show (i : Int).toNat = i from by omega]] at h4
  omega
theorem all_no {α : Type} {p : α → Bool} {l : List α} {k : Int} (h0 : 0 ≤ k) (h1 : k < l.length) (h : p (l[k.toNat]'(by omega)) = false) : l.all p = false :=
 List.all_eq_false.2 ⟨_, List.getElem_mem _, by simpa using h⟩
theorem all_tk {α : Type} {p : α → Bool} {l : List α} {k : Int} (h0 : 0 ≤ k) (h1 : k < l.length) (h : (l.take k.toNat).all p = true) (h2 : p (l[k.toNat]'(by omega)) = true) : (l.take (k + 1).toNat).all p = true := by
 rw [take_at h0 h1, List.all_append, h]; simpa using h2
theorem all_fl {α : Type} {p : α → Bool} {l : List α} {k : Int} (h1 : (l.length : Int) ≤ k) (h : (l.take k.toNat).all p = true) : l.all p = true := by
 rwa [take_end h1] at h
theorem rise_mem {l : List Int} {lo hi : Int} (h : riseB l lo hi = true) {n : Int} (hn : n ∈ l) : lo ≤ n ∧ n ≤ hi := (of_decide_eq_true h).1 n hn

theorem l3Blocks_fun (f : Func) (hf : f.ok 1048576) (hN : f.stmts.length ≤ 16) : Fun Tryz.prog 200 [.t f.tt] (tupD [.t (.bool (blocksB f.stmts f.body))]) := by
 have hbl := blkO_len f.stmts f.body
 refine Fun.begin tys Tryz.func200 rfl rfl (N := 77) [(0, .t f.tt)] rfl rfl (fun w0 G F0 => ?_)
 refine sQ (rG (WO_box rfl rfl (lt_of rfl) rfl rfl (nZ rfl (eZ rfl (oN (tN (sQ (rG (eK 2 rfl (evE ?_))))))))))
 refine WO_make tys (.v (.int .i64 0)) _ rfl rfl (lt_of rfl) rfl rfl rfl rfl rfl (by repeat (first | exact AbsL.nil' | refine AbsL.v' ?_ | refine AbsL.none' ?_)) rfl (by omega) (by decide) ?_
 refine nZ rfl (eZ rfl (oN (tN (sQ (kY [1,2,3] rfl (rG (eK 2 rfl (nZ rfl ?_))))))))
 refine WO_tell (u := 17) 117 rfl (fun v17 => ?_)
 refine nZ rfl ?_
 refine WO_buildSlice tys [.v v17] rfl rfl (lt_of rfl) rfl rfl rfl rfl rfl (lt_of rfl) (by repeat (first | exact PartsOk.nil' | refine PartsOk.cons' rfl (by repeat (first | exact AbsL.nil' | refine AbsL.v' ?_ | refine AbsL.own' ?_ | refine AbsL.none' ?_)) rfl ?_)) (by first | exact List.nodup_nil | exact nodup1 _ | decide | exact nodupB_sound rfl) rfl (by decide) ?_
 refine nZ rfl (eZ rfl (oN (tN (sQ (rG ?_)))))
 refine WO_buildSlice tys [T.int (-1)] rfl rfl (lt_of rfl) rfl rfl rfl rfl rfl (lt_of rfl) (by repeat (first | exact PartsOk.nil' | refine PartsOk.cons' rfl (by repeat (first | exact AbsL.nil' | refine AbsL.v' ?_ | refine AbsL.own' ?_ | refine AbsL.none' ?_)) rfl ?_)) (by first | exact List.nodup_nil | exact nodup1 _ | decide | exact nodupB_sound rfl) rfl (by decide) ?_
 refine nZ rfl (eZ rfl (oN (tN (sQ (sQ (rG (eK 2 rfl (evE ?_))))))))
 refine kZ [1,2,3,4,5,21,22] rfl (eZ rfl (oN (tN (W_block ?_))))
 refine lK (α := Int × Nat × List T × Nat × List T × List Value × List T) [1, 3, 21, 22] [1, 15] (fun x => [(23, .t (.int (x.1))), (4, .sl 18 0 (x.2.1)), (5, .sl 19 0 (x.2.2.2.1))]) (fun x => [(18, .L 1 (x.2.2.1)), (19, .L 1 (x.2.2.2.2.1)), (117, .ro (x.2.2.2.2.2.1) (x.2.2.2.2.2.2))]) (fun x => 0 ≤ (x.1) ∧ (x.1) ≤ f.stmts.length ∧ (x.2.1) = (x.2.2.1).length ∧ (x.2.2.2.1) = (x.2.2.2.2.1).length ∧ (x.2.2.1) = (x.2.2.2.2.2.1).map T.v ∧ (x.2.2.2.2.2.1).length = 1 + 2 * (x.1).toNat ∧ (x.2.2.2.2.2.2) = ((blkO f.stmts f.body).take (1 + 2 * (x.1).toNat)).map (fun p => T.ints p.2) ∧ (x.2.2.2.2.1) = ((blkO f.stmts f.body).take (1 + 2 * (x.1).toNat)).map (fun p => T.int p.1)) (fun x => Int.toNat (f.stmts.length - (x.1))) (0, 1, [.v v17], 1, [T.int (-1)], [v17], [T.ints f.body]) ?_ (fun x hx => ?_)
 ·exact ⟨by omega, by omega, rfl, rfl, rfl, rfl, rfl, rfl⟩
 obtain ⟨k, m4, xs4, m5, xs5, us, ts⟩ := x
 obtain ⟨hk0, hk1, hm4, hm5, hx4, hul, hts, hx5⟩ := hx
 dsimp only at hk0 hk1 hm4 hm5 hx4 hul hts hx5 ⊢
 refine nY rfl (sQ (rG (eZ rfl (oN (tN (sQ ?_))))))
 refine W_cond rfl (fun h1 => ?_) (fun h1 => ?_)
 ·
  simp only [HS] at h1
  refine W_skip (tN (sQ (W_block (sQ (rG (eZ rfl (WO_idxT tys rfl rfl (lt_of rfl) rfl rfl rfl rfl rfl rfl rfl (by omega) _ (getT _ _ (by omega) (by omega)) (eZ rfl ?_))))))))
  try refine WO_le (Le.freeze (u := 27) rfl) ?_
  refine nZ rfl (WO_alloc tys rfl rfl (lt_of rfl) rfl rfl rfl (nZ rfl (eZ rfl (sT rfl (nZ rfl (oN (tN (sQ (kY [1,3,4,5,6,7,21,22,23,24,25,26,27] rfl (rG (eK 5 rfl (nZ rfl ?_))))))))))))
  refine WO_tell (u := 30) 130 rfl (fun v30 => ?_)
  refine nZ rfl ?_
  refine WO_tell (u := 32) 132 rfl (fun v32 => ?_)
  refine nZ rfl (WO_le (Le.roJoin 117 130 rfl rfl) (nZ rfl (WO_le (Le.roJoin 117 132 rfl rfl) (nZ rfl ?_))))
  refine WO_buildSlice tys [.v v30, .v v32] rfl rfl (lt_of rfl) rfl rfl rfl rfl rfl (lt_of rfl) (by repeat (first | exact PartsOk.nil' | refine PartsOk.cons' rfl (by repeat (first | exact AbsL.nil' | refine AbsL.v' ?_ | refine AbsL.own' ?_ | refine AbsL.none' ?_)) rfl ?_)) (by first | exact List.nodup_nil | exact nodup1 _ | decide | exact nodupB_sound rfl) rfl (by decide) ?_
  refine nZ rfl (WO_append tys rfl rfl (lt_of rfl) rfl rfl rfl rfl rfl (.own rfl (by first | omega | (simp only [List.length_append]; omega))) rfl (.own rfl (by first | decide | omega)) (by decide) (by have q := congrArg List.length hx4; simp only [List.length_map] at q; simp only [List.length_take, List.length_cons, List.length_nil]; omega) (by decide) rfl ?_)
  refine nZ rfl (eZ rfl (oN (tN (kY [1,3,4,5,6,7,21,22,23,24,25,26,27,28,29,30,31,32,33,34] rfl (rG (eK 3 rfl ?_))))))
  refine WO_buildSlice tys [T.int k, T.int k] rfl rfl (lt_of rfl) rfl rfl rfl rfl rfl (lt_of rfl) (by repeat (first | exact PartsOk.nil' | refine PartsOk.cons' rfl (by repeat (first | exact AbsL.nil' | refine AbsL.v' ?_ | refine AbsL.own' ?_ | refine AbsL.none' ?_)) rfl ?_)) (by first | exact List.nodup_nil | exact nodup1 _ | decide | exact nodupB_sound rfl) rfl (by decide) ?_
  refine nZ rfl (WO_append tys rfl rfl (lt_of rfl) rfl rfl rfl rfl rfl (.own rfl (by first | omega | (simp only [List.length_append]; omega))) rfl (.own rfl (by first | decide | omega)) (by decide) (by have q := congrArg List.length hx5; simp only [List.length_map, List.length_take] at q; simp only [List.length_take, List.length_cons, List.length_nil]; omega) (by decide) rfl ?_)
  refine nZ rfl (eZ rfl (oN (bN (tN (rG (evI ?_))))))
  refine eZ rfl (oN ?_)
  refine lQ (_, _, _, _, _, _, _) ?_ ?_
  ·dsimp only
   refine ⟨by omega, by omega, by simp, by simp, ?_, ?_, ?_, ?_⟩
   ·subst hm4 hx4; rw [List.take_of_length_le (by simp)]; simp
   ·simp; omega
   ·rw [hts, blkO_take hk0 (by omega), List.map_append, List.append_assoc]; rfl
   ·subst hm5; rw [List.take_length, hx5, blkO_take hk0 (by omega), List.map_append]; rfl
  ·(show Int.toNat _ < Int.toNat _); omega
 simp only [HS] at h1
 refine W_exit (tE (loopQ_e (inBlk_y (tN (sQ (sQ (rG (eZ rfl ?_))))))))
 have hk : k = f.stmts.length := by omega
 have hx6 : xs5 = (blkO f.stmts f.body).map (fun p => T.int p.1) := by rw [hx5, List.take_of_length_le (by omega)]
 refine nZ rfl (WO_le (Le.gather (u := 41) (id := 18) rfl rfl (by omega)) (nZ rfl (WO_le (Le.freeze (u := 41) rfl) (nZ rfl (WO_le (Le.roReadE (u := 41) (id := 117) (ts' := (blkO f.stmts f.body).map (fun p => T.ints p.2)) rfl rfl (by rw [hm4, List.take_length, hx4]) (by rw [hts, List.take_of_length_le (by omega)]) (by rw [hts]; intro t ht; obtain ⟨p, _, rfl⟩ := List.mem_map.1 ht; rfl)) ?_)))))
 refine nZ rfl (evE ?_)
 refine eZ rfl (oN (tN (W_block ?_)))
 refine lK (α := Int × List T) [1, 3, 5, 41, 42] [1, 19] (fun x => [(43, .t (.int (x.1)))]) (fun x => [(15, .L 1 (x.2))]) (fun x => 0 ≤ (x.1) ∧ (x.1) ≤ (blkO f.stmts f.body).length ∧ (x.2) = (cnts f.stmts.length (goneB (blkO f.stmts f.body) (x.1).toNat)).map T.int ∧ ((blkO f.stmts f.body).take (x.1).toNat).all (blkB f.stmts.length) = true) (fun x => Int.toNat ((blkO f.stmts f.body).length - (x.1))) (0, List.replicate f.stmts.length (T.int 0)) ?_ (fun x hx => ?_)
 ·exact ⟨by omega, by omega, by rw [show goneB (blkO f.stmts f.body) (0 : Int).toNat = [] from rfl, cnts_nil, List.map_replicate], by simp⟩
 obtain ⟨i, xs⟩ := x
 obtain ⟨hi0, hi1, hxs, hall⟩ := hx
 dsimp only at hi0 hi1 hxs hall ⊢
 refine nY rfl (sQ (rG (eZ rfl (oN (tN (sQ ?_))))))
 refine W_cond rfl (fun h2 => ?_) (fun h2 => ?_)
 ·
  simp only [HS] at h2
  refine W_skip (tN (sQ (W_block (sQ (rG (eZ rfl (WO_idxT tys rfl rfl (lt_of rfl) rfl rfl rfl rfl rfl rfl rfl (by omega) _ (getT _ _ (by omega) (by omega)) (eK 3 rfl (oN (tN (sQ (sQ (rG (eK 3 rfl (kZ [1,3,5,8,9,41,42,43,44,45,46,47,48,49,50] rfl ?_)))))))))))))))
  refine evE ?_
  refine evI ?_
  refine callB ?_
  refine ⟨_, l1Rising_fun _ _ _ (by have := blkO_mem hf (List.getElem_mem (l := blkO f.stmts f.body) (n := i.toNat) (by omega)); omega), rfl, ?_⟩
  refine eZ rfl (oN (tN ?_))
  refine W_cond rfl (fun h3 => ?_) (fun h3 => ?_)
  ·
   simp only [HS] at h3
   refine sQ (rG (eZ rfl (oN (tN (rT (tR (bR (tR (loopQ_r (bR (tR (eR ?_))))))))))))
   ·first
    | exact retB (by rw [blocksB, all_no hi0 h2 (by unfold blkB; rw [h3]; rfl)]; rfl)
  simp only [HS] at h3
  refine W_skip (tN (sQ (rG (eZ rfl (evE ?_)))))
  refine eZ rfl (oN (tN (W_block ?_)))
  refine lK (α := Int × List T) [1, 3, 5, 8, 41, 42, 43, 55, 56] [1, 19] (fun x => [(57, .t (.int (x.1)))]) (fun x => [(15, .L 1 (x.2))]) (fun x => 0 ≤ (x.1) ∧ (x.1) ≤ ((blkO f.stmts f.body)[i.toNat]'(by omega)).2.length ∧ (x.2) = (cnts f.stmts.length (goneB (blkO f.stmts f.body) i.toNat ++ ((blkO f.stmts f.body)[i.toNat]'(by omega)).2.take (x.1).toNat)).map T.int ∧ (((blkO f.stmts f.body)[i.toNat]'(by omega)).2.take (x.1).toNat).all (fun n => decide (((blkO f.stmts f.body)[i.toNat]'(by omega)).1 < n)) = true) (fun x => Int.toNat (((blkO f.stmts f.body)[i.toNat]'(by omega)).2.length - (x.1))) (0, xs) ?_ (fun x hx => ?_)
  ·exact ⟨by omega, by omega, by rw [hxs]; simp, by simp⟩
  obtain ⟨j, ys⟩ := x
  obtain ⟨hj0, hj1, hys, halj⟩ := hx
  dsimp only at hj0 hj1 hys halj ⊢
  refine nY rfl (sQ (rG (eZ rfl (oN (tN (sQ ?_))))))
  refine W_cond rfl (fun h4 => ?_) (fun h4 => ?_)
  ·
   simp only [HS] at h4
   refine W_skip (tN (sQ (W_block (sQ (rG (WO_idxT tys rfl rfl (lt_of rfl) rfl rfl rfl rfl rfl rfl rfl (by omega) _ (getT _ _ (by omega) (by omega)) (eZ rfl ?_)))))))
   have hn0 := rise_mem h3 (List.getElem_mem (l := ((blkO f.stmts f.body)[i.toNat]'(by omega)).2) (n := j.toNat) (by omega))
   have hn : 0 ≤ ((blkO f.stmts f.body)[i.toNat]'(by omega)).2[j.toNat]'(by omega) ∧ ((blkO f.stmts f.body)[i.toNat]'(by omega)).2[j.toNat]'(by omega) < f.stmts.length := ⟨hn0.1, by omega⟩
   have hx7 : m5 = (blkO f.stmts f.body).length := by rw [hm5, hx6, List.length_map]
   have hx8 : xs5.length = m5 := hm5.symm
   have hyl : ys.length = f.stmts.length := by rw [hys, List.length_map, cnts_len]
   have hc := cntF_le (goneB (blkO f.stmts f.body) i.toNat ++ ((blkO f.stmts f.body)[i.toNat]'(by omega)).2.take j.toNat) (((blkO f.stmts f.body)[i.toNat]'(by omega)).2[j.toNat]'(by omega))
   have hg := goneB_len (B := blkO f.stmts f.body) (fun p hp => blkO_mem hf hp) i.toNat (by omega)
   have hg2 := blkO_mem hf (List.getElem_mem (l := blkO f.stmts f.body) (n := i.toNat) (by omega))
   rw [List.length_append, List.length_take] at hc
   refine eZ rfl (oN (tN (sQ (sQ (rG (eK 3 rfl (WO_idxS tys rfl rfl (lt_of rfl) rfl rfl rfl rfl rfl rfl rfl rfl (by omega) (by omega) (WO_loadL tys rfl rfl (lt_of rfl) rfl rfl rfl rfl (by rw [hx6]; exact getT0 (fun p : Int × List Int => T.int p.1) _ (by omega) (by omega)) rfl ?_))))))))
   refine kZ [1,3,5,8,11,41,42,43,55,56,57,58,59,60,61,62,63,64,65] rfl (eZ rfl (oN (tN ?_)))
   refine W_cond rfl (fun h5 => ?_) (fun h5 => ?_)
   ·
    simp only [HS] at h5
    refine sQ (rG (eZ rfl (oN (tN (rT (tR (bR (tR (loopQ_r (bR (bR (tR (loopQ_r (bR (tR ?_)))))))))))))))
    refine eR ?_
    ·first
     | exact retB (by rw [blocksB, all_no hi0 h2 (by unfold blkB; rw [h3, all_no hj0 h4 (by simp; omega)]; rfl)]; rfl)
   simp only [HS] at h5
   refine W_skip (tN (rG (eK 2 rfl (WO_idxS tys rfl rfl (lt_of rfl) rfl rfl rfl rfl rfl rfl rfl rfl (by omega) (by omega) (WO_loadL tys rfl rfl (lt_of rfl) rfl rfl rfl rfl (by rw [hys]; exact ownAt hn.1 hn.2) rfl ?_)))))
   refine evI ?_
   refine WO_idxS tys rfl rfl (lt_of rfl) rfl rfl rfl rfl rfl rfl rfl rfl (by omega) (by omega) ?_
   refine WO_storeE tys (T.int (cntF (goneB (blkO f.stmts f.body) i.toNat ++ ((blkO f.stmts f.body)[i.toNat]'(by omega)).2.take j.toNat) (((blkO f.stmts f.body)[i.toNat]'(by omega)).2[j.toNat]'(by omega)) + 1)) rfl rfl rfl rfl rfl rfl (by first | exact Nat.zero_add _ | rfl) (by omega) rfl (by repeat (first | exact AbsL.nil' | refine AbsL.v' ?_ | refine AbsL.own' ?_)) rfl rfl rfl ?_
   refine nZ rfl (oN (bN (tN (kY [1,3,5,8,11,41,42,43,55,56,57,58,59,60,61,62,63,64,65,66,67,68,69,70,71,72] rfl (rG (evI ?_))))))
   refine eZ rfl (oN ?_)
   refine lQ (_, _) ?_ ?_
   ·dsimp only
    refine ⟨by omega, by omega, ?_, ?_⟩
    ·exact (cntsT hys hn.1 hn.2).trans (by rw [take_at hj0 (by omega), List.append_assoc])
    ·exact all_tk hj0 (by omega) halj (by simpa using h5)
   ·(show Int.toNat _ < Int.toNat _); omega
  simp only [HS] at h4
  refine W_exit (tE (loopQ_e (inBlk_y (bN (tN (rG (evI ?_)))))))
  refine eZ rfl (oN ?_)
  refine lQ (_, _) ?_ ?_
  ·dsimp only
   refine ⟨by omega, by omega, ?_, ?_⟩
   ·rw [hys, goneB_at hi0 (by omega), take_end (by omega)]
   ·exact all_tk hi0 (by omega) hall (by unfold blkB; rw [h3, all_fl (by omega) halj]; rfl)
  ·(show Int.toNat _ < Int.toNat _); omega
 simp only [HS] at h2
 refine W_exit (tE (loopQ_e (inBlk_y (tN (sQ (rG (eZ rfl ?_)))))))
 have hxl : xs.length = f.stmts.length := by rw [hxs, List.length_map, cnts_len]
 refine callB ?_
 refine ⟨_, argI hxs (l1All_fun _ _ _ (by rw [cnts_len]; omega)), rfl, ?_⟩
 refine eZ rfl (oN (tN (rT (eR ?_))))
 ·first
  | exact retB (by rw [blocksB, all_fl (by omega) hall, cnts_once, goneB, take_end (by omega)]; rfl)

end Go.Proofs.YtimpganophnehaaGreat
