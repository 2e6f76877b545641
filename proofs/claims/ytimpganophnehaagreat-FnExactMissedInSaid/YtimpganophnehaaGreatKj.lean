/- Walks and laws of the claim. -/
import Derived.Test.YtimpganophnehaaGreatKd
import Derived.Test.YtimpganophnehaaGreatKf
import Derived.Test.YtimpganophnehaaGreatFa
set_option linter.unusedVariables false
set_option linter.unusedSimpArgs false
set_option maxRecDepth 10000
set_option maxHeartbeats 10000000
namespace Go.Proofs.YtimpganophnehaaGreat
open Go.Eng
open Go.Eng
def negsT (xs : List T) : Nat := xs.countP fun t => match t with
 | .v (.int _ v) => decide (v < 0)
 | _ => false
theorem negsT_map (hs : List Int) : negsT (hs.map T.int) = negs hs := by
 rw [negsT, List.countP_map]; rfl
section
variable {x : Image} {c : Code} {hs l done : List Int} {m N b : Nat} {k k0 n v hi : Int}
def popX (x : Image) (c : Code) (xs ms : List T) (m : Nat) : Prop := ∃ hs l : List Int, xs = hs.map T.int ∧ ms = l.map T.int ∧ m ≤ l.length ∧ m + negs hs ≤ c.ins.length ∧ partX x c hs (l.take m)
def pushX (x : Image) (c : Code) (xs ms : List T) (m b : Nat) (k0 hi : Int) (done : List Int) : Prop := ∃ hs l : List Int, xs = hs.map T.int ∧ ms = l.map T.int ∧ m ≤ l.length ∧ (m + negs hs < c.ins.length ∧ m + 2 * negs hs < b) ∧ midX x c hs (l.take m) k0 done ∧ hi = atI hs k0 - tkX x (insAt c k0) + ptX (insAt c k0)
theorem pop_start (h1 : 0 < m) (h2 : m ≤ l.length) (hm : m + negs hs ≤ c.ins.length) (h : partX x c hs (l.take m)) {m' : Nat} (hm' : m' = m - 1) (hk : k0 = l[m - 1]'(by omega)) (ht : tkX x (insAt c k0) ≤ atI hs k0) (hh : hi = atI hs k0 - tkX x (insAt c k0) + ptX (insAt c k0)) (hb : b = m + 2 * negs hs) :
  pushX x c (hs.map T.int) (l.map T.int) m' b k0 hi [] := by
 subst hm'
 have e : l.take m = l.take (m - 1) ++ [k0] := by
  rw [hk, List.take_append_getElem]
  congr 1
  omega
 rw [e] at h
 refine ⟨hs, l, rfl, rfl, by omega, ⟨by omega, by omega⟩, part_mid h (by simp) (fun j hj => by simp [hj]) (fun j hj => ?_) ht, hh⟩
 rcases List.mem_append.1 hj with hj | hj
 ·exact .inr hj
 ·exact .inl (List.mem_singleton.1 hj)
theorem push_same (h0 : m ≤ l.length) (hm : m + negs hs < c.ins.length ∧ m + 2 * negs hs < b) (h : midX x c hs (l.take m) k0 done) (hh : hi = atI hs k0 - tkX x (insAt c k0) + ptX (insAt c k0)) (hn : ¬ atI hs n < 0) (hs' : ¬ (0 ≤ atI hs n ∧ ¬ atI hs n = hi)) :
  pushX x c (hs.map T.int) (l.map T.int) m b k0 hi (done ++ [n]) :=
 ⟨hs, l, rfl, rfl, h0, hm, mid_same h (by omega), hh⟩
theorem push_new (hR : RdyX x c) (h0 : m ≤ l.length) (hm : m + negs hs < c.ins.length ∧ m + 2 * negs hs < b) (h : midX x c hs (l.take m) k0 done) (hh : hi = atI hs k0 - tkX x (insAt c k0) + ptX (insAt c k0)) (hnx : n ∈ nextX (insAt c k0) k0) (hn0 : 0 ≤ n) (hn1 : n < hs.length) (hn : atI hs n < 0) (h40 : hi ≤ 40)
  {xs ms : List T} (e1 : xs = (hs.map T.int).set n.toNat (T.int hi)) (e2 : ms = (l.map T.int).take m ++ [T.int n]) {m3 : Nat} (e3 : m3 = m + 1) : pushX x c xs ms m3 b k0 hi (done ++ [n]) := by
 have hk := h.2.2.2.2.2.1
 have hv : 0 ≤ hi := by have := ptX_nn (insAt c k0); omega
 have hne : k0 ≠ n := fun e => by rw [← e] at hn; omega
 have hng := negs_set (l := hs) (v := hi) hn0 hn1 hn hv
 subst e3
 refine ⟨hs.set n.toNat hi, l.take m ++ [n], by rw [e1, List.map_set], by rw [e2]; simp [List.map_take], by simp; omega, ⟨by omega, by omega⟩, ?_, ?_⟩
 ·have := mid_new h hnx hn0 hn1 hn (ptX_nn _) (by omega) hh (fun r hr => (hR.pads r hr).1)
  rw [List.take_of_length_le (by simp; omega)]
  exact this
 ·rw [atI_set hn0 hn1 hk.1, if_neg hne]; exact hh
theorem pop_mem (h1 : 0 < m) (h2 : m ≤ l.length) : l[m - 1]'(by omega) ∈ l.take m := by
 rw [List.mem_take_iff_getElem]
 exact ⟨m - 1, by omega, rfl⟩
end
theorem heightsOf_fun (im : Image) (c : Code) (hR : RdyX im c) : Fun Tryz.prog 144 [.t im.tt, .t c.tt] (tupD [.own (T.ints ((heiX im c).getD [])), .t (.bool (heiX im c).isSome)]) := by
 have hxl := hR.xl
 have hn1 := hR.n1
 have hn2 := hR.n2
 have hrl := hR.rl
 refine Fun.begin tys Tryz.func144 Z Z (N := 126) [(0, .t im.tt), (1, .t c.tt)] Z Z (fun w0 G F0 => ?_)
 refine sQ (rG (WO_box Z Z (lt_of Z) Z Z (nZ Z (WO_box Z Z (lt_of Z) Z Z (nZ Z (eK 2 Z (oN (tN (sQ (rG ?_))))))))))
 refine WO_buildF tys [T.int (-1)] Z Z (lt_of Z) Z Z Z Z Z (by decide) (by repeat (first | exact PartsF.nil' | refine PartsF.cons' rfl Z ?_)) Z ?_
 refine nZ Z (eK 2 Z (evE ?_))
 refine callB ?_
 refine ⟨_, repeat_fun (-1) c.ins.length hn1 (by omega), rfl, ?_⟩
 refine WO_le (Le.adoptE (u := 20) 20 Z (by first | exact lenN | exact Z)) ?_
 refine nZ Z (kZ [2,3,4,5,20] Z (eZ Z (oN (tN (sQ (rG ?_))))))
 refine WO_buildSlice tys [T.int 0] Z Z (lt_of Z) Z Z Z Z Z (lt_of Z) (by repeat (first | exact PartsOk.nil' | refine PartsOk.cons' rfl (by repeat (first | exact AbsL.nil' | refine AbsL.v' ?_ | refine AbsL.own' ?_ | refine AbsL.none' ?_)) Z ?_)) (by first | exact List.nodup_nil | exact nodup1 _ | decide | exact nodupB_sound Z) Z (by decide) ?_
 refine nZ Z (eZ Z (oN (tN (sQ (rG ?_)))))
 have hll : ((List.replicate c.ins.length (-1 : Int)).map T.int).length = c.ins.length := by simp
 refine WO_le (Le.eqF (u := 6) (d := .sl 20 0 (List.replicate c.ins.length (-1 : Int)).length) (e := .sl 20 0 c.ins.length) Z (by rw [List.length_replicate])) ?_
 refine nZ Z (eZ Z ?_)
 first | refine WO_idxT tys rfl rfl (lt_of rfl) rfl rfl rfl rfl rfl rfl rfl (by omega) _ (getT _ _ (by omega) (by omega)) ?_ | refine WO_idxS tys rfl rfl (lt_of rfl) rfl rfl rfl rfl rfl rfl rfl rfl (by omega) (by omega) ?_
 refine WO_storeE tys (T.int 0) Z Z Z Z Z Z (Nat.zero_add _) (by omega) Z (by repeat (first | exact AbsL.nil' | refine AbsL.v' ?_ | refine AbsL.own' ?_)) Z Z Z ?_
 refine nZ Z (nZ Z (oN (tN (sQ (sQ (rG (eK 2 Z (evE ?_))))))))
 refine kZ [2,3,4,5,6,7,25,26] Z (eZ Z (oN (tN (W_block ?_))))
 refine lK (α := Int × Nat × List T × List T) [2, 3, 6, 25, 26] [2, 3] (fun x => [(27, .t (.int (x.1))), (7, .sl 21 0 (x.2.1))]) (fun x => [(20, .L 1 (x.2.2.1)), (21, .L 1 (x.2.2.2))]) (fun x => 0 ≤ (x.1) ∧ (x.1) ≤ c.rows.length ∧ (x.2.1) = (x.2.2.2).length ∧ ∃ hs met : List Int, (x.2.2.1) = hs.map T.int ∧ (x.2.2.2) = met.map T.int ∧ begX c hs met (x.1).toNat) (fun x => Int.toNat (c.rows.length - (x.1))) (0, 1, ((List.replicate c.ins.length (-1 : Int)).map T.int).set 0 (T.int 0), [T.int 0]) ?_ (fun x hx => ?_)
 ·exact ⟨by omega, by omega, rfl, _, _, by rw [← List.map_set], rfl, begX_start hn1⟩
 obtain ⟨k, m, xs, ms⟩ := x
 obtain ⟨hk0, hk1, hm, hs, met, hxs, hms, hb⟩ := hx
 try dsimp only at hk0 hk1 hm hs hxs hms hb ⊢
 subst hxs hms hm
 refine nY Z (sQ (rG (eZ Z (oN (tN (sQ ?_))))))
 refine W_cond Z (fun h1 => ?_) (fun h1 => ?_)
 ·
  try simp only [HS] at h1
  refine W_skip (tN (sQ (W_block (sQ (rG ?_)))))
  have hrm := List.getElem_mem (l := c.rows) (n := k.toNat) (by omega)
  have hpd := hR.pads _ hrm
  have hsl := hb.1
  have hml : (met.map T.int).length = met.length := List.length_map _
  have hmn := hb.2.2.2.2.2.2
  have eP : atI hs (c.rows[k.toNat]'(by omega)).pad = hs[(c.rows[k.toNat]'(by omega)).pad.toNat]'(by omega) := atI_at hpd.1 (by omega)
  first | refine WO_idxT tys rfl rfl (lt_of rfl) rfl rfl rfl rfl rfl rfl rfl (by omega) _ (getT _ _ (by omega) (by omega)) ?_ | refine WO_idxS tys rfl rfl (lt_of rfl) rfl rfl rfl rfl rfl rfl rfl rfl (by omega) (by omega) ?_
  first | (refine ev ?_; try refine WO_le (Le.freeze (u := 30) rfl) ?_) | refine WO_loadL tys rfl rfl (lt_of rfl) rfl rfl rfl rfl (getT _ _ (by omega) (by omega)) rfl ?_ | refine WO_loadL tys rfl rfl (lt_of rfl) rfl rfl rfl rfl (getT0 _ _ (by omega) (by omega)) rfl ?_
  refine nZ Z (WO_alloc tys Z Z (lt_of Z) Z Z Z (nZ Z (sT Z (nZ Z (oN (tN (sQ (rG (eK 3 Z ?_)))))))))
  first | refine WO_idxT tys rfl rfl (lt_of rfl) rfl rfl rfl rfl rfl rfl rfl (by omega) _ (getT _ _ (by omega) (by omega)) ?_ | refine WO_idxS tys rfl rfl (lt_of rfl) rfl rfl rfl rfl rfl rfl rfl rfl (by omega) (by omega) ?_
  refine kZ [2,3,6,7,9,25,26,27,28,29,30,31,32,33,34] Z ?_
  first | refine ev ?_ | refine WO_loadL tys rfl rfl (lt_of rfl) rfl rfl rfl rfl (getT _ _ (by omega) (by omega)) rfl ?_ | refine WO_loadL tys rfl rfl (lt_of rfl) rfl rfl rfl rfl (getT0 _ _ (by omega) (by omega)) rfl ?_
  refine eZ Z (oN (tN ?_))
  refine W_cond Z (fun h2 => ?_) (fun h2 => ?_)
  ·
   try simp only [HS] at h2
   refine sQ (rG (eK 3 Z ?_))
   first | refine WO_idxT tys rfl rfl (lt_of rfl) rfl rfl rfl rfl rfl rfl rfl (by omega) _ (getT _ _ (by omega) (by omega)) ?_ | refine WO_idxS tys rfl rfl (lt_of rfl) rfl rfl rfl rfl rfl rfl rfl rfl (by omega) (by omega) ?_
   refine WO_storeE tys (T.int 0) Z Z Z Z Z Z (Nat.zero_add _) (by rw [List.length_map]; omega) Z (by repeat (first | exact AbsL.nil' | refine AbsL.v' ?_ | refine AbsL.own' ?_)) Z Z Z ?_
   refine nZ Z (nZ Z (oN (tN (kY [2,3,6,7,9,25,26,27,28,29,30,31,32,33,34,35,36,37,38,39,40] Z (rG (eK 3 Z ?_))))))
   refine WO_buildSlice tys [T.int (c.rows[k.toNat]'(by omega)).pad] Z Z (lt_of Z) Z Z Z Z Z (lt_of Z) (by repeat (first | exact PartsOk.nil' | refine PartsOk.cons' rfl (by repeat (first | exact AbsL.nil' | refine AbsL.v' ?_ | refine AbsL.own' ?_ | refine AbsL.none' ?_)) Z ?_)) (by first | exact List.nodup_nil | exact nodup1 _ | decide | exact nodupB_sound Z) Z (by decide) ?_
   refine nZ Z ?_
   first | refine WO_append tys rfl rfl (lt_of rfl) rfl rfl rfl rfl rfl (.own rfl (by first | omega | (simp only [List.length_append]; omega))) rfl (.own rfl (by first | decide | omega)) (by decide) (by simp; omega) (by decide) rfl ?_ | refine WO_append tys rfl rfl (lt_of rfl) rfl rfl rfl rfl rfl .nil rfl (.own rfl (by first | decide | omega)) (by decide) (by simp; omega) (by decide) rfl ?_
   refine nZ Z (eZ Z (oN (bN (tN (rG (evI ?_))))))
   refine eZ Z (oN ?_)
   refine lQ (_, _, _, _) ?_ ?_
   ·try dsimp only
    first
    | exact ⟨by omega, by omega, by simp, beg_new hb hk0 (by omega) hpd.1 hpd.2 (by rw [eP]; assumption) rfl (by simp only [List.take_length])⟩
    | exact ⟨by omega, by omega, rfl, hs, met, rfl, rfl, begX_same hb hk0 (by omega) hpd.1 hpd.2 (by rw [eP]; omega)⟩
   ·(show Int.toNat _ < Int.toNat _); omega
  try simp only [HS] at h2
  refine W_skip (bN (tN (rG (evI ?_))))
  refine eZ Z (oN ?_)
  refine lQ (_, _, _, _) ?_ ?_
  ·try dsimp only
   first
   | exact ⟨by omega, by omega, by simp, beg_new hb hk0 (by omega) hpd.1 hpd.2 (by rw [eP]; assumption) rfl (by simp only [List.take_length])⟩
   | exact ⟨by omega, by omega, rfl, hs, met, rfl, rfl, begX_same hb hk0 (by omega) hpd.1 hpd.2 (by rw [eP]; omega)⟩
  ·(show Int.toNat _ < Int.toNat _); omega
 try simp only [HS] at h1
 refine W_exit (tE (loopQ_e (inBlk_y (tN (sQ (W_block ?_))))))
 refine lK (α := Nat × List T × List T) [2, 3, 6] [2, 3] (fun x => [(7, .sl 21 0 (x.1))]) (fun x => [(20, .L 1 (x.2.1)), (21, .L 1 (x.2.2))]) (fun x => popX im c (x.2.1) (x.2.2) (x.1)) (fun x => Int.toNat ((((x.1) + 2 * negsT (x.2.1) : Nat) : Int))) ((met.map T.int).length, hs.map T.int, met.map T.int) ?_ (fun x hx => ?_)
 ·have hme := hb.2.2.2.2.2.2
  exact ⟨hs, met, rfl, rfl, by rw [List.length_map]; exact Nat.le_refl _, by rw [List.length_map]; omega, by rw [List.length_map, List.take_length]; exact begX_part (by rw [show k.toNat = c.rows.length from by omega] at hb; exact hb)⟩
 obtain ⟨m, xs, ms⟩ := x
 obtain ⟨hs, l, hxs, hms, hml, hmn, hpa⟩ := hx
 try dsimp only at hs hxs hms hml hmn hpa ⊢
 subst hxs hms
 refine nY Z (sQ (sQ (rG (eZ Z (evE ?_)))))
 refine eZ Z (oN (tN ?_))
 refine W_cond Z (fun h2 => ?_) (fun h2 => ?_)
 ·
  try simp only [HS] at h2
  refine W_skip (tN (W_block (sQ (rG (eK 2 Z (evE ?_))))))
  refine evI ?_
  have hll2 : (l.map T.int).length = l.length := List.length_map _
  have hkm : ((m : Int) - 1).toNat < l.length := by omega
  have hKq : l[((m : Int) - 1).toNat]'hkm = l[m - 1]'(by omega) := by congr 1; omega
  have hop : l[((m : Int) - 1).toNat]'hkm ∈ l.take m := by rw [hKq]; exact pop_mem (by omega) hml
  obtain ⟨hq0, hq1, hq2⟩ := hpa.2.2.2.1 _ hop
  have hsl : hs.length = c.ins.length := hpa.1.1
  have hqi : (l[((m : Int) - 1).toNat]'hkm).toNat < c.ins.length := by omega
  have hqs : (l[((m : Int) - 1).toNat]'hkm).toNat < hs.length := by omega
  have hIn := List.getElem_mem hqi
  have hrng := hpa.1.2 _ (List.getElem_mem hqs)
  have htk := hR.tk hIn
  have hpt := ptX_nn (c.ins[(l[((m : Int) - 1).toNat]'hkm).toNat]'hqi)
  have hpt2 := ptX_le (c.ins[(l[((m : Int) - 1).toNat]'hkm).toNat]'hqi)
  have eA : atI hs (l[((m : Int) - 1).toNat]'hkm) = hs[(l[((m : Int) - 1).toNat]'hkm).toNat]'hqs := atI_at hq0 (by omega)
  have eI : insAt c (l[((m : Int) - 1).toNat]'hkm) = c.ins[(l[((m : Int) - 1).toNat]'hkm).toNat]'hqi := insAt_at hq0 (by omega)
  have hnx2 : (nextX (c.ins[(l[((m : Int) - 1).toNat]'hkm).toNat]'hqi) (l[((m : Int) - 1).toNat]'hkm)).length ≤ 2 := nextX_len _ _
  generalize hKe : l[((m : Int) - 1).toNat]'hkm = K at *
  first | refine WO_idxT tys rfl rfl (lt_of rfl) rfl rfl rfl rfl rfl rfl rfl (by omega) _ (getT _ _ (by omega) (by omega)) ?_ | refine WO_idxS tys rfl rfl (lt_of rfl) rfl rfl rfl rfl rfl rfl rfl rfl (by omega) (by omega) ?_
  first | refine ev ?_ | refine WO_loadL tys rfl rfl (lt_of rfl) rfl rfl rfl rfl (getT _ _ (by omega) (by omega)) rfl ?_ | refine WO_loadL tys rfl rfl (lt_of rfl) rfl rfl rfl rfl (getT0 _ _ (by omega) (by omega)) rfl ?_
  refine kZ [2,3,6,7,47,48,49,50,51,52,53,54,55] Z (eZ Z (oN (tN (sQ (rG (eK 2 Z (evE ?_)))))))
  refine evI ?_
  first | refine WO_sliceNil tys rfl rfl (lt_of rfl) rfl rfl rfl rfl rfl rfl rfl ?_ | refine WO_sliceT tys rfl rfl (lt_of rfl) rfl rfl rfl rfl rfl rfl rfl rfl (by first | omega | (simp only [List.length_map]; omega)) (by first | omega | (simp only [List.length_map]; omega)) (by first | omega | (simp only [List.length_map]; omega)) ?_ | refine WO_sliceS tys rfl rfl (lt_of rfl) rfl rfl rfl rfl rfl rfl rfl rfl rfl (by omega) (by omega) (by omega) ?_
  refine eZ Z (oN (tN (sQ ?_)))
  rw [hKe]
  refine kY [2,3,6,7,10,47,48,49,50,51,52,53,54,55,56,57,58,59,60] Z (W_regionD mixed (by kernel_rfl) ?_)
  first | refine QL_evZ tys rfl rfl (lt_of rfl) rfl rfl ?_ | refine evQ ?_ | refine WO_loadMove tys rfl rfl (lt_of rfl) rfl rfl rfl rfl rfl rfl ?_
  refine evQ ?_
  refine evQ ?_
  refine evQ ?_
  first | refine QL_idxT tys rfl rfl (lt_of rfl) rfl rfl rfl rfl rfl rfl rfl (by omega) _ (getT _ _ (by omega) (by omega)) ?_ | refine QL_idxS tys rfl rfl (lt_of rfl) rfl rfl rfl rfl rfl rfl rfl rfl (by omega) (by omega) ?_
  first | refine QL_evZ tys rfl rfl (lt_of rfl) rfl rfl ?_ | refine evQ ?_ | refine QL_loadL tys rfl rfl (lt_of rfl) rfl rfl rfl rfl (getT _ _ (by omega) (by omega)) rfl ?_ | refine QL_loadL tys rfl rfl (lt_of rfl) rfl rfl rfl rfl (getT0 _ _ (by omega) (by omega)) rfl ?_
  refine QL_norm Z ?_
  generalize hIe : c.ins[K.toNat]'hqi = I at *
  refine callBQ ?_
  refine ⟨_, takesPuts_fun im _ (by omega) (hR.call _ hIn), rfl, ?_⟩
  refine evQ ?_
  refine evQ ?_
  refine evQ ?_
  refine evQ ?_
  refine evQ ?_
  refine QL_norm Z (QL_nil (tN (sQ (rG (eK 2 Z ?_)))))
  first | refine WO_idxT tys rfl rfl (lt_of rfl) rfl rfl rfl rfl rfl rfl rfl (by omega) _ (getT _ _ (by omega) (by omega)) ?_ | refine WO_idxS tys rfl rfl (lt_of rfl) rfl rfl rfl rfl rfl rfl rfl rfl (by omega) (by omega) ?_
  first | refine ev ?_ | refine WO_loadL tys rfl rfl (lt_of rfl) rfl rfl rfl rfl (getT _ _ (by omega) (by omega)) rfl ?_ | refine WO_loadL tys rfl rfl (lt_of rfl) rfl rfl rfl rfl (getT0 _ _ (by omega) (by omega)) rfl ?_
  refine eZ Z ?_
  generalize hHe : hs[K.toNat]'hqs = HV at *
  refine evI ?_
  refine eZ Z (oN (tN (sQ (sQ (kY [2,3,6,7,10,11,12,13,47,48,49,50,51,52,53,54,55,56,57,58,59,60,61,62,63,64,65,66,67,68,69,70,71,72,73,74,75,76] Z (rG (eK 2 Z (oN (tN ?_)))))))))
  refine W_cond Z (fun h3 => ?_) (fun h3 => ?_)
  ·
   try simp only [HS] at h3
   refine sQ (rG (eK 2 Z (oN (tN ?_))))
   first | refine W_le (Le.nilOwn (u := 4) 1 rfl) ?_ | refine W_le (Le.gather (u := 4) (id := 20) rfl rfl (by rw [List.length_map, hpa.1.1]; exact Nat.le_refl _)) ?_
   refine rT (tR (bR (loopQ_r (bR (tR (eR ?_))))))
   ·first
    | exact retHN (seek_low hpa hop (by rw [eA, eI]; omega))
    | exact retHN (mid_fail hmi hNm hnn.1 (by omega) (by rw [eN, ← hhi]; omega))
    | exact retHS (part_end hpa (by rw [show m = 0 from by omega, List.take_zero])) (List.take_of_length_le (by rw [List.length_map, hpa.1.1]; exact Nat.le_refl _))
  try simp only [HS] at h3
  refine W_skip (tN (sQ (rG (eK 2 Z (evI ?_)))))
  refine eZ Z (oN (tN (sQ (rG (eK 3 Z (kZ [2,3,6,7,10,11,12,13,47,48,49,50,51,52,53,54,55,56,57,58,59,60,61,62,63,64,65,66,67,68,69,70,71,72,73,74,75,76,77,78,79,80,81,82,83,84] Z ?_))))))
  first | refine WO_idxT tys rfl rfl (lt_of rfl) rfl rfl rfl rfl rfl rfl rfl (by omega) _ (getT _ _ (by omega) (by omega)) ?_ | refine WO_idxS tys rfl rfl (lt_of rfl) rfl rfl rfl rfl rfl rfl rfl rfl (by omega) (by omega) ?_
  first | (refine ev ?_; try refine WO_le (Le.freeze (u := 86) rfl) ?_) | refine WO_loadL tys rfl rfl (lt_of rfl) rfl rfl rfl rfl (getT _ _ (by omega) (by omega)) rfl ?_ | refine WO_loadL tys rfl rfl (lt_of rfl) rfl rfl rfl rfl (getT0 _ _ (by omega) (by omega)) rfl ?_
  refine nZ Z (eZ Z ?_)
  rw [hIe]
  refine WO_callF Z Z (lt_of Z) Z Z Z Z Z (nextOf_fun _ _ (by omega)) Z (evE ?_)
  refine eZ Z (oN (tN (W_block ?_)))
  refine lK (α := Int × Nat × List T × List T) [2, 3, 6, 13, 88, 89] [2, 3] (fun x => [(90, .t (.int (x.1))), (7, .sl 21 0 (x.2.1))]) (fun x => [(20, .L 1 (x.2.2.1)), (21, .L 1 (x.2.2.2))]) (fun x => 0 ≤ (x.1) ∧ (x.1) ≤ (nextX I K).length ∧ pushX im c (x.2.2.1) (x.2.2.2) (x.2.1) (m + 2 * negs hs) K (HV - tkX im I + ptX I) ((nextX I K).take (x.1).toNat)) (fun x => Int.toNat ((nextX I K).length - (x.1))) (0, ((m : Int) - 1).toNat, hs.map T.int, l.map T.int) ?_ (fun x hx => ?_)
  ·exact ⟨by omega, by omega, pop_start (by omega) hml hmn hpa (by show ((m : Int) - 1).toNat = m - 1; omega) hKq (by rw [eA, eI]; omega) (by rw [eA, eI]) rfl⟩
  obtain ⟨j, m2, xs, ms⟩ := x
  obtain ⟨hj0, hj1, hs2, l2, hxs, hms, hml2, hmn2, hmi, hhi⟩ := hx
  try dsimp only at hj0 hj1 hs2 hxs hms hml2 hmn2 hmi hhi ⊢
  subst hxs hms
  refine nY Z (sQ (rG (eZ Z (oN (tN (sQ ?_))))))
  refine W_cond Z (fun h4 => ?_) (fun h4 => ?_)
  ·
   try simp only [HS] at h4
   refine W_skip (tN (sQ (W_block (sQ (rG ?_)))))
   have hjl : j.toNat < (nextX I K).length := by omega
   have hNm : (nextX I K)[j.toNat]'hjl ∈ nextX (insAt c K) K := by rw [eI]; exact List.getElem_mem hjl
   have hnn := hR.next K hq0 (by omega) _ hNm
   have hs2l : hs2.length = c.ins.length := hmi.1.1
   have hnl : ((nextX I K)[j.toNat]'hjl).toNat < hs2.length := by omega
   have eN : atI hs2 ((nextX I K)[j.toNat]'hjl) = hs2[((nextX I K)[j.toNat]'hjl).toNat]'hnl := atI_at hnn.1 (by omega)
   have hllm : (l2.map T.int).length = l2.length := List.length_map _
   first | refine WO_idxT tys rfl rfl (lt_of rfl) rfl rfl rfl rfl rfl rfl rfl (by omega) _ (getT _ _ (by omega) (by omega)) ?_ | refine WO_idxS tys rfl rfl (lt_of rfl) rfl rfl rfl rfl rfl rfl rfl rfl (by omega) (by omega) ?_
   first | refine ev ?_ | refine WO_loadL tys rfl rfl (lt_of rfl) rfl rfl rfl rfl (getT _ _ (by omega) (by omega)) rfl ?_ | refine WO_loadL tys rfl rfl (lt_of rfl) rfl rfl rfl rfl (getT0 _ _ (by omega) (by omega)) rfl ?_
   refine eZ Z (oN (tN (sQ (sQ (rG (eK 3 Z ?_))))))
   refine WO_guard Z Z Z Z (lt_of Z) (fun h5 => ?_) (fun h5 => ?_)
   rotate_left
   ·
    try simp only [HS] at h5
    refine gM Z (gM Z (kZ [2,3,6,7,13,15,88,89,90,91,92,93,94,95,96,97,98,99] Z (gM Z (gM Z (gM Z (gM Z (gM Z (gM Z (gM Z (gM Z (gM Z (kZ [2,3,6,7,13,15,88,89,90,91,92,93,94,95,96,97,98,99,100,101,102,103,104,105,106,107,108] Z (gM Z (eZ Z (oN ?_)))))))))))))))
    refine tN (W_condT Z (sQ (rG (eK 2 Z (oN (tN ?_))))))
    first | refine W_le (Le.nilOwn (u := 4) 1 rfl) ?_ | refine W_le (Le.gather (u := 4) (id := 20) rfl rfl (by rw [List.length_map, hpa.1.1]; exact Nat.le_refl _)) ?_
    refine rT (tR (bR (tR (loopQ_r (bR (bR (loopQ_r (bR (tR (eR ?_))))))))))
    ·first
     | exact retHN (seek_low hpa hop (by rw [eA, eI]; omega))
     | exact retHN (mid_fail hmi hNm hnn.1 (by omega) (by rw [eN, ← hhi]; omega))
     | exact retHS (part_end hpa (by rw [show m = 0 from by omega, List.take_zero])) (List.take_of_length_le (by rw [List.length_map, hpa.1.1]; exact Nat.le_refl _))
   try simp only [HS] at h5
   refine eZ Z (gY Z (eZ Z (kZ [2,3,6,7,13,15,88,89,90,91,92,93,94,95,96,97,98] Z (gY Z ?_))))
   first | refine WO_idxT tys rfl rfl (lt_of rfl) rfl rfl rfl rfl rfl rfl rfl (by omega) _ (getT _ _ (by omega) (by omega)) ?_ | refine WO_idxS tys rfl rfl (lt_of rfl) rfl rfl rfl rfl rfl rfl rfl rfl (by omega) (by omega) ?_
   refine gY Z ?_
   first | refine ev ?_ | refine WO_loadL tys rfl rfl (lt_of rfl) rfl rfl rfl rfl (getT _ _ (by omega) (by omega)) rfl ?_ | refine WO_loadL tys rfl rfl (lt_of rfl) rfl rfl rfl rfl (getT0 _ _ (by omega) (by omega)) rfl ?_
   refine gY Z (eZ Z (gY Z (eZ Z ?_)))
   refine WO_guard Z Z Z Z (lt_of Z) (fun h6 => ?_) (fun h6 => ?_)
   rotate_left
   ·
    try simp only [HS] at h6
    refine gM Z (gM Z (gM Z (gM Z (gM Z (kZ [2,3,6,7,13,15,88,89,90,91,92,93,94,95,96,97,98,99,100,101,102,103,104,105,106,107,108] Z (gY Z (eK 2 Z (oN (tN (W_condF Z (W_skip (tN (sQ (rG (eK 2 Z ?_)))))))))))))))
    first | refine WO_idxT tys rfl rfl (lt_of rfl) rfl rfl rfl rfl rfl rfl rfl (by omega) _ (getT _ _ (by omega) (by omega)) ?_ | refine WO_idxS tys rfl rfl (lt_of rfl) rfl rfl rfl rfl rfl rfl rfl rfl (by omega) (by omega) ?_
    first | refine ev ?_ | refine WO_loadL tys rfl rfl (lt_of rfl) rfl rfl rfl rfl (getT _ _ (by omega) (by omega)) rfl ?_ | refine WO_loadL tys rfl rfl (lt_of rfl) rfl rfl rfl rfl (getT0 _ _ (by omega) (by omega)) rfl ?_
    refine eZ Z (oN (tN ?_))
    refine W_cond Z (fun h7 => ?_) (fun h7 => ?_)
    ·
     try simp only [HS] at h7
     refine sQ (kY [2,3,6,7,13,15,88,89,90,91,92,93,94,95,96,97,98,99,100,101,102,103,104,105,106,107,108,109,110,111,112,113,114,115] Z (rG (eK 3 Z ?_)))
     first | refine WO_idxT tys rfl rfl (lt_of rfl) rfl rfl rfl rfl rfl rfl rfl (by omega) _ (getT _ _ (by omega) (by omega)) ?_ | refine WO_idxS tys rfl rfl (lt_of rfl) rfl rfl rfl rfl rfl rfl rfl rfl (by omega) (by omega) ?_
     refine WO_storeE tys (T.int (HV - tkX im I + ptX I)) Z Z Z Z Z Z (Nat.zero_add _) (by rw [List.length_map]; omega) Z (by repeat (first | exact AbsL.nil' | refine AbsL.v' ?_ | refine AbsL.own' ?_)) Z Z Z ?_
     refine nZ Z (nZ Z (oN (tN (rG (eK 2 Z ?_)))))
     refine WO_buildSlice tys [T.int ((nextX I K)[j.toNat]'hjl)] Z Z (lt_of Z) Z Z Z Z Z (lt_of Z) (by repeat (first | exact PartsOk.nil' | refine PartsOk.cons' rfl (by repeat (first | exact AbsL.nil' | refine AbsL.v' ?_ | refine AbsL.own' ?_ | refine AbsL.none' ?_)) Z ?_)) (by first | exact List.nodup_nil | exact nodup1 _ | decide | exact nodupB_sound Z) Z (by decide) ?_
     refine nZ Z ?_
     first | refine WO_append tys rfl rfl (lt_of rfl) rfl rfl rfl rfl rfl (.own rfl (by first | omega | (simp only [List.length_append]; omega))) rfl (.own rfl (by first | decide | omega)) (by decide) (by simp; omega) (by decide) rfl ?_ | refine WO_append tys rfl rfl (lt_of rfl) rfl rfl rfl rfl rfl .nil rfl (.own rfl (by first | decide | omega)) (by decide) (by simp; omega) (by decide) rfl ?_
     refine nZ Z (kZ [2,3,6,7,13,15,88,89,90,91,92,93,94,95,96,97,98,99,100,101,102,103,104,105,106,107,108,109,110,111,112,113,114,115,116,117,118,119,120,121,122,123] Z (eZ Z (oN (bN (tN (rG (evI ?_)))))))
     refine eZ Z (oN ?_)
     refine lQ (_, _, _, _) ?_ ?_
     ·try dsimp only
      first
      | exact ⟨by omega, by omega, by rw [take_at hj0 (by omega)]; exact push_same hml2 hmn2 hmi hhi (by rw [eN]; omega) (by rw [eN]; omega)⟩
      | exact ⟨by omega, by omega, by rw [take_at hj0 (by omega)]; exact push_new hR hml2 hmn2 hmi hhi hNm hnn.1 (by omega) (by rw [eN]; omega) (by omega) rfl rfl (by simp; omega)⟩
     ·(show Int.toNat _ < Int.toNat _); omega
    try simp only [HS] at h7
    refine W_skip (bN (tN (kY [2,3,6,7,13,15,88,89,90,91,92,93,94,95,96,97,98,99,100,101,102,103,104,105,106,107,108,109,110,111,112,113,114,115] Z (rG (evI ?_)))))
    refine eZ Z (oN ?_)
    refine lQ (_, _, _, _) ?_ ?_
    ·try dsimp only
     first
     | exact ⟨by omega, by omega, by rw [take_at hj0 (by omega)]; exact push_same hml2 hmn2 hmi hhi (by rw [eN]; omega) (by rw [eN]; omega)⟩
     | exact ⟨by omega, by omega, by rw [take_at hj0 (by omega)]; exact push_new hR hml2 hmn2 hmi hhi hNm hnn.1 (by omega) (by rw [eN]; omega) (by omega) rfl rfl (by simp; omega)⟩
    ·(show Int.toNat _ < Int.toNat _); omega
   try simp only [HS] at h6
   refine eZ Z (gY Z (eZ Z (gY Z ?_)))
   first | refine WO_idxT tys rfl rfl (lt_of rfl) rfl rfl rfl rfl rfl rfl rfl (by omega) _ (getT _ _ (by omega) (by omega)) ?_ | refine WO_idxS tys rfl rfl (lt_of rfl) rfl rfl rfl rfl rfl rfl rfl rfl (by omega) (by omega) ?_
   refine gY Z ?_
   first | refine ev ?_ | refine WO_loadL tys rfl rfl (lt_of rfl) rfl rfl rfl rfl (getT _ _ (by omega) (by omega)) rfl ?_ | refine WO_loadL tys rfl rfl (lt_of rfl) rfl rfl rfl rfl (getT0 _ _ (by omega) (by omega)) rfl ?_
   refine gY Z (eZ Z (kZ [2,3,6,7,13,15,88,89,90,91,92,93,94,95,96,97,98,99,100,101,102,103,104,105,106,107] Z (gY Z (eZ Z (gY Z (eK 2 Z (oN (tN ?_))))))))
   refine W_cond Z (fun h7 => ?_) (fun h7 => ?_)
   ·
    try simp only [HS] at h7
    refine sQ (rG (eK 2 Z (oN (tN ?_))))
    first | refine W_le (Le.nilOwn (u := 4) 1 rfl) ?_ | refine W_le (Le.gather (u := 4) (id := 20) rfl rfl (by rw [List.length_map, hpa.1.1]; exact Nat.le_refl _)) ?_
    refine rT (tR (bR (tR (loopQ_r (bR (bR (loopQ_r (bR (tR (eR ?_))))))))))
    ·first
     | exact retHN (seek_low hpa hop (by rw [eA, eI]; omega))
     | exact retHN (mid_fail hmi hNm hnn.1 (by omega) (by rw [eN, ← hhi]; omega))
     | exact retHS (part_end hpa (by rw [show m = 0 from by omega, List.take_zero])) (List.take_of_length_le (by rw [List.length_map, hpa.1.1]; exact Nat.le_refl _))
   try simp only [HS] at h7
   refine W_skip (tN (sQ (rG (eK 2 Z ?_))))
   first | refine WO_idxT tys rfl rfl (lt_of rfl) rfl rfl rfl rfl rfl rfl rfl (by omega) _ (getT _ _ (by omega) (by omega)) ?_ | refine WO_idxS tys rfl rfl (lt_of rfl) rfl rfl rfl rfl rfl rfl rfl rfl (by omega) (by omega) ?_
   first | refine ev ?_ | refine WO_loadL tys rfl rfl (lt_of rfl) rfl rfl rfl rfl (getT _ _ (by omega) (by omega)) rfl ?_ | refine WO_loadL tys rfl rfl (lt_of rfl) rfl rfl rfl rfl (getT0 _ _ (by omega) (by omega)) rfl ?_
   refine eZ Z (oN (tN ?_))
   refine W_cond Z (fun h8 => ?_) (fun h8 => ?_)
   ·
    try simp only [HS] at h8
    refine sQ (kY [2,3,6,7,13,15,88,89,90,91,92,93,94,95,96,97,98,99,100,101,102,103,104,105,106,107,108,109,110,111,112,113,114,115] Z (rG (eK 3 Z ?_)))
    first | refine WO_idxT tys rfl rfl (lt_of rfl) rfl rfl rfl rfl rfl rfl rfl (by omega) _ (getT _ _ (by omega) (by omega)) ?_ | refine WO_idxS tys rfl rfl (lt_of rfl) rfl rfl rfl rfl rfl rfl rfl rfl (by omega) (by omega) ?_
    refine WO_storeE tys (T.int (HV - tkX im I + ptX I)) Z Z Z Z Z Z (Nat.zero_add _) (by rw [List.length_map]; omega) Z (by repeat (first | exact AbsL.nil' | refine AbsL.v' ?_ | refine AbsL.own' ?_)) Z Z Z ?_
    refine nZ Z (nZ Z (oN (tN (rG (eK 2 Z ?_)))))
    refine WO_buildSlice tys [T.int ((nextX I K)[j.toNat]'hjl)] Z Z (lt_of Z) Z Z Z Z Z (lt_of Z) (by repeat (first | exact PartsOk.nil' | refine PartsOk.cons' rfl (by repeat (first | exact AbsL.nil' | refine AbsL.v' ?_ | refine AbsL.own' ?_ | refine AbsL.none' ?_)) Z ?_)) (by first | exact List.nodup_nil | exact nodup1 _ | decide | exact nodupB_sound Z) Z (by decide) ?_
    refine nZ Z ?_
    first | refine WO_append tys rfl rfl (lt_of rfl) rfl rfl rfl rfl rfl (.own rfl (by first | omega | (simp only [List.length_append]; omega))) rfl (.own rfl (by first | decide | omega)) (by decide) (by simp; omega) (by decide) rfl ?_ | refine WO_append tys rfl rfl (lt_of rfl) rfl rfl rfl rfl rfl .nil rfl (.own rfl (by first | decide | omega)) (by decide) (by simp; omega) (by decide) rfl ?_
    refine nZ Z (kZ [2,3,6,7,13,15,88,89,90,91,92,93,94,95,96,97,98,99,100,101,102,103,104,105,106,107,108,109,110,111,112,113,114,115,116,117,118,119,120,121,122,123] Z (eZ Z (oN (bN (tN (rG (evI ?_)))))))
    refine eZ Z (oN ?_)
    refine lQ (_, _, _, _) ?_ ?_
    ·try dsimp only
     first
     | exact ⟨by omega, by omega, by rw [take_at hj0 (by omega)]; exact push_same hml2 hmn2 hmi hhi (by rw [eN]; omega) (by rw [eN]; omega)⟩
     | exact ⟨by omega, by omega, by rw [take_at hj0 (by omega)]; exact push_new hR hml2 hmn2 hmi hhi hNm hnn.1 (by omega) (by rw [eN]; omega) (by omega) rfl rfl (by simp; omega)⟩
    ·(show Int.toNat _ < Int.toNat _); omega
   try simp only [HS] at h8
   refine W_skip (bN (tN (kY [2,3,6,7,13,15,88,89,90,91,92,93,94,95,96,97,98,99,100,101,102,103,104,105,106,107,108,109,110,111,112,113,114,115] Z (rG (evI ?_)))))
   refine eZ Z (oN ?_)
   refine lQ (_, _, _, _) ?_ ?_
   ·try dsimp only
    first
    | exact ⟨by omega, by omega, by rw [take_at hj0 (by omega)]; exact push_same hml2 hmn2 hmi hhi (by rw [eN]; omega) (by rw [eN]; omega)⟩
    | exact ⟨by omega, by omega, by rw [take_at hj0 (by omega)]; exact push_new hR hml2 hmn2 hmi hhi hNm hnn.1 (by omega) (by rw [eN]; omega) (by omega) rfl rfl (by simp; omega)⟩
   ·(show Int.toNat _ < Int.toNat _); omega
  try simp only [HS] at h4
  refine W_exit (tE (loopQ_e (inBlk_y (bN ?_))))
  refine lQ (_, _, _) ?_ ?_
  ·try dsimp only
   first
   | exact ⟨hs2, l2, rfl, rfl, hml2, by omega, mid_part hmi (fun n hn => by rw [take_end (by omega), ← eI]; exact hn)⟩
  ·first
   | (show ((m2 + 2 * negsT (hs2.map T.int) : Nat) : Int).toNat < ((m + 2 * negsT (hs.map T.int) : Nat) : Int).toNat; rw [negsT_map, negsT_map]; omega)
 try simp only [HS] at h2
 refine W_exit (tE (loopQ_e (inBlk_y (tN (sQ (rG (eK 3 Z (oN (tN ?_)))))))))
 first | refine W_le (Le.nilOwn (u := 4) 1 rfl) ?_ | refine W_le (Le.gather (u := 4) (id := 20) rfl rfl (by rw [List.length_map, hpa.1.1]; exact Nat.le_refl _)) ?_
 refine rT (eR ?_)
 ·first
  | exact retHN (seek_low hpa hop (by rw [eA, eI]; omega))
  | exact retHN (mid_fail hmi hNm hnn.1 (by omega) (by rw [eN, ← hhi]; omega))
  | exact retHS (part_end hpa (by rw [show m = 0 from by omega, List.take_zero])) (List.take_of_length_le (by rw [List.length_map, hpa.1.1]; exact Nat.le_refl _))
open Go.Eng
theorem sites_any {x : Image} {c : Code} (h : (c.sites.any fun n => !siteI x n) = false) : sitesB x c = true := by
 rw [any_notI, Bool.not_eq_false'] at h
 exact h
theorem heiR_no {x : Image} {c : Code} {n : Int} (h : codeX x c = n) (hn : n ≠ 0) : heiR x c = [] := by rw [heiR, h, if_neg hn]
theorem heiR_yes {x : Image} {c : Code} (h : codeX x c = 0) : heiR x c = (heiX x c).getD [] := by rw [heiR, if_pos h]
theorem retCN {x : Image} {c : Code} {n : Int} (h : codeX x c = n) (hn : n ≠ 0) : [D.own (T.list 1 []), D.t (T.v (Value.int .i64 n))] = [D.own (T.ints (heiR x c)), D.t (T.int (codeX x c))] := by rw [heiR_no h hn, h]; rfl
theorem retCY {x : Image} {c : Code} {l : List T} (h : codeX x c = 0) (hl : l = ((heiX x c).getD []).map T.int) : [D.own (T.list 1 l), D.t (T.v (Value.int .i64 0))] = [D.own (T.ints (heiR x c)), D.t (T.int (codeX x c))] := by rw [heiR_yes h, h, hl]; rfl
theorem checkCode_fun (im : Image) (k : Int) (hx : sizedX im = true) (hk0 : 0 ≤ k) (hk1 : k < im.codes.length) : Fun Tryz.prog 82 [.t im.tt, .t (.int k)] (tupD [.own (T.ints (heiR im (codeAt im k))), .t (.int (codeX im (codeAt im k)))]) := by
 obtain ⟨hx1, hx2⟩ := sizedX_of hx
 have hkk : k.toNat < im.codes.length := by omega
 have hc := List.getElem_mem hkk
 obtain ⟨hz1, hz2, hz3, hz4, hz5, hz6⟩ := sizedC_of (hx2 _ hc)
 rw [codeAt_at hk0 hk1]
 refine Fun.begin tys Tryz.func82 Z Z (N := 122) [(0, .t im.tt), (1, .t (.int k))] Z Z (fun w0 G F0 => ?_)
 refine sQ (rG (WO_box Z Z (lt_of Z) Z Z (nZ Z (eK 2 Z (oN (tN (sQ (rG (eK 3 Z ?_)))))))))
 first | refine WO_idxT tys rfl rfl (lt_of rfl) rfl rfl rfl rfl rfl rfl rfl (by omega) _ (getT _ _ (by omega) (by omega)) ?_ | refine WO_idxS tys rfl rfl (lt_of rfl) rfl rfl rfl rfl rfl rfl rfl rfl (by omega) (by omega) ?_
 first | (refine ev ?_; try refine WO_le (Le.freeze (u := 18) rfl) ?_) | refine WO_loadL tys rfl rfl (lt_of rfl) rfl rfl rfl rfl (getT _ _ (by omega) (by omega)) rfl ?_ | refine WO_loadL tys rfl rfl (lt_of rfl) rfl rfl rfl rfl (getT0 _ _ (by omega) (by omega)) rfl ?_
 refine nZ Z (WO_alloc tys Z Z (lt_of Z) Z Z Z (nZ Z (kZ [2,4,5,6,18] Z (sT Z (nZ Z (oN (tN (sQ (W_block (sQ (rG ?_)))))))))))
 generalize im.codes[k.toNat]'hkk = c at *
 first | (refine ev ?_; try refine WO_le (Le.freeze (u := 20) rfl) ?_) | refine WO_loadMove tys rfl rfl (lt_of rfl) rfl rfl rfl rfl rfl rfl ?_
 refine nZ Z ?_
 first | (refine ev ?_; try refine WO_le (Le.freeze (u := 21) rfl) ?_) | refine WO_loadMove tys rfl rfl (lt_of rfl) rfl rfl rfl rfl rfl rfl ?_
 refine nZ Z (callB ?_)
 refine ⟨_, areNamed_fun im c (by omega) (by omega) (by omega), rfl, ?_⟩
 refine eK 2 Z (oN (tN ?_))
 refine W_cond Z (fun h1 => ?_) (fun h1 => ?_)
 ·
  try simp only [HS] at h1
  refine sQ (rG (eK 2 Z (oN (tN ?_))))
  first | refine W_le (Le.nilOwn (u := 4) 1 rfl) ?_ | refine W_le (Le.gather (u := 4) (id := 46) rfl rfl (by rw [List.length_map]; exact Nat.le_refl _)) ?_
  refine rT (bR (tR (eR ?_)))
  ·first
   | exact retCN (code_1 (by assumption)) (by decide)
   | exact retCN (code_2 (by assumption) (by rw [any_notI, Bool.not_eq_true'] at h2; exact h2)) (by decide)
   | exact retCN (code_3 (by assumption) (by assumption) (by assumption)) (by decide)
   | exact retCN (code_4 (by assumption) (by assumption) (by assumption) (by assumption)) (by decide)
   | exact retCN (code_5 (by assumption) (by assumption) (by assumption) (by assumption) (by assumption)) (by decide)
   | exact retCN (code_6 (by assumption) (by assumption) (by assumption) (by assumption) hes hj0 (by omega) (is6 hj0 (by omega) hkl (by omega) (by assumption) (by first | (left; omega) | (right; rw [padX_at (by omega)]; omega)))) (by decide)
   | exact retCN (code_7 (by assumption) (by assumption) (by assumption) (by assumption) hes (fun j g0 g1 => hup j g0 (by omega)) hj0 (by omega) (is7 hj0 (by omega) hkl (by omega) (by unfold flatB; rw [decide_eq_true_eq]; omega))) (by decide)
   | exact retCY (code_0 (by assumption) (by assumption) (by assumption) (by assumption) hes (fun j g0 g1 => hup j g0 (by omega)) (fun j g0 g1 => hup7 j g0 (by omega))) (List.take_of_length_le (by rw [hhm, hhl]; exact Nat.le_refl _))
 try simp only [HS] at h1
 refine sQ (rG (eK 3 Z (kZ [2,4,5,6,26,27] Z (callB ?_))))
 refine ⟨_, hasS_fun c.sites (fun n => !siteI im n) _ [.rp im.tt 0] Z (by omega) (fun n _ => checkCode1_fun n im (by omega)), rfl, ?_⟩
 refine eZ Z (oN (tN ?_))
 refine W_cond Z (fun h2 => ?_) (fun h2 => ?_)
 ·
  try simp only [HS] at h2
  refine sQ (rG (eK 2 Z (oN (tN ?_))))
  first | refine W_le (Le.nilOwn (u := 4) 1 rfl) ?_ | refine W_le (Le.gather (u := 4) (id := 46) rfl rfl (by rw [List.length_map]; exact Nat.le_refl _)) ?_
  refine rT (bR (tR (eR ?_)))
  ·first
   | exact retCN (code_1 (by assumption)) (by decide)
   | exact retCN (code_2 (by assumption) (by rw [any_notI, Bool.not_eq_true'] at h2; exact h2)) (by decide)
   | exact retCN (code_3 (by assumption) (by assumption) (by assumption)) (by decide)
   | exact retCN (code_4 (by assumption) (by assumption) (by assumption) (by assumption)) (by decide)
   | exact retCN (code_5 (by assumption) (by assumption) (by assumption) (by assumption) (by assumption)) (by decide)
   | exact retCN (code_6 (by assumption) (by assumption) (by assumption) (by assumption) hes hj0 (by omega) (is6 hj0 (by omega) hkl (by omega) (by assumption) (by first | (left; omega) | (right; rw [padX_at (by omega)]; omega)))) (by decide)
   | exact retCN (code_7 (by assumption) (by assumption) (by assumption) (by assumption) hes (fun j g0 g1 => hup j g0 (by omega)) hj0 (by omega) (is7 hj0 (by omega) hkl (by omega) (by unfold flatB; rw [decide_eq_true_eq]; omega))) (by decide)
   | exact retCY (code_0 (by assumption) (by assumption) (by assumption) (by assumption) hes (fun j g0 g1 => hup j g0 (by omega)) (fun j g0 g1 => hup7 j g0 (by omega))) (List.take_of_length_le (by rw [hhm, hhl]; exact Nat.le_refl _))
 try simp only [HS] at h2
 refine sQ (rG (eZ Z ?_))
 have hs2 := sites_any h2
 refine eZ Z (callB ?_)
 refine ⟨_, goesOn_fun c (by omega), rfl, ?_⟩
 refine eK 2 Z (oN (tN ?_))
 refine W_cond Z (fun h3 => ?_) (fun h3 => ?_)
 ·
  try simp only [HS] at h3
  refine sQ (kY [2,4,5,6] Z (rG (eK 2 Z (oN (tN ?_)))))
  first | refine W_le (Le.nilOwn (u := 4) 1 rfl) ?_ | refine W_le (Le.gather (u := 4) (id := 46) rfl rfl (by rw [List.length_map]; exact Nat.le_refl _)) ?_
  refine rT (bR (tR (eR ?_)))
  ·first
   | exact retCN (code_1 (by assumption)) (by decide)
   | exact retCN (code_2 (by assumption) (by rw [any_notI, Bool.not_eq_true'] at h2; exact h2)) (by decide)
   | exact retCN (code_3 (by assumption) (by assumption) (by assumption)) (by decide)
   | exact retCN (code_4 (by assumption) (by assumption) (by assumption) (by assumption)) (by decide)
   | exact retCN (code_5 (by assumption) (by assumption) (by assumption) (by assumption) (by assumption)) (by decide)
   | exact retCN (code_6 (by assumption) (by assumption) (by assumption) (by assumption) hes hj0 (by omega) (is6 hj0 (by omega) hkl (by omega) (by assumption) (by first | (left; omega) | (right; rw [padX_at (by omega)]; omega)))) (by decide)
   | exact retCN (code_7 (by assumption) (by assumption) (by assumption) (by assumption) hes (fun j g0 g1 => hup j g0 (by omega)) hj0 (by omega) (is7 hj0 (by omega) hkl (by omega) (by unfold flatB; rw [decide_eq_true_eq]; omega))) (by decide)
   | exact retCY (code_0 (by assumption) (by assumption) (by assumption) (by assumption) hes (fun j g0 g1 => hup j g0 (by omega)) (fun j g0 g1 => hup7 j g0 (by omega))) (List.take_of_length_le (by rw [hhm, hhl]; exact Nat.le_refl _))
 try simp only [HS] at h3
 refine sQ (kY [2,4,5,6] Z (rG (eK 4 Z (evE ?_))))
 refine callB ?_
 refine ⟨_, areRows_fun c.rows _ (by omega) (by omega), rfl, ?_⟩
 refine eK 2 Z (oN (tN ?_))
 refine W_cond Z (fun h4 => ?_) (fun h4 => ?_)
 ·
  try simp only [HS] at h4
  refine sQ (kY [2,4,5,6] Z (rG (eK 2 Z (oN (tN ?_)))))
  first | refine W_le (Le.nilOwn (u := 4) 1 rfl) ?_ | refine W_le (Le.gather (u := 4) (id := 46) rfl rfl (by rw [List.length_map]; exact Nat.le_refl _)) ?_
  refine rT (bR (tR (eR ?_)))
  ·first
   | exact retCN (code_1 (by assumption)) (by decide)
   | exact retCN (code_2 (by assumption) (by rw [any_notI, Bool.not_eq_true'] at h2; exact h2)) (by decide)
   | exact retCN (code_3 (by assumption) (by assumption) (by assumption)) (by decide)
   | exact retCN (code_4 (by assumption) (by assumption) (by assumption) (by assumption)) (by decide)
   | exact retCN (code_5 (by assumption) (by assumption) (by assumption) (by assumption) (by assumption)) (by decide)
   | exact retCN (code_6 (by assumption) (by assumption) (by assumption) (by assumption) hes hj0 (by omega) (is6 hj0 (by omega) hkl (by omega) (by assumption) (by first | (left; omega) | (right; rw [padX_at (by omega)]; omega)))) (by decide)
   | exact retCN (code_7 (by assumption) (by assumption) (by assumption) (by assumption) hes (fun j g0 g1 => hup j g0 (by omega)) hj0 (by omega) (is7 hj0 (by omega) hkl (by omega) (by unfold flatB; rw [decide_eq_true_eq]; omega))) (by decide)
   | exact retCY (code_0 (by assumption) (by assumption) (by assumption) (by assumption) hes (fun j g0 g1 => hup j g0 (by omega)) (fun j g0 g1 => hup7 j g0 (by omega))) (List.take_of_length_le (by rw [hhm, hhl]; exact Nat.le_refl _))
 try simp only [HS] at h4
 refine W_skip (bN (tN (sQ (kY [2,4,5,6] Z (rG ?_)))))
 have hR := ready hx hc (by assumption) (by assumption) (by assumption)
 first | (refine ev ?_; try refine WO_le (Le.freeze (u := 43) rfl) ?_) | refine WO_loadMove tys rfl rfl (lt_of rfl) rfl rfl rfl rfl rfl rfl ?_
 refine nZ Z ?_
 first | (refine ev ?_; try refine WO_le (Le.freeze (u := 44) rfl) ?_) | refine WO_loadMove tys rfl rfl (lt_of rfl) rfl rfl rfl rfl rfl rfl ?_
 refine nZ Z (callB ?_)
 refine ⟨_, heightsOf_fun im c hR, rfl, ?_⟩
 refine WO_moveAll Z Z (lt_of Z) (.inr Z) Z Z ?_
 first | refine WO_evF tys rfl rfl (lt_of rfl) (d := .t _) rfl ?_ | (refine WO_extract rfl rfl (lt_of rfl) rfl rfl rfl rfl ?_; first | refine WO_le (Le.adoptE (u := 46) 46 rfl (by first | exact lenN | exact rfl)) ?_ | skip)
 refine nZ Z ?_
 first | refine WO_evF tys rfl rfl (lt_of rfl) (d := .t _) rfl ?_ | (refine WO_extract rfl rfl (lt_of rfl) rfl rfl rfl rfl ?_; first | refine WO_le (Le.adoptE (u := 47) 47 rfl (by first | exact lenN | exact rfl)) ?_ | skip)
 refine nZ Z (eK 2 Z (oN (tN (sQ (sQ (kY [4,5,6,7,8] Z (rG (eK 2 Z (oN (tN ?_))))))))))
 refine W_cond Z (fun h5 => ?_) (fun h5 => ?_)
 ·
  try simp only [HS] at h5
  refine sQ (rG (eK 2 Z (oN (tN ?_))))
  first | refine W_le (Le.nilOwn (u := 4) 1 rfl) ?_ | refine W_le (Le.gather (u := 4) (id := 46) rfl rfl (by rw [List.length_map]; exact Nat.le_refl _)) ?_
  refine rT (tR (eR ?_))
  ·first
   | exact retCN (code_1 (by assumption)) (by decide)
   | exact retCN (code_2 (by assumption) (by rw [any_notI, Bool.not_eq_true'] at h2; exact h2)) (by decide)
   | exact retCN (code_3 (by assumption) (by assumption) (by assumption)) (by decide)
   | exact retCN (code_4 (by assumption) (by assumption) (by assumption) (by assumption)) (by decide)
   | exact retCN (code_5 (by assumption) (by assumption) (by assumption) (by assumption) (by assumption)) (by decide)
   | exact retCN (code_6 (by assumption) (by assumption) (by assumption) (by assumption) hes hj0 (by omega) (is6 hj0 (by omega) hkl (by omega) (by assumption) (by first | (left; omega) | (right; rw [padX_at (by omega)]; omega)))) (by decide)
   | exact retCN (code_7 (by assumption) (by assumption) (by assumption) (by assumption) hes (fun j g0 g1 => hup j g0 (by omega)) hj0 (by omega) (is7 hj0 (by omega) hkl (by omega) (by unfold flatB; rw [decide_eq_true_eq]; omega))) (by decide)
   | exact retCY (code_0 (by assumption) (by assumption) (by assumption) (by assumption) hes (fun j g0 g1 => hup j g0 (by omega)) (fun j g0 g1 => hup7 j g0 (by omega))) (List.take_of_length_le (by rw [hhm, hhl]; exact Nat.le_refl _))
 try simp only [HS] at h5
 refine W_skip (tN (sQ (sQ (rG ?_))))
 have hes := some_of (h := heiX im c) (by assumption)
 have hfit := (heiX_fit hes).1
 have hhl : ((heiX im c).getD []).length = c.ins.length := hfit.1.1
 have hhm : (((heiX im c).getD []).map T.int).length = c.ins.length := by rw [List.length_map]; exact hhl
 refine eK 2 Z (evE ?_)
 refine eZ Z (oN (tN (W_block ?_)))
 refine lK (α := Int) [5, 6, 7, 51, 52] [6, 46] (fun x => [(53, .t (.int x))]) (fun x => []) (fun x => 0 ≤ x ∧ x ≤ c.ins.length ∧ upTo (fun j => ¬ bad6 c ((heiX im c).getD []) j) x) (fun x => Int.toNat (c.ins.length - x)) 0 ?_ (fun k2 hx => ?_)
 ·exact ⟨by omega, by omega, fun j h0 h1 => by omega⟩
 obtain ⟨hj0, hj1, hup⟩ := hx
 refine nY Z (sQ (rG (eZ Z (oN (tN (sQ ?_))))))
 refine W_cond Z (fun h6 => ?_) (fun h6 => ?_)
 ·
  try simp only [HS] at h6
  refine W_skip (tN (sQ (W_block (sQ (rG ?_)))))
  have hkl : k2.toNat < ((heiX im c).getD []).length := by omega
  have hrx := rowX_lt c.rows k2
  refine eZ Z ?_
  first | refine WO_idxT tys rfl rfl (lt_of rfl) rfl rfl rfl rfl rfl rfl rfl (by omega) _ (getT _ _ (by omega) (by omega)) ?_ | refine WO_idxS tys rfl rfl (lt_of rfl) rfl rfl rfl rfl rfl rfl rfl rfl (by omega) (by omega) ?_
  first | (refine ev ?_; try refine WO_le (Le.freeze (u := 57) rfl) ?_) | refine WO_loadL tys rfl rfl (lt_of rfl) rfl rfl rfl rfl (getT _ _ (by omega) (by omega)) rfl ?_ | refine WO_loadL tys rfl rfl (lt_of rfl) rfl rfl rfl rfl (getT0 _ _ (by omega) (by omega)) rfl ?_
  refine nZ Z (WO_alloc tys Z Z (lt_of Z) Z Z Z (nZ Z (eZ Z (sT Z (nZ Z (oN (tN (sQ (kY [5,6,7,9,10,51,52,53,54,55,56,57] Z (rG (eK 3 Z (callB ?_))))))))))))
  refine ⟨_, rowOf_fun c.rows k2 (by omega), rfl, ?_⟩
  refine eZ Z (oN (tN (sQ (rG (eK 2 Z ?_)))))
  first | refine WO_idxT tys rfl rfl (lt_of rfl) rfl rfl rfl rfl rfl rfl rfl (by omega) _ (getT _ _ (by omega) (by omega)) ?_ | refine WO_idxS tys rfl rfl (lt_of rfl) rfl rfl rfl rfl rfl rfl rfl rfl (by omega) (by omega) ?_
  first | refine ev ?_ | refine WO_loadL tys rfl rfl (lt_of rfl) rfl rfl rfl rfl (getT _ _ (by omega) (by omega)) rfl ?_ | refine WO_loadL tys rfl rfl (lt_of rfl) rfl rfl rfl rfl (getT0 _ _ (by omega) (by omega)) rfl ?_
  refine kZ [5,6,7,9,10,11,51,52,53,54,55,56,57,58,59,60,61,62,63,64,65] Z (eK 2 Z ?_)
  refine WO_guard Z Z Z Z (lt_of Z) (fun h7 => ?_) (fun h7 => ?_)
  rotate_left
  ·
   try simp only [HS] at h7
   refine gM Z (gM Z (eK 2 Z (gM Z (gM Z (gM Z (kZ [5,6,7,9,10,11,51,52,53,54,55,56,57,58,59,60,61,62,63,64,65,66,67,68,69,70,71,72,73,74,75] Z (gM Z (gM Z (gM Z (gM Z (gM Z (gM Z (gM Z (gM Z (gM Z ?_)))))))))))))))
   refine kZ [5,6,7,9,10,11,51,52,53,54,55,56,57,58,59,60,61,62,63,64,65,66,67,68,69,70,71,72,73,74,75,76,77,78,79,80,81,82,83,84] Z (eZ Z (oN (tN (W_condF Z (W_skip (bN (tN (rG (evI ?_)))))))))
   refine eZ Z (oN ?_)
   refine lQ _ ?_ ?_
   ·try dsimp only
    first
    | exact ⟨by omega, by omega, upTo_next hup (not6 hj0 (by omega) hkl (.inl (by omega)))⟩
    | exact ⟨by omega, by omega, upTo_next hup (not6 hj0 (by omega) hkl (.inr (.inl (by assumption))))⟩
    | exact ⟨by omega, by omega, upTo_next hup (not6 hj0 (by omega) hkl (.inr (.inr ⟨by omega, by rw [padX_at (by omega)]; omega⟩)))⟩
   ·(show Int.toNat _ < Int.toNat _); omega
  try simp only [HS] at h7
  refine eZ Z (gY Z (eZ Z (gY Z (callB ?_))))
  refine ⟨_, mayRaise_fun _, rfl, ?_⟩
  refine eK 2 Z ?_
  refine WO_guard Z Z Z Z (lt_of Z) (fun h8 => ?_) (fun h8 => ?_)
  rotate_left
  ·
   try simp only [HS] at h8
   refine gM Z (gM Z (kZ [5,6,7,9,10,11,51,52,53,54,55,56,57,58,59,60,61,62,63,64,65,66,67,68,69,70,71,72,73,74,75] Z (gM Z (gM Z (gM Z (gM Z (gM Z (gM Z (gM Z (gM Z (gM Z (kZ [5,6,7,9,10,11,51,52,53,54,55,56,57,58,59,60,61,62,63,64,65,66,67,68,69,70,71,72,73,74,75,76,77,78,79,80,81,82,83,84] Z (eZ Z (oN (tN ?_)))))))))))))))
   refine W_condF Z (W_skip (bN (tN (rG (evI ?_)))))
   refine eZ Z (oN ?_)
   refine lQ _ ?_ ?_
   ·try dsimp only
    first
    | exact ⟨by omega, by omega, upTo_next hup (not6 hj0 (by omega) hkl (.inl (by omega)))⟩
    | exact ⟨by omega, by omega, upTo_next hup (not6 hj0 (by omega) hkl (.inr (.inl (by assumption))))⟩
    | exact ⟨by omega, by omega, upTo_next hup (not6 hj0 (by omega) hkl (.inr (.inr ⟨by omega, by rw [padX_at (by omega)]; omega⟩)))⟩
   ·(show Int.toNat _ < Int.toNat _); omega
  try simp only [HS] at h8
  refine eZ Z (gY Z (eZ Z (kZ [5,6,7,9,10,11,51,52,53,54,55,56,57,58,59,60,61,62,63,64,65,66,67,68,69,70,71,72,73,74] Z (gY Z (eZ Z ?_)))))
  refine WO_guard Z Z Z Z (lt_of Z) (fun h9 => ?_) (fun h9 => ?_)
  rotate_left
  ·
   try simp only [HS] at h9
   refine gM Z (gM Z (gM Z (gM Z (gM Z (gM Z (gM Z (gY Z (eZ Z (kZ [5,6,7,9,10,11,51,52,53,54,55,56,57,58,59,60,61,62,63,64,65,66,67,68,69,70,71,72,73,74,75,76,77,78,79,80,81,82,83,84] Z (eZ Z (oN (tN (W_condT Z (sQ (rG ?_)))))))))))))))
   refine eK 2 Z (oN (tN ?_))
   first | refine W_le (Le.nilOwn (u := 4) 1 rfl) ?_ | refine W_le (Le.gather (u := 4) (id := 46) rfl rfl (by rw [List.length_map]; exact Nat.le_refl _)) ?_
   refine rT (bR (tR (loopQ_r (bR (tR (eR ?_))))))
   ·first
    | exact retCN (code_1 (by assumption)) (by decide)
    | exact retCN (code_2 (by assumption) (by rw [any_notI, Bool.not_eq_true'] at h2; exact h2)) (by decide)
    | exact retCN (code_3 (by assumption) (by assumption) (by assumption)) (by decide)
    | exact retCN (code_4 (by assumption) (by assumption) (by assumption) (by assumption)) (by decide)
    | exact retCN (code_5 (by assumption) (by assumption) (by assumption) (by assumption) (by assumption)) (by decide)
    | exact retCN (code_6 (by assumption) (by assumption) (by assumption) (by assumption) hes hj0 (by omega) (is6 hj0 (by omega) hkl (by omega) (by assumption) (by first | (left; omega) | (right; rw [padX_at (by omega)]; omega)))) (by decide)
    | exact retCN (code_7 (by assumption) (by assumption) (by assumption) (by assumption) hes (fun j g0 g1 => hup j g0 (by omega)) hj0 (by omega) (is7 hj0 (by omega) hkl (by omega) (by unfold flatB; rw [decide_eq_true_eq]; omega))) (by decide)
    | exact retCY (code_0 (by assumption) (by assumption) (by assumption) (by assumption) hes (fun j g0 g1 => hup j g0 (by omega)) (fun j g0 g1 => hup7 j g0 (by omega))) (List.take_of_length_le (by rw [hhm, hhl]; exact Nat.le_refl _))
  try simp only [HS] at h9
  refine eZ Z (gY Z (eZ Z (gY Z (eZ Z (gY Z ?_)))))
  first | refine WO_idxT tys rfl rfl (lt_of rfl) rfl rfl rfl rfl rfl rfl rfl (by omega) _ (getT _ _ (by omega) (by omega)) ?_ | refine WO_idxS tys rfl rfl (lt_of rfl) rfl rfl rfl rfl rfl rfl rfl rfl (by omega) (by omega) ?_
  refine gY Z (eZ Z (gY Z ?_))
  first | refine ev ?_ | refine WO_loadL tys rfl rfl (lt_of rfl) rfl rfl rfl rfl (getT _ _ (by omega) (by omega)) rfl ?_ | refine WO_loadL tys rfl rfl (lt_of rfl) rfl rfl rfl rfl (getT0 _ _ (by omega) (by omega)) rfl ?_
  refine gY Z (eZ Z (gY Z (eZ Z (kZ [5,6,7,9,10,11,51,52,53,54,55,56,57,58,59,60,61,62,63,64,65,66,67,68,69,70,71,72,73,74,75,76,77,78,79,80,81,82,83] Z (gY Z (eK 2 Z (oN (tN ?_))))))))
  refine W_cond Z (fun h10 => ?_) (fun h10 => ?_)
  ·
   try simp only [HS] at h10
   refine sQ (rG (eK 2 Z (oN (tN ?_))))
   first | refine W_le (Le.nilOwn (u := 4) 1 rfl) ?_ | refine W_le (Le.gather (u := 4) (id := 46) rfl rfl (by rw [List.length_map]; exact Nat.le_refl _)) ?_
   refine rT (bR (tR (loopQ_r (bR (tR (eR ?_))))))
   ·first
    | exact retCN (code_1 (by assumption)) (by decide)
    | exact retCN (code_2 (by assumption) (by rw [any_notI, Bool.not_eq_true'] at h2; exact h2)) (by decide)
    | exact retCN (code_3 (by assumption) (by assumption) (by assumption)) (by decide)
    | exact retCN (code_4 (by assumption) (by assumption) (by assumption) (by assumption)) (by decide)
    | exact retCN (code_5 (by assumption) (by assumption) (by assumption) (by assumption) (by assumption)) (by decide)
    | exact retCN (code_6 (by assumption) (by assumption) (by assumption) (by assumption) hes hj0 (by omega) (is6 hj0 (by omega) hkl (by omega) (by assumption) (by first | (left; omega) | (right; rw [padX_at (by omega)]; omega)))) (by decide)
    | exact retCN (code_7 (by assumption) (by assumption) (by assumption) (by assumption) hes (fun j g0 g1 => hup j g0 (by omega)) hj0 (by omega) (is7 hj0 (by omega) hkl (by omega) (by unfold flatB; rw [decide_eq_true_eq]; omega))) (by decide)
    | exact retCY (code_0 (by assumption) (by assumption) (by assumption) (by assumption) hes (fun j g0 g1 => hup j g0 (by omega)) (fun j g0 g1 => hup7 j g0 (by omega))) (List.take_of_length_le (by rw [hhm, hhl]; exact Nat.le_refl _))
  try simp only [HS] at h10
  refine W_skip (bN (tN (rG (evI ?_))))
  refine eZ Z (oN ?_)
  refine lQ _ ?_ ?_
  ·try dsimp only
   first
   | exact ⟨by omega, by omega, upTo_next hup (not6 hj0 (by omega) hkl (.inl (by omega)))⟩
   | exact ⟨by omega, by omega, upTo_next hup (not6 hj0 (by omega) hkl (.inr (.inl (by assumption))))⟩
   | exact ⟨by omega, by omega, upTo_next hup (not6 hj0 (by omega) hkl (.inr (.inr ⟨by omega, by rw [padX_at (by omega)]; omega⟩)))⟩
  ·(show Int.toNat _ < Int.toNat _); omega
 try simp only [HS] at h6
 refine W_exit (tE (loopQ_e (inBlk_y (tN (sQ (sQ (rG (eK 2 Z (evE ?_)))))))))
 refine eZ Z (oN (tN (W_block ?_)))
 refine lK (α := Int) [5, 6, 7, 88, 89] [6, 46] (fun x => [(90, .t (.int x))]) (fun x => []) (fun x => 0 ≤ x ∧ x ≤ c.ins.length ∧ upTo (fun j => ¬ bad7 c ((heiX im c).getD []) j) x) (fun x => Int.toNat (c.ins.length - x)) 0 ?_ (fun k2 hx => ?_)
 ·exact ⟨by omega, by omega, fun j h0 h1 => by omega⟩
 obtain ⟨hj0, hj1, hup7⟩ := hx
 refine nY Z (sQ (rG (eZ Z (oN (tN (sQ ?_))))))
 refine W_cond Z (fun h7 => ?_) (fun h7 => ?_)
 ·
  try simp only [HS] at h7
  refine W_skip (tN (sQ (W_block (sQ (rG ?_)))))
  have hkl : k2.toNat < ((heiX im c).getD []).length := by omega
  refine eZ Z ?_
  first | refine WO_idxT tys rfl rfl (lt_of rfl) rfl rfl rfl rfl rfl rfl rfl (by omega) _ (getT _ _ (by omega) (by omega)) ?_ | refine WO_idxS tys rfl rfl (lt_of rfl) rfl rfl rfl rfl rfl rfl rfl rfl (by omega) (by omega) ?_
  first | (refine ev ?_; try refine WO_le (Le.freeze (u := 94) rfl) ?_) | refine WO_loadL tys rfl rfl (lt_of rfl) rfl rfl rfl rfl (getT _ _ (by omega) (by omega)) rfl ?_ | refine WO_loadL tys rfl rfl (lt_of rfl) rfl rfl rfl rfl (getT0 _ _ (by omega) (by omega)) rfl ?_
  refine nZ Z (WO_alloc tys Z Z (lt_of Z) Z Z Z (nZ Z (eZ Z (sT Z (nZ Z (oN (tN (sQ (kY [5,6,7,12,13,88,89,90,91,92,93,94] Z (rG (eK 2 Z ?_)))))))))))
  first | refine WO_idxT tys rfl rfl (lt_of rfl) rfl rfl rfl rfl rfl rfl rfl (by omega) _ (getT _ _ (by omega) (by omega)) ?_ | refine WO_idxS tys rfl rfl (lt_of rfl) rfl rfl rfl rfl rfl rfl rfl rfl (by omega) (by omega) ?_
  first | refine ev ?_ | refine WO_loadL tys rfl rfl (lt_of rfl) rfl rfl rfl rfl (getT _ _ (by omega) (by omega)) rfl ?_ | refine WO_loadL tys rfl rfl (lt_of rfl) rfl rfl rfl rfl (getT0 _ _ (by omega) (by omega)) rfl ?_
  refine eK 2 Z ?_
  refine WO_guard Z Z Z Z (lt_of Z) (fun h8 => ?_) (fun h8 => ?_)
  rotate_left
  ·
   try simp only [HS] at h8
   refine gM Z (gM Z (gM Z (kZ [5,6,7,12,13,88,89,90,91,92,93,94,95,96,97,98,99,100,101,102,103,104] Z (gM Z (gM Z (gM Z (gM Z (gM Z (gM Z (gM Z (gM Z (gM Z (kZ [5,6,7,12,13,88,89,90,91,92,93,94,95,96,97,98,99,100,101,102,103,104,105,106,107,108,109,110,111,112,113] Z (gM Z (gM Z ?_)))))))))))))))
   refine gM Z (gM Z (gM Z (eZ Z (oN (tN (W_condF Z (W_skip (bN (tN (rG (evI ?_)))))))))))
   refine eZ Z (oN ?_)
   refine lQ _ ?_ ?_
   ·try dsimp only
    first
    | exact ⟨by omega, by omega, upTo_next hup7 (not7 hj0 (by omega) hkl (.inl (by omega)))⟩
    | exact ⟨by omega, by omega, upTo_next hup7 (not7 hj0 (by omega) hkl (.inr (by unfold flatB; rw [decide_eq_false_iff_not]; omega)))⟩
   ·(show Int.toNat _ < Int.toNat _); omega
  try simp only [HS] at h8
  refine eZ Z (gY Z (eZ Z (gY Z (eZ Z (kZ [5,6,7,12,13,88,89,90,91,92,93,94,95,96,97,98,99,100,101,102,103] Z (gY Z (eZ Z ?_)))))))
  refine WO_guard Z Z Z Z (lt_of Z) (fun h9 => ?_) (fun h9 => ?_)
  rotate_left
  ·
   try simp only [HS] at h9
   refine gM Z (gM Z (gY Z (eZ Z (gY Z (eZ Z (gM Z (gM Z (gM Z (gY Z (eZ Z (kZ [5,6,7,12,13,88,89,90,91,92,93,94,95,96,97,98,99,100,101,102,103,104,105,106,107,108,109,110,111,112,113] Z (gY Z (eZ Z (gM Z (gM Z ?_)))))))))))))))
   refine gM Z (gY Z (eK 2 Z (oN (tN (W_condT Z (sQ (rG (eK 2 Z (oN (tN ?_))))))))))
   first | refine W_le (Le.nilOwn (u := 4) 1 rfl) ?_ | refine W_le (Le.gather (u := 4) (id := 46) rfl rfl (by rw [List.length_map]; exact Nat.le_refl _)) ?_
   refine rT (bR (tR (loopQ_r (bR (tR (eR ?_))))))
   ·first
    | exact retCN (code_1 (by assumption)) (by decide)
    | exact retCN (code_2 (by assumption) (by rw [any_notI, Bool.not_eq_true'] at h2; exact h2)) (by decide)
    | exact retCN (code_3 (by assumption) (by assumption) (by assumption)) (by decide)
    | exact retCN (code_4 (by assumption) (by assumption) (by assumption) (by assumption)) (by decide)
    | exact retCN (code_5 (by assumption) (by assumption) (by assumption) (by assumption) (by assumption)) (by decide)
    | exact retCN (code_6 (by assumption) (by assumption) (by assumption) (by assumption) hes hj0 (by omega) (is6 hj0 (by omega) hkl (by omega) (by assumption) (by first | (left; omega) | (right; rw [padX_at (by omega)]; omega)))) (by decide)
    | exact retCN (code_7 (by assumption) (by assumption) (by assumption) (by assumption) hes (fun j g0 g1 => hup j g0 (by omega)) hj0 (by omega) (is7 hj0 (by omega) hkl (by omega) (by unfold flatB; rw [decide_eq_true_eq]; omega))) (by decide)
    | exact retCY (code_0 (by assumption) (by assumption) (by assumption) (by assumption) hes (fun j g0 g1 => hup j g0 (by omega)) (fun j g0 g1 => hup7 j g0 (by omega))) (List.take_of_length_le (by rw [hhm, hhl]; exact Nat.le_refl _))
  try simp only [HS] at h9
  refine eZ Z (gY Z (eZ Z (gY Z (eZ Z (gY Z (eZ Z (gY Z (eZ Z ?_))))))))
  refine WO_guard Z Z Z Z (lt_of Z) (fun h10 => ?_) (fun h10 => ?_)
  rotate_left
  ·
   try simp only [HS] at h10
   refine gM Z (gM Z (gY Z (eZ Z (kZ [5,6,7,12,13,88,89,90,91,92,93,94,95,96,97,98,99,100,101,102,103,104,105,106,107,108,109,110,111,112,113] Z (gY Z (eZ Z (gM Z (gM Z (gM Z (gY Z (eK 2 Z (oN (tN (W_condT Z (sQ ?_)))))))))))))))
   refine rG (eK 2 Z (oN (tN ?_)))
   first | refine W_le (Le.nilOwn (u := 4) 1 rfl) ?_ | refine W_le (Le.gather (u := 4) (id := 46) rfl rfl (by rw [List.length_map]; exact Nat.le_refl _)) ?_
   refine rT (bR (tR (loopQ_r (bR (tR (eR ?_))))))
   ·first
    | exact retCN (code_1 (by assumption)) (by decide)
    | exact retCN (code_2 (by assumption) (by rw [any_notI, Bool.not_eq_true'] at h2; exact h2)) (by decide)
    | exact retCN (code_3 (by assumption) (by assumption) (by assumption)) (by decide)
    | exact retCN (code_4 (by assumption) (by assumption) (by assumption) (by assumption)) (by decide)
    | exact retCN (code_5 (by assumption) (by assumption) (by assumption) (by assumption) (by assumption)) (by decide)
    | exact retCN (code_6 (by assumption) (by assumption) (by assumption) (by assumption) hes hj0 (by omega) (is6 hj0 (by omega) hkl (by omega) (by assumption) (by first | (left; omega) | (right; rw [padX_at (by omega)]; omega)))) (by decide)
    | exact retCN (code_7 (by assumption) (by assumption) (by assumption) (by assumption) hes (fun j g0 g1 => hup j g0 (by omega)) hj0 (by omega) (is7 hj0 (by omega) hkl (by omega) (by unfold flatB; rw [decide_eq_true_eq]; omega))) (by decide)
    | exact retCY (code_0 (by assumption) (by assumption) (by assumption) (by assumption) hes (fun j g0 g1 => hup j g0 (by omega)) (fun j g0 g1 => hup7 j g0 (by omega))) (List.take_of_length_le (by rw [hhm, hhl]; exact Nat.le_refl _))
  try simp only [HS] at h10
  refine eZ Z (gY Z (eZ Z (gY Z (eZ Z (kZ [5,6,7,12,13,88,89,90,91,92,93,94,95,96,97,98,99,100,101,102,103,104,105,106,107,108,109,110,111,112] Z (gY Z (eZ Z (gY Z (eZ Z ?_)))))))))
  refine WO_guard Z Z Z Z (lt_of Z) (fun h11 => ?_) (fun h11 => ?_)
  rotate_left
  ·
   try simp only [HS] at h11
   refine gM Z (gM Z (gY Z (eK 2 Z (oN (tN (W_condT Z (sQ (rG (eK 2 Z (oN (tN ?_)))))))))))
   first | refine W_le (Le.nilOwn (u := 4) 1 rfl) ?_ | refine W_le (Le.gather (u := 4) (id := 46) rfl rfl (by rw [List.length_map]; exact Nat.le_refl _)) ?_
   refine rT (bR (tR (loopQ_r (bR (tR (eR ?_))))))
   ·first
    | exact retCN (code_1 (by assumption)) (by decide)
    | exact retCN (code_2 (by assumption) (by rw [any_notI, Bool.not_eq_true'] at h2; exact h2)) (by decide)
    | exact retCN (code_3 (by assumption) (by assumption) (by assumption)) (by decide)
    | exact retCN (code_4 (by assumption) (by assumption) (by assumption) (by assumption)) (by decide)
    | exact retCN (code_5 (by assumption) (by assumption) (by assumption) (by assumption) (by assumption)) (by decide)
    | exact retCN (code_6 (by assumption) (by assumption) (by assumption) (by assumption) hes hj0 (by omega) (is6 hj0 (by omega) hkl (by omega) (by assumption) (by first | (left; omega) | (right; rw [padX_at (by omega)]; omega)))) (by decide)
    | exact retCN (code_7 (by assumption) (by assumption) (by assumption) (by assumption) hes (fun j g0 g1 => hup j g0 (by omega)) hj0 (by omega) (is7 hj0 (by omega) hkl (by omega) (by unfold flatB; rw [decide_eq_true_eq]; omega))) (by decide)
    | exact retCY (code_0 (by assumption) (by assumption) (by assumption) (by assumption) hes (fun j g0 g1 => hup j g0 (by omega)) (fun j g0 g1 => hup7 j g0 (by omega))) (List.take_of_length_le (by rw [hhm, hhl]; exact Nat.le_refl _))
  try simp only [HS] at h11
  refine eZ Z (gY Z (eZ Z (gY Z (eZ Z (gY Z (eK 2 Z (oN (tN ?_))))))))
  refine W_cond Z (fun h12 => ?_) (fun h12 => ?_)
  ·
   try simp only [HS] at h12
   refine sQ (kY [5,6,7,12,13,88,89,90,91,92,93,94,95,96,97,98,99,100,101,102,103,104,105,106,107,108,109,110,111,112,113,114,115,116,117,118,119] Z (rG (eK 2 Z (oN (tN ?_)))))
   first | refine W_le (Le.nilOwn (u := 4) 1 rfl) ?_ | refine W_le (Le.gather (u := 4) (id := 46) rfl rfl (by rw [List.length_map]; exact Nat.le_refl _)) ?_
   refine rT (bR (tR (loopQ_r (bR (tR (eR ?_))))))
   ·first
    | exact retCN (code_1 (by assumption)) (by decide)
    | exact retCN (code_2 (by assumption) (by rw [any_notI, Bool.not_eq_true'] at h2; exact h2)) (by decide)
    | exact retCN (code_3 (by assumption) (by assumption) (by assumption)) (by decide)
    | exact retCN (code_4 (by assumption) (by assumption) (by assumption) (by assumption)) (by decide)
    | exact retCN (code_5 (by assumption) (by assumption) (by assumption) (by assumption) (by assumption)) (by decide)
    | exact retCN (code_6 (by assumption) (by assumption) (by assumption) (by assumption) hes hj0 (by omega) (is6 hj0 (by omega) hkl (by omega) (by assumption) (by first | (left; omega) | (right; rw [padX_at (by omega)]; omega)))) (by decide)
    | exact retCN (code_7 (by assumption) (by assumption) (by assumption) (by assumption) hes (fun j g0 g1 => hup j g0 (by omega)) hj0 (by omega) (is7 hj0 (by omega) hkl (by omega) (by unfold flatB; rw [decide_eq_true_eq]; omega))) (by decide)
    | exact retCY (code_0 (by assumption) (by assumption) (by assumption) (by assumption) hes (fun j g0 g1 => hup j g0 (by omega)) (fun j g0 g1 => hup7 j g0 (by omega))) (List.take_of_length_le (by rw [hhm, hhl]; exact Nat.le_refl _))
  try simp only [HS] at h12
  refine W_skip (bN (tN (kY [5,6,7,12,13,88,89,90,91,92,93,94,95,96,97,98,99,100,101,102,103,104,105,106,107,108,109,110,111,112,113,114,115,116,117,118,119] Z (rG (evI ?_)))))
  refine eZ Z (oN ?_)
  refine lQ _ ?_ ?_
  ·try dsimp only
   first
   | exact ⟨by omega, by omega, upTo_next hup7 (not7 hj0 (by omega) hkl (.inl (by omega)))⟩
   | exact ⟨by omega, by omega, upTo_next hup7 (not7 hj0 (by omega) hkl (.inr (by unfold flatB; rw [decide_eq_false_iff_not]; omega)))⟩
  ·(show Int.toNat _ < Int.toNat _); omega
 try simp only [HS] at h7
 refine W_exit (tE (loopQ_e (inBlk_y (tN (sQ (rG (eK 3 Z (oN (tN ?_)))))))))
 first | refine W_le (Le.nilOwn (u := 4) 1 rfl) ?_ | refine W_le (Le.gather (u := 4) (id := 46) rfl rfl (by rw [List.length_map]; exact Nat.le_refl _)) ?_
 refine rT (eR ?_)
 ·first
  | exact retCN (code_1 (by assumption)) (by decide)
  | exact retCN (code_2 (by assumption) (by rw [any_notI, Bool.not_eq_true'] at h2; exact h2)) (by decide)
  | exact retCN (code_3 (by assumption) (by assumption) (by assumption)) (by decide)
  | exact retCN (code_4 (by assumption) (by assumption) (by assumption) (by assumption)) (by decide)
  | exact retCN (code_5 (by assumption) (by assumption) (by assumption) (by assumption) (by assumption)) (by decide)
  | exact retCN (code_6 (by assumption) (by assumption) (by assumption) (by assumption) hes hj0 (by omega) (is6 hj0 (by omega) hkl (by omega) (by assumption) (by first | (left; omega) | (right; rw [padX_at (by omega)]; omega)))) (by decide)
  | exact retCN (code_7 (by assumption) (by assumption) (by assumption) (by assumption) hes (fun j g0 g1 => hup j g0 (by omega)) hj0 (by omega) (is7 hj0 (by omega) hkl (by omega) (by unfold flatB; rw [decide_eq_true_eq]; omega))) (by decide)
  | exact retCY (code_0 (by assumption) (by assumption) (by assumption) (by assumption) hes (fun j g0 g1 => hup j g0 (by omega)) (fun j g0 g1 => hup7 j g0 (by omega))) (List.take_of_length_le (by rw [hhm, hhl]; exact Nat.le_refl _))
open Go.Eng
theorem isImage_fun (im : Image) (hx : im.ok 1048576) : Fun Tryz.prog 81 [.t im.tt] (tupD [.t (.bool (imageB im))]) := by
 have hxl : im.codes.length ≤ 1048576 := hx.1.1
 refine Fun.begin tys Tryz.func81 Z Z (N := 32) [(0, .t im.tt)] Z Z (fun w0 G F0 => ?_)
 refine sQ (rG (WO_box Z Z (lt_of Z) Z Z (nZ Z (eZ Z (oN (tN (sQ (sQ (rG ?_)))))))))
 first | (refine ev ?_; try refine WO_le (Le.freeze (u := 6) rfl) ?_) | refine WO_loadMove tys rfl rfl (lt_of rfl) rfl rfl rfl rfl rfl rfl ?_
 refine nZ Z (callB ?_)
 refine ⟨_, isSized_fun im hx, rfl, ?_⟩
 refine eK 2 Z ?_
 refine WO_guard Z Z Z Z (lt_of Z) (fun h1 => ?_) (fun h1 => ?_)
 rotate_left
 ·
  try simp only [HS] at h1
  refine gM Z (gM Z (gM Z (kZ [1,2,9,13] Z (gM Z (gM Z (eZ Z (oN (tN (W_condT Z (sQ (rG (eZ Z (oN (tN (rT ?_)))))))))))))))
  refine tR (eR ?_)
  ·first
   | exact retB (image_1 (by assumption)).symm
   | exact retB (image_2 hx1.1 (by assumption)).symm
   | exact retB (image_3 hk0 (by omega) (by rw [← hct]; have := codeX_nn im (codeAt im k); omega)).symm
   | exact retB (image_0 (by assumption) hx1.1 (by assumption) (all_fl (by omega) hk2)).symm
 try simp only [HS] at h1
 have hx1 := (sizedX_of (by assumption)).1
 refine eZ Z (gY Z (eZ Z (gY Z ?_)))
 first | refine WO_idxT tys rfl rfl (lt_of rfl) rfl rfl rfl rfl rfl rfl rfl (by omega) _ (getT _ _ (by omega) (by omega)) ?_ | refine WO_idxS tys rfl rfl (lt_of rfl) rfl rfl rfl rfl rfl rfl rfl rfl (by omega) (by omega) ?_
 refine kZ [1,2,9,12] Z (gY Z (eZ Z (gY Z ?_)))
 first | refine ev ?_ | refine WO_loadL tys rfl rfl (lt_of rfl) rfl rfl rfl rfl (getT _ _ (by omega) (by omega)) rfl ?_ | refine WO_loadL tys rfl rfl (lt_of rfl) rfl rfl rfl rfl (getT0 _ _ (by omega) (by omega)) rfl ?_
 refine gY Z (eK 2 Z (oN (tN ?_)))
 refine W_cond Z (fun h2 => ?_) (fun h2 => ?_)
 ·
  try simp only [HS] at h2
  refine sQ (rG (eZ Z (oN (tN (rT (tR (eR ?_)))))))
  ·first
   | exact retB (image_1 (by assumption)).symm
   | exact retB (image_2 hx1.1 (by assumption)).symm
   | exact retB (image_3 hk0 (by omega) (by rw [← hct]; have := codeX_nn im (codeAt im k); omega)).symm
   | exact retB (image_0 (by assumption) hx1.1 (by assumption) (all_fl (by omega) hk2)).symm
 try simp only [HS] at h2
 refine W_skip (tN (sQ (sQ (rG ?_))))
 have hsz : sizedX im = true := by assumption
 refine eK 2 Z (evE ?_)
 refine eZ Z (oN (tN (W_block ?_)))
 refine lK (α := Int) [1, 18, 19] [1] (fun x => [(20, .t (.int x))]) (fun x => []) (fun x => 0 ≤ x ∧ x ≤ im.codes.length ∧ (im.codes.take x.toNat).all (fun c => decide (codeX im c = 0)) = true) (fun x => Int.toNat (im.codes.length - x)) 0 ?_ (fun k hx => ?_)
 ·exact ⟨by omega, by omega, by simp⟩
 obtain ⟨hk0, hk1, hk2⟩ := hx
 refine nY Z (sQ (rG (eZ Z (oN (tN (sQ ?_))))))
 refine W_cond Z (fun h3 => ?_) (fun h3 => ?_)
 ·
  try simp only [HS] at h3
  refine W_skip (tN (sQ (W_block (sQ (rG (eK 2 Z (oN (tN (sQ (rG ?_))))))))))
  first | (refine ev ?_; try refine WO_le (Le.freeze (u := 24) rfl) ?_) | refine WO_loadMove tys rfl rfl (lt_of rfl) rfl rfl rfl rfl rfl rfl ?_
  refine nZ Z (eZ Z (callB ?_))
  refine ⟨_, checkCode_fun im k hsz hk0 (by omega), rfl, ?_⟩
  refine WO_moveAll Z Z (lt_of Z) (.inr Z) Z Z ?_
  first | refine WO_evF tys rfl rfl (lt_of rfl) (d := .t _) rfl ?_ | (refine WO_extract rfl rfl (lt_of rfl) rfl rfl rfl rfl ?_; first | refine WO_le (Le.adoptE (u := 27) 27 rfl (by first | exact lenN | exact rfl)) ?_ | skip)
  refine nZ Z ?_
  first | refine WO_evF tys rfl rfl (lt_of rfl) (d := .t _) rfl ?_ | (refine WO_extract rfl rfl (lt_of rfl) rfl rfl rfl rfl ?_; first | refine WO_le (Le.adoptE (u := 28) 28 rfl (by first | exact lenN | exact rfl)) ?_ | skip)
  refine nZ Z (kZ [1,3,18,19,20,21,22,23,24,25,26,27,28] Z (eK 2 Z (oN (tN (sQ (rG (eZ Z ?_)))))))
  have hct : codeAt im k = im.codes[k.toNat]'(by omega) := codeAt_at hk0 (by omega)
  refine eZ Z (oN (tN ?_))
  refine W_cond Z (fun h4 => ?_) (fun h4 => ?_)
  ·
   try simp only [HS] at h4
   refine sQ (rG (eZ Z (oN (tN (rT (bR (tR (loopQ_r (bR (tR (eR ?_)))))))))))
   ·first
    | exact retB (image_1 (by assumption)).symm
    | exact retB (image_2 hx1.1 (by assumption)).symm
    | exact retB (image_3 hk0 (by omega) (by rw [← hct]; have := codeX_nn im (codeAt im k); omega)).symm
    | exact retB (image_0 (by assumption) hx1.1 (by assumption) (all_fl (by omega) hk2)).symm
  try simp only [HS] at h4
  refine W_skip (bN (tN (rG (evI ?_))))
  refine eZ Z (oN ?_)
  refine lQ _ ?_ ?_
  ·try dsimp only
   first
   | exact ⟨by omega, by omega, all_tk hk0 (by omega) hk2 (by rw [decide_eq_true_eq, ← hct]; omega)⟩
  ·(show Int.toNat _ < Int.toNat _); omega
 try simp only [HS] at h3
 refine W_exit (tE (loopQ_e (inBlk_y (tN (sQ (rG (eZ Z (oN (tN (rT (eR ?_)))))))))))
 ·first
  | exact retB (image_1 (by assumption)).symm
  | exact retB (image_2 hx1.1 (by assumption)).symm
  | exact retB (image_3 hk0 (by omega) (by rw [← hct]; have := codeX_nn im (codeAt im k); omega)).symm
  | exact retB (image_0 (by assumption) hx1.1 (by assumption) (all_fl (by omega) hk2)).symm
noncomputable def askB (x : Image) (n : Int) : Bool := imageB x && decide (0 ≤ n ∧ n < x.codes.length)
noncomputable def liveX (x : Image) (n : Int) : List Int := (heiX x (codeAt x n)).getD []
theorem askB_of {x : Image} {n : Int} (h : askB x n = true) : imageB x = true ∧ 0 ≤ n ∧ n < x.codes.length := by
 unfold askB at h
 rw [Bool.and_eq_true, decide_eq_true_eq] at h
 exact h
theorem imageB_of {x : Image} (h : imageB x = true) : sizedX x = true ∧ ∀ c, c ∈ x.codes → codeX x c = 0 := by
 unfold imageB at h
 simp only [Bool.and_eq_true, List.all_eq_true, decide_eq_true_eq] at h
 exact ⟨h.1, h.2.2⟩
theorem code_ready {x : Image} {c : Code} (h : imageB x = true) (hc : c ∈ x.codes) : RdyX x c ∧ ∃ l, heiX x c = some l ∧ l.length = c.ins.length := by
 obtain ⟨a, b⟩ := imageB_of h
 have g := b c hc
 have h1 : namedB x c = true := by rw [← Bool.not_eq_false]; intro e; rw [code_1 e] at g; cases g
 have h2 : sitesB x c = true := by rw [← Bool.not_eq_false]; intro e; rw [code_2 h1 e] at g; cases g
 have h3 : goesB c = true := by rw [← Bool.not_eq_false]; intro e; rw [code_3 h1 h2 e] at g; cases g
 have h4 : rowsB c.rows c.ins.length = true := by rw [← Bool.not_eq_false]; intro e; rw [code_4 h1 h2 h3 e] at g; cases g
 refine ⟨ready a hc h1 h3 h4, ?_⟩
 cases e : heiX x c with
 | none => rw [code_5 h1 h2 h3 h4 (by rw [e]; rfl)] at g; cases g
 | some l => exact ⟨l, rfl, (heiX_fit e).1.1.1⟩
theorem live_len {x : Image} {n : Int} (h : askB x n = true) : (liveX x n).length = (codeAt x n).ins.length ∧ (codeAt x n).ins.length ≤ 300 ∧ heiR x (codeAt x n) = liveX x n ∧ heiX x (codeAt x n) = some (liveX x n) := by
 obtain ⟨a, b, d⟩ := askB_of h
 have hc : codeAt x n ∈ x.codes := by rw [codeAt_at b d]; exact List.getElem_mem _
 obtain ⟨hr, l, e, hl⟩ := code_ready a hc
 refine ⟨by rw [liveX, e]; exact hl, hr.n2, heiR_yes ((imageB_of a).2 _ hc), by rw [liveX, e]; rfl⟩
theorem ask_no {x : Image} {n : Int} (h : imageB x = false ∨ ¬ (0 ≤ n ∧ n ≤ (x.codes.length : Int) - 1)) : askB x n = false := by
 rw [← Bool.not_eq_true]
 intro e
 obtain ⟨a, b⟩ := askB_of e
 rcases h with h | h
 ·rw [a] at h; cases h
 ·omega
theorem retLN {x : Image} {n : Int} {l : List T} (h : askB x n = false) (hl : l = []) : [D.own (T.list 1 []), D.t (T.v (Value.bool false))] = [D.own (T.list 1 ((if askB x n = true then (liveX x n).map (fun v => decide (0 ≤ v)) else []).map T.bool)), D.t (T.bool (askB x n))] := by
 rw [h]; rfl
theorem retLY {x : Image} {n : Int} {l : List Int} {xs : List T} (h : askB x n = true) (hl : xs = l.map fun v => T.bool (decide (0 ≤ v))) : [D.own (T.list 1 xs), D.t (T.v (Value.bool true))] = [D.own (T.list 1 ((l.map fun v => decide (0 ≤ v)).map T.bool)), D.t (T.bool (askB x n))] := by
 rw [h, hl, List.map_map]; rfl
theorem liveIn_fun (im : Image) (n : Int) (hx : im.ok 1048576) : Fun Tryz.prog 47 [.t im.tt, .t (.int n)] (tupD [.own (.list 1 ((if askB im n then (liveX im n).map fun v => decide (0 ≤ v) else []).map T.bool)), .t (.bool (askB im n))]) := by
 have hxl : im.codes.length ≤ 1048576 := hx.1.1
 refine Fun.begin tys Tryz.func47 Z Z (N := 46) [(0, .t im.tt), (1, .t (.int n))] Z Z (fun w0 G F0 => ?_)
 refine sQ (rG (WO_box Z Z (lt_of Z) Z Z (nZ Z (eK 2 Z (oN (tN (sQ (sQ (rG ?_)))))))))
 first | (refine ev ?_; try refine WO_le (Le.freeze (u := 11) rfl) ?_) | refine WO_loadMove tys rfl rfl (lt_of rfl) rfl rfl rfl rfl rfl rfl ?_
 refine nZ Z (callB ?_)
 refine ⟨_, isImage_fun im hx, rfl, ?_⟩
 refine eK 2 Z ?_
 refine WO_guard Z Z Z Z (lt_of Z) (fun h1 => ?_) (fun h1 => ?_)
 rotate_left
 ·
  try simp only [HS] at h1
  refine gM Z (gM Z (kZ [1,2,4,5,14,15,17] Z (gM Z (gM Z (gM Z (gM Z (eZ Z (oN (tN (W_condT Z (sQ (rG (eK 2 Z (oN (tN ?_)))))))))))))))
  first | refine W_le (Le.nilOwn (u := 4) 1 rfl) ?_ | refine W_le (Le.gather (u := 4) (id := 31) rfl rfl (by omega)) ?_
  refine rT (tR (eR ?_))
  ·first
   | exact retLN (l := []) (ask_no (.inl (by assumption))) rfl
   | exact retLN (l := []) (ask_no (.inr (by assumption))) rfl
   | exact retLY hask (by rw [List.take_of_length_le (by omega)]; exact fill_end (by omega) hbl hbt)
 try simp only [HS] at h1
 refine eZ Z (gY Z (eZ Z (kZ [1,2,4,5,14,15,16] Z (gY Z (eZ Z (gY Z (evE ?_)))))))
 refine gY Z (evI ?_)
 refine gY Z (callB ?_)
 refine ⟨_, within_fun _ _ _, rfl, ?_⟩
 refine gY Z (eK 2 Z (oN (tN ?_)))
 refine W_cond Z (fun h2 => ?_) (fun h2 => ?_)
 ·
  try simp only [HS] at h2
  refine sQ (rG (eK 2 Z (oN (tN ?_))))
  first | refine W_le (Le.nilOwn (u := 4) 1 rfl) ?_ | refine W_le (Le.gather (u := 4) (id := 31) rfl rfl (by omega)) ?_
  refine rT (tR (eR ?_))
  ·first
   | exact retLN (l := []) (ask_no (.inl (by assumption))) rfl
   | exact retLN (l := []) (ask_no (.inr (by assumption))) rfl
   | exact retLY hask (by rw [List.take_of_length_le (by omega)]; exact fill_end (by omega) hbl hbt)
 try simp only [HS] at h2
 refine W_skip (tN (sQ (rG ?_)))
 have hai : imageB im = true := by assumption
 have hn : 0 ≤ n ∧ n < im.codes.length := by omega
 have hask : askB im n = true := by rw [askB, hai, decide_eq_true hn]; rfl
 obtain ⟨hl1, hl2, hl3, hl4⟩ := live_len hask
 rw [if_pos hask]
 first | (refine ev ?_; try refine WO_le (Le.freeze (u := 24) rfl) ?_) | refine WO_loadMove tys rfl rfl (lt_of rfl) rfl rfl rfl rfl rfl rfl ?_
 refine nZ Z (eZ Z (callB ?_))
 refine ⟨_, checkCode_fun im n (imageB_of hai).1 hn.1 (by omega), rfl, ?_⟩
 refine kZ [4,5,26] Z (WO_moveAll Z Z (lt_of Z) (.inr Z) Z Z (nZ Z (WO_extract Z Z (lt_of Z) Z Z Z Z (WO_le (Le.freeze (u := 27) Z) (nZ Z ?_)))))
 first | refine WO_evF tys rfl rfl (lt_of rfl) (d := .t _) rfl ?_ | (refine WO_extract rfl rfl (lt_of rfl) rfl rfl rfl rfl ?_; first | refine WO_le (Le.adoptE (u := 28) 28 rfl (by first | exact lenN | exact rfl)) ?_ | skip)
 refine nZ Z (eK 2 Z (oN (tN (sQ ?_))))
 rw [hl3]
 generalize liveX im n = L at *
 refine rG (eZ Z (evE ?_))
 refine WO_make tys (.v (.bool false)) _ Z Z (lt_of Z) Z Z Z Z Z (by repeat (first | exact AbsL.nil' | refine AbsL.v' ?_ | refine AbsL.none' ?_)) Z (by omega) (by decide) ?_
 refine nZ Z (eZ Z (kZ [4,5,6,8] Z (oN (tN (sQ (sQ (rG (eZ Z (evE ?_)))))))))
 refine eZ Z (oN (tN (W_block ?_)))
 refine lK (α := Int × List T) [5, 6, 8, 32, 33] [] (fun x => [(34, .t (.int (x.1)))]) (fun x => [(31, .L 1 (x.2))]) (fun x => 0 ≤ (x.1) ∧ (x.1) ≤ L.length ∧ (x.2).length = L.length ∧ (x.2).take (x.1).toNat = (L.take (x.1).toNat).map fun v => T.bool (decide (0 ≤ v))) (fun x => Int.toNat (L.length - (x.1))) (0, List.replicate L.length (T.bool false)) ?_ (fun x hx => ?_)
 ·exact ⟨by omega, by omega, by simp, by simp⟩
 obtain ⟨k, bs⟩ := x
 obtain ⟨hk0, hk1, hbl, hbt⟩ := hx
 try dsimp only at hk0 hk1 hbl hbt ⊢
 refine nY Z (sQ (rG (eZ Z (oN (tN (sQ ?_))))))
 refine W_cond Z (fun h3 => ?_) (fun h3 => ?_)
 ·
  try simp only [HS] at h3
  refine W_skip (tN (sQ (W_block (sQ (rG (eZ Z ?_))))))
  first | refine WO_idxT tys rfl rfl (lt_of rfl) rfl rfl rfl rfl rfl rfl rfl (by omega) _ (getT _ _ (by omega) (by omega)) ?_ | refine WO_idxS tys rfl rfl (lt_of rfl) rfl rfl rfl rfl rfl rfl rfl rfl (by omega) (by omega) ?_
  first | refine ev ?_ | refine WO_loadL tys rfl rfl (lt_of rfl) rfl rfl rfl rfl (getT _ _ (by omega) (by omega)) rfl ?_ | refine WO_loadL tys rfl rfl (lt_of rfl) rfl rfl rfl rfl (getT0 _ _ (by omega) (by omega)) rfl ?_
  refine eK 2 Z (oN (tN (rG (eK 3 Z (kZ [5,6,8,9,10,32,33,34,35,36,37,38,39,40,41] Z (eZ Z ?_))))))
  first | refine WO_idxT tys rfl rfl (lt_of rfl) rfl rfl rfl rfl rfl rfl rfl (by omega) _ (getT _ _ (by omega) (by omega)) ?_ | refine WO_idxS tys rfl rfl (lt_of rfl) rfl rfl rfl rfl rfl rfl rfl rfl (by omega) (by omega) ?_
  refine WO_storeE tys (T.bool (decide (0 ≤ L[k.toNat]'(by omega)))) Z Z Z Z Z Z (Nat.zero_add _) (by omega) Z (by repeat (first | exact AbsL.nil' | refine AbsL.v' ?_ | refine AbsL.own' ?_)) Z Z Z ?_
  refine nZ Z (nZ Z (oN (bN (tN (rG (evI ?_))))))
  refine eZ Z (oN ?_)
  refine lQ (_, _) ?_ ?_
  ·try dsimp only
   exact ⟨by omega, by omega, by rw [List.length_set]; exact hbl, fill_step hk0 (by omega) hbl hbt⟩
  ·(show Int.toNat _ < Int.toNat _); omega
 try simp only [HS] at h3
 refine W_exit (tE (loopQ_e (inBlk_y (tN (sQ (rG (eK 3 Z (oN (tN ?_)))))))))
 first | refine W_le (Le.nilOwn (u := 4) 1 rfl) ?_ | refine W_le (Le.gather (u := 4) (id := 31) rfl rfl (by omega)) ?_
 refine rT (eR ?_)
 ·first
  | exact retLN (l := []) (ask_no (.inl (by assumption))) rfl
  | exact retLN (l := []) (ask_no (.inr (by assumption))) rfl
  | exact retLY hask (by rw [List.take_of_length_le (by omega)]; exact fill_end (by omega) hbl hbt)
open Go.Eng
noncomputable def fitC (im : Image) (cc : List (List Int)) : Bool := imageB im && (cnt cc && decide (cc.map (·.length) = im.codes.map (·.ins.length)))
noncomputable def missB (im : Image) (cc : List (List Int)) (n : Int) : Bool := fitC im cc && decide (0 ≤ n ∧ n < cc.length)
def missT (h ct : List Int) : Nat → List Int
 | 0 => []
 | k + 1 => missT h ct k ++ if atI ct k = 0 ∧ 0 ≤ atI h k then [(k : Int)] else []
theorem missT_len (h ct : List Int) : ∀ k, (missT h ct k).length ≤ k
 | 0 => Nat.le_refl _
 | k + 1 => by
  have := missT_len h ct k
  rw [missT, List.length_append]
  split <;> simp <;> omega
noncomputable def missX (im : Image) (cc : List (List Int)) (n : Int) : List Int := if missB im cc n then missT (liveX im n) ((cc[n.toNat]?).getD []) ((cc[n.toNat]?).getD []).length else []
section
variable {im : Image} {cc : List (List Int)} {n k : Int}
theorem lens_no (h0 : 0 ≤ k) (h1 : k < cc.length) (h2 : k < im.codes.length) (h : ¬ (cc[k.toNat]'(by omega)).length = (im.codes[k.toNat]'(by omega)).ins.length) : cc.map (·.length) ≠ im.codes.map (·.ins.length) := fun e => by
 have := congrArg (fun l => l[k.toNat]?) e
 simp only [List.getElem?_map, List.getElem?_eq_getElem (show k.toNat < cc.length by omega), List.getElem?_eq_getElem (show k.toNat < im.codes.length by omega), Option.map_some, Option.some.injEq] at this
 exact h this
theorem lens_len (h : ¬ (cc.length : Int) = im.codes.length) : cc.map (·.length) ≠ im.codes.map (·.ins.length) := fun e => by
 have := congrArg List.length e
 simp only [List.length_map] at this
 omega
def lensTo (im : Image) (cc : List (List Int)) (k : Int) : Prop := cc.length = im.codes.length ∧ ∀ j (h0 : j < cc.length) (h1 : j < im.codes.length), j < k → (cc[j]).length = (im.codes[j]).ins.length
theorem lens_next (h0 : 0 ≤ k) (h1 : k < cc.length) (h2 : k < im.codes.length) (h : (cc[k.toNat]'(by omega)).length = (im.codes[k.toNat]'(by omega)).ins.length) (a : lensTo im cc k) : lensTo im cc (k + 1) := by
 refine ⟨a.1, fun j g0 g1 g2 => ?_⟩
 by_cases e : j = k.toNat
 ·subst e; exact h
 ·exact a.2 j g0 g1 (by omega)
theorem lens_end (h : (cc.length : Int) ≤ k) (a : lensTo im cc k) : cc.map (·.length) = im.codes.map (·.ins.length) := by
 refine List.ext_getElem (by rw [List.length_map, List.length_map]; exact a.1) fun j h0 h1 => ?_
 rw [List.length_map] at h0 h1
 rw [List.getElem_map, List.getElem_map]
 exact a.2 j h0 h1 (by omega)
theorem fit_1 (h : imageB im = false) : fitC im cc = false := by rw [fitC, h]; rfl
theorem fit_2 (h : cnt cc = false) : fitC im cc = false := by rw [fitC, h]; simp
theorem fit_3 (h : cc.map (·.length) ≠ im.codes.map (·.ins.length)) : fitC im cc = false := by rw [fitC, decide_eq_false h]; simp
theorem fit_0 (h1 : imageB im = true) (h2 : cnt cc = true) (h3 : cc.map (·.length) = im.codes.map (·.ins.length)) : fitC im cc = true := by rw [fitC, h1, h2, decide_eq_true h3]; rfl
theorem fit_of (h : fitC im cc = true) : imageB im = true ∧ cnt cc = true ∧ cc.map (·.length) = im.codes.map (·.ins.length) := by
 unfold fitC at h
 rw [Bool.and_eq_true, Bool.and_eq_true, decide_eq_true_eq] at h
 exact h
end
theorem l20Fit_fun (im : Image) (cc : List (List Int)) (hx : im.ok 1048576) (hl : cc.length ≤ 1048576) (hll : ∀ x, x ∈ cc → x.length ≤ 1048576) : Fun Tryz.prog 43 [.t im.tt, .t (intss cc)] (tupD [.t (.bool (fitC im cc))]) := by
 have hxl : im.codes.length ≤ 1048576 := hx.1.1
 refine Fun.begin tys Tryz.func43 Z Z (N := 41) [(0, .t im.tt), (1, .t (intss cc))] Z Z (fun w0 G F0 => ?_)
 refine sQ (rG (WO_box Z Z (lt_of Z) Z Z (nZ Z (eZ Z (oN (tN (sQ (sQ (rG ?_)))))))))
 first | (refine ev ?_; try refine WO_le (Le.freeze (u := 7) rfl) ?_) | refine WO_loadMove tys rfl rfl (lt_of rfl) rfl rfl rfl rfl rfl rfl ?_
 refine nZ Z (callB ?_)
 refine ⟨_, goodImage_fun im hx, rfl, ?_⟩
 refine eK 2 Z ?_
 refine WO_guard Z Z Z Z (lt_of Z) (fun h1 => ?_) (fun h1 => ?_)
 rotate_left
 ·
  try simp only [HS] at h1
  refine gM Z (gM Z (eZ Z (kZ [1,2,4,14] Z (eZ Z (gM Z (gM Z (gM Z (gM Z (gM Z (gM Z (eZ Z (oN (tN (W_condT Z (sQ ?_)))))))))))))))
  refine kY [1,2,4] Z (rG (eZ Z (oN (tN (rT (tR (eR ?_)))))))
  ·first
   | exact retB (fit_1 (by assumption)).symm
   | exact retB (fit_2 (by assumption)).symm
   | exact retB (fit_3 (lens_len (by assumption))).symm
   | exact retB (fit_3 (lens_no hk0 (by omega) (by omega) (by omega))).symm
   | exact retB (fit_0 (by assumption) (by assumption) (lens_end (by omega) hk2)).symm
 try simp only [HS] at h1
 refine eZ Z (gY Z (callB ?_))
 refine ⟨_, l20Counts_fun cc hl hll, rfl, ?_⟩
 refine gY Z (eZ Z (kZ [1,2,4,10,13] Z (eK 2 Z ?_)))
 refine WO_guard Z Z Z Z (lt_of Z) (fun h2 => ?_) (fun h2 => ?_)
 rotate_left
 ·
  try simp only [HS] at h2
  refine gM Z (gM Z (gM Z (gM Z (gM Z (eZ Z (oN (tN (W_condT Z (sQ (kY [1,2,4] Z (rG (eZ Z (oN (tN (rT ?_)))))))))))))))
  refine tR (eR ?_)
  ·first
   | exact retB (fit_1 (by assumption)).symm
   | exact retB (fit_2 (by assumption)).symm
   | exact retB (fit_3 (lens_len (by assumption))).symm
   | exact retB (fit_3 (lens_no hk0 (by omega) (by omega) (by omega))).symm
   | exact retB (fit_0 (by assumption) (by assumption) (lens_end (by omega) hk2)).symm
 try simp only [HS] at h2
 refine eZ Z (gY Z (evE ?_))
 refine gY Z (eZ Z (gY Z (eZ Z (gY Z (evE ?_)))))
 refine gY Z (eK 2 Z (kZ [1,2,4,22] Z (oN (tN ?_))))
 refine W_cond Z (fun h3 => ?_) (fun h3 => ?_)
 ·
  try simp only [HS] at h3
  refine sQ (rG (eZ Z (oN (tN (rT (tR (eR ?_)))))))
  ·first
   | exact retB (fit_1 (by assumption)).symm
   | exact retB (fit_2 (by assumption)).symm
   | exact retB (fit_3 (lens_len (by assumption))).symm
   | exact retB (fit_3 (lens_no hk0 (by omega) (by omega) (by omega))).symm
   | exact retB (fit_0 (by assumption) (by assumption) (lens_end (by omega) hk2)).symm
 try simp only [HS] at h3
 refine W_skip (tN (sQ (sQ (rG (eK 2 Z (evE ?_))))))
 refine eZ Z (oN (tN (W_block ?_)))
 refine lK (α := Int) [1, 24, 25] [] (fun x => [(26, .t (.int x))]) (fun x => []) (fun x => 0 ≤ x ∧ x ≤ im.codes.length ∧ lensTo im cc x) (fun x => Int.toNat (im.codes.length - x)) 0 ?_ (fun k hx => ?_)
 ·exact ⟨by omega, by omega, by omega, fun j _ _ h => by omega⟩
 obtain ⟨hk0, hk1, hk2⟩ := hx
 refine nY Z (sQ (rG (eZ Z (oN (tN (sQ ?_))))))
 refine W_cond Z (fun h4 => ?_) (fun h4 => ?_)
 ·
  try simp only [HS] at h4
  refine W_skip (tN (sQ (W_block (sQ (rG (eZ Z ?_))))))
  first | refine WO_idxT tys rfl rfl (lt_of rfl) rfl rfl rfl rfl rfl rfl rfl (by omega) _ (getT _ _ (by omega) (by omega)) ?_ | refine WO_idxS tys rfl rfl (lt_of rfl) rfl rfl rfl rfl rfl rfl rfl rfl (by omega) (by omega) ?_
  first | (refine ev ?_; try refine WO_le (Le.freeze (u := 30) rfl) ?_) | refine WO_loadL tys rfl rfl (lt_of rfl) rfl rfl rfl rfl (getT _ _ (by omega) (by omega)) rfl ?_ | refine WO_loadL tys rfl rfl (lt_of rfl) rfl rfl rfl rfl (getT0 _ _ (by omega) (by omega)) rfl ?_
  refine nZ Z (WO_alloc tys Z Z (lt_of Z) Z Z Z (nZ Z (eZ Z (sT Z (nZ Z (oN (tN (sQ ?_))))))))
  have hkc : k.toNat < cc.length := by omega
  have hkx : k.toNat < im.codes.length := by omega
  have hl1 := hll _ (List.getElem_mem hkc)
  have hl2 := (hx.1.2 _ (List.getElem_mem hkx)).2.1
  refine kY [1,5,6,24,25,26,27,28,29,30] Z (W_regionD mixed (by kernel_rfl) (evQ ?_))
  refine evQ ?_
  first | refine QL_idxT tys rfl rfl (lt_of rfl) rfl rfl rfl rfl rfl rfl rfl (by omega) _ (getT _ _ (by omega) (by omega)) ?_ | refine QL_idxS tys rfl rfl (lt_of rfl) rfl rfl rfl rfl rfl rfl rfl rfl (by omega) (by omega) ?_
  first | refine evQ ?_ | refine QL_loadL tys rfl rfl (lt_of rfl) rfl rfl rfl rfl (getT _ _ (by omega) (by omega)) rfl ?_ | refine QL_loadL tys rfl rfl (lt_of rfl) rfl rfl rfl rfl (getT0 _ _ (by omega) (by omega)) rfl ?_
  refine evEQ ?_
  refine evQ ?_
  refine QL_norm Z (evQ ?_)
  refine evEQ ?_
  refine evQ ?_
  refine QL_nil (tN ?_)
  refine W_cond Z (fun h5 => ?_) (fun h5 => ?_)
  ·
   try simp only [HS] at h5
   refine sQ (rG (eZ Z (oN (tN (rT (bR (tR (loopQ_r (bR (tR (eR ?_)))))))))))
   ·first
    | exact retB (fit_1 (by assumption)).symm
    | exact retB (fit_2 (by assumption)).symm
    | exact retB (fit_3 (lens_len (by assumption))).symm
    | exact retB (fit_3 (lens_no hk0 (by omega) (by omega) (by omega))).symm
    | exact retB (fit_0 (by assumption) (by assumption) (lens_end (by omega) hk2)).symm
  try simp only [HS] at h5
  refine W_skip (bN (tN (rG (evI ?_))))
  refine eZ Z (oN ?_)
  refine lQ _ ?_ ?_
  ·try dsimp only
   first
   | exact ⟨by omega, by omega, lens_next hk0 (by omega) (by omega) (by omega) hk2⟩
  ·(show Int.toNat _ < Int.toNat _); omega
 try simp only [HS] at h4
 refine W_exit (tE (loopQ_e (inBlk_y (tN (sQ (rG (eZ Z (oN (tN (rT (eR ?_)))))))))))
 ·first
  | exact retB (fit_1 (by assumption)).symm
  | exact retB (fit_2 (by assumption)).symm
  | exact retB (fit_3 (lens_len (by assumption))).symm
  | exact retB (fit_3 (lens_no hk0 (by omega) (by omega) (by omega))).symm
  | exact retB (fit_0 (by assumption) (by assumption) (lens_end (by omega) hk2)).symm
section
variable {im : Image} {cc : List (List Int)} {n k : Int}
theorem miss_no (h : fitC im cc = false ∨ ¬ (0 ≤ n ∧ n ≤ (cc.length : Int) - 1)) : missB im cc n = false := by
 unfold missB
 rcases h with h | h
 ·rw [h]; rfl
 ·rw [decide_eq_false (by omega)]; simp
theorem miss_yes (h : fitC im cc = true) (h0 : 0 ≤ n) (h1 : n < cc.length) : missB im cc n = true ∧ n < im.codes.length ∧ ∃ hc : n.toNat < cc.length, (liveX im n).length = (cc[n.toNat]'hc).length ∧ (cc[n.toNat]'hc).length ≤ 300 ∧ heiX im (codeAt im n) = some (liveX im n) ∧ missX im cc n = missT (liveX im n) (cc[n.toNat]'hc) (cc[n.toNat]'hc).length ∧ RdyX im (codeAt im n) := by
 obtain ⟨a, b, d⟩ := fit_of h
 have hl : cc.length = im.codes.length := by have := congrArg List.length d; simpa using this
 have hn : n < im.codes.length := by omega
 have hm : missB im cc n = true := by rw [missB, h, decide_eq_true ⟨h0, h1⟩]; rfl
 have hask : askB im n = true := by rw [askB, a, decide_eq_true ⟨h0, hn⟩]; rfl
 obtain ⟨g1, g2, g3, g4⟩ := live_len hask
 have hlen : (cc[n.toNat]'(by omega)).length = (codeAt im n).ins.length := by
  rw [codeAt_at h0 hn]
  have := congrArg (fun l => l[n.toNat]?) d
  simpa only [List.getElem?_map, List.getElem?_eq_getElem (show n.toNat < cc.length by omega), List.getElem?_eq_getElem (show n.toNat < im.codes.length by omega), Option.map_some, Option.some.injEq] using this
 refine ⟨hm, hn, by omega, by rw [g1, hlen], by rw [hlen]; exact g2, g4, ?_, ?_⟩
 ·rw [missX, if_pos hm, List.getElem?_eq_getElem (by omega)]; rfl
 ·exact (code_ready a (by rw [codeAt_at h0 hn]; exact List.getElem_mem _)).1
theorem retMN {b : Bool} (h : missB im cc n = false) : [D.own (T.list 1 []), D.t (T.v (Value.bool false))] = [D.own (T.ints (missX im cc n)), D.t (T.bool (missB im cc n))] := by
 rw [missX, h]; rfl
theorem retMY {l : List T} {L : List Int} (h : missB im cc n = true) (hl : l = L.map T.int) : [D.own (T.list 1 l), D.t (T.v (Value.bool true))] = [D.own (T.ints L), D.t (T.bool (missB im cc n))] := by
 rw [h, hl]; rfl
theorem missT_yes {h ct : List Int} (h0 : 0 ≤ k) (a : atI ct k = 0) (b : 0 ≤ atI h k) : missT h ct (k + 1).toNat = missT h ct k.toNat ++ [k] := by
 rw [show (k + 1).toNat = k.toNat + 1 from by omega, missT, show ((k.toNat : Nat) : Int) = k from by omega, if_pos ⟨a, b⟩]
theorem missT_no {h ct : List Int} (h0 : 0 ≤ k) (a : ¬ (atI ct k = 0 ∧ 0 ≤ atI h k)) : missT h ct (k + 1).toNat = missT h ct k.toNat := by
 rw [show (k + 1).toNat = k.toNat + 1 from by omega, missT, show ((k.toNat : Nat) : Int) = k from by omega, if_neg a, List.append_nil]
end
theorem missedS_fun (im : Image) (cc : List (List Int)) (n : Int) (hx : im.ok 1048576) (hl : cc.length ≤ 1048576) (hll : ∀ x, x ∈ cc → x.length ≤ 1048576) : Fun Tryz.prog 16 [.t im.tt, .t (intss cc), .t (.int n)] (tupD [.own (T.ints (missX im cc n)), .t (.bool (missB im cc n))]) := by
 have hxl : im.codes.length ≤ 1048576 := hx.1.1
 refine Fun.begin tys Tryz.func16 Z Z (N := 60) [(0, .t im.tt), (1, .t (intss cc)), (2, .t (.int n))] Z Z (fun w0 G F0 => ?_)
 refine sQ (rG (WO_box Z Z (lt_of Z) Z Z (nZ Z (eK 2 Z (oN (tN (sQ (sQ (rG ?_)))))))))
 first | (refine ev ?_; try refine WO_le (Le.freeze (u := 13) rfl) ?_) | refine WO_loadMove tys rfl rfl (lt_of rfl) rfl rfl rfl rfl rfl rfl ?_
 refine nZ Z (eZ Z (callB ?_))
 refine ⟨_, l20Fit_fun im cc hx hl hll, rfl, ?_⟩
 refine eK 2 Z ?_
 refine WO_guard Z Z Z Z (lt_of Z) (fun h1 => ?_) (fun h1 => ?_)
 rotate_left
 ·
  try simp only [HS] at h1
  refine gM Z (kZ [1,2,3,6,7,17,18,19] Z (gM Z (gM Z (gM Z (gM Z (eZ Z (oN (tN (W_condT Z (sQ (rG (eK 2 Z (oN (tN ?_))))))))))))))
  first | refine W_le (Le.nilOwn (u := 6) 1 rfl) ?_ | refine W_le (Le.gather (u := 6) (id := 10) rfl rfl (Nat.le_refl _)) ?_
  refine rT (tR (eR ?_))
  ·first
   | exact retMN (b := true) (miss_no (.inl (by assumption)))
   | exact retMN (b := true) (miss_no (.inr (by assumption)))
   | exact retMY hmb (by rw [List.take_of_length_le (Nat.le_refl _), show k.toNat = C.length from by omega])
 try simp only [HS] at h1
 refine eZ Z (gY Z (eZ Z (kZ [1,2,3,6,7,17,18,19] Z (gY Z (evE ?_)))))
 refine gY Z (evI ?_)
 refine gY Z (callB ?_)
 refine ⟨_, l1In_fun _ _ _, rfl, ?_⟩
 refine gY Z (eK 2 Z (oN (tN ?_)))
 refine W_cond Z (fun h2 => ?_) (fun h2 => ?_)
 ·
  try simp only [HS] at h2
  refine sQ (rG (eK 2 Z (oN (tN ?_))))
  first | refine W_le (Le.nilOwn (u := 6) 1 rfl) ?_ | refine W_le (Le.gather (u := 6) (id := 10) rfl rfl (Nat.le_refl _)) ?_
  refine rT (tR (eR ?_))
  ·first
   | exact retMN (b := true) (miss_no (.inl (by assumption)))
   | exact retMN (b := true) (miss_no (.inr (by assumption)))
   | exact retMY hmb (by rw [List.take_of_length_le (Nat.le_refl _), show k.toNat = C.length from by omega])
 try simp only [HS] at h2
 refine W_skip (tN (sQ ?_))
 obtain ⟨hmb, hnx, hnc, hl1, hl2, hl3, hl4, hR⟩ := miss_yes (im := im) (cc := cc) (n := n) (by assumption) (by omega) (by omega)
 rw [hl4]
 have hce : codeAt im n = im.codes[n.toNat]'(by omega) := codeAt_at (by omega) hnx
 have hle : (heiX im (im.codes[n.toNat]'(by omega))).getD [] = liveX im n := by rw [← hce]; rfl
 refine W_regionD mixed (by kernel_rfl) ?_
 first | refine QL_evZ tys rfl rfl (lt_of rfl) rfl rfl ?_ | refine evQ ?_ | refine WO_loadMove tys rfl rfl (lt_of rfl) rfl rfl rfl rfl rfl rfl ?_
 refine QL_norm Z (evQ ?_)
 refine evQ ?_
 refine evQ ?_
 first | refine QL_idxT tys rfl rfl (lt_of rfl) rfl rfl rfl rfl rfl rfl rfl (by omega) _ (getT _ _ (by omega) (by omega)) ?_ | refine QL_idxS tys rfl rfl (lt_of rfl) rfl rfl rfl rfl rfl rfl rfl rfl (by omega) (by omega) ?_
 first | refine QL_evZ tys rfl rfl (lt_of rfl) rfl rfl ?_ | refine evQ ?_ | refine QL_loadL tys rfl rfl (lt_of rfl) rfl rfl rfl rfl (getT _ _ (by omega) (by omega)) rfl ?_ | refine QL_loadL tys rfl rfl (lt_of rfl) rfl rfl rfl rfl (getT0 _ _ (by omega) (by omega)) rfl ?_
 refine QL_callF Z Z (lt_of Z) Z Z Z Z Z (l5Heights_fun im _ (by rw [← hce]; exact hR)) Z ?_
 refine QL_norm Z (evQ ?_)
 refine evQ ?_
 refine evQ ?_
 refine evQ ?_
 refine evQ ?_
 refine QL_nil (tN (sQ (rG (eZ Z (WO_le (Le.nilOwn (u := 10) 1 Z) (WO_le (Le.adoptE (u := 10) 10 Z Z) (nZ Z (oN (tN (sQ (sQ ?_)))))))))))
 rw [hle]
 generalize liveX im n = L at *
 refine rG (eK 2 Z ?_)
 first | refine WO_idxT tys rfl rfl (lt_of rfl) rfl rfl rfl rfl rfl rfl rfl (by omega) _ (getT _ _ (by omega) (by omega)) ?_ | refine WO_idxS tys rfl rfl (lt_of rfl) rfl rfl rfl rfl rfl rfl rfl rfl (by omega) (by omega) ?_
 refine kZ [6,7,8,10,37] Z ?_
 first | refine ev ?_ | refine WO_loadL tys rfl rfl (lt_of rfl) rfl rfl rfl rfl (getT _ _ (by omega) (by omega)) rfl ?_ | refine WO_loadL tys rfl rfl (lt_of rfl) rfl rfl rfl rfl (getT0 _ _ (by omega) (by omega)) rfl ?_
 generalize hCe : cc[n.toNat]'hnc = C at *
 refine evE ?_
 refine eZ Z (oN (tN (W_block ?_)))
 refine lK (α := Int × Nat × List T) [7, 8, 38, 39] [] (fun x => [(40, .t (.int (x.1))), (10, .sl 10 0 (x.2.1))]) (fun x => [(10, .L 1 (x.2.2))]) (fun x => 0 ≤ (x.1) ∧ (x.1) ≤ C.length ∧ (x.2.1) = (x.2.2).length ∧ (x.2.2) = (missT L C (x.1).toNat).map T.int) (fun x => Int.toNat (C.length - (x.1))) (0, 0, []) ?_ (fun x hx => ?_)
 ·exact ⟨by omega, by omega, rfl, rfl⟩
 obtain ⟨k, m, xs⟩ := x
 obtain ⟨hk0, hk1, hm, hxs⟩ := hx
 try dsimp only at hk0 hk1 hm hxs ⊢
 subst hm hxs
 refine nY Z (sQ (rG (eZ Z (oN (tN (sQ ?_))))))
 refine W_cond Z (fun h3 => ?_) (fun h3 => ?_)
 ·
  try simp only [HS] at h3
  refine W_skip (tN (sQ (W_block (sQ (rG ?_)))))
  have hml := missT_len L C k.toNat
  have hml2 : ((missT L C k.toNat).map T.int).length ≤ k.toNat := by rw [List.length_map]; exact hml
  refine eZ Z ?_
  first | refine WO_idxT tys rfl rfl (lt_of rfl) rfl rfl rfl rfl rfl rfl rfl (by omega) _ (getT _ _ (by omega) (by omega)) ?_ | refine WO_idxS tys rfl rfl (lt_of rfl) rfl rfl rfl rfl rfl rfl rfl rfl (by omega) (by omega) ?_
  first | refine ev ?_ | refine WO_loadL tys rfl rfl (lt_of rfl) rfl rfl rfl rfl (getT _ _ (by omega) (by omega)) rfl ?_ | refine WO_loadL tys rfl rfl (lt_of rfl) rfl rfl rfl rfl (getT0 _ _ (by omega) (by omega)) rfl ?_
  refine eK 2 Z (oN (tN (sQ (rG (eK 3 Z (kZ [7,8,10,11,12,38,39,40,41,42,43,44,45,46,47] Z ?_))))))
  refine WO_guard Z Z Z Z (lt_of Z) (fun h4 => ?_) (fun h4 => ?_)
  rotate_left
  ·
   try simp only [HS] at h4
   refine gM Z (gM Z (gM Z (gM Z (eZ Z (oN (tN (W_condF Z (W_skip (bN (tN (rG (evI ?_))))))))))))
   refine eZ Z (oN ?_)
   refine lQ (_, _, _) ?_ ?_
   ·try dsimp only
    first
    | exact ⟨by omega, by omega, by simp, by rw [missT_yes hk0 (by rw [atI_at hk0 (by omega)]; omega) (by rw [atI_at hk0 (by omega)]; omega), List.map_append, List.take_of_length_le (Nat.le_refl _)]; rfl⟩
    | exact ⟨by omega, by omega, rfl, by rw [missT_no hk0 (by rw [atI_at hk0 (by omega), atI_at hk0 (by omega)]; omega)]⟩
   ·(show Int.toNat _ < Int.toNat _); omega
  try simp only [HS] at h4
  refine eZ Z (gY Z (eZ Z (gY Z ?_)))
  first | refine WO_idxT tys rfl rfl (lt_of rfl) rfl rfl rfl rfl rfl rfl rfl (by omega) _ (getT _ _ (by omega) (by omega)) ?_ | refine WO_idxS tys rfl rfl (lt_of rfl) rfl rfl rfl rfl rfl rfl rfl rfl (by omega) (by omega) ?_
  refine gY Z ?_
  first | refine ev ?_ | refine WO_loadL tys rfl rfl (lt_of rfl) rfl rfl rfl rfl (getT _ _ (by omega) (by omega)) rfl ?_ | refine WO_loadL tys rfl rfl (lt_of rfl) rfl rfl rfl rfl (getT0 _ _ (by omega) (by omega)) rfl ?_
  refine gY Z (eK 2 Z (oN (tN ?_)))
  refine W_cond Z (fun h5 => ?_) (fun h5 => ?_)
  ·
   try simp only [HS] at h5
   refine rG (eK 2 Z ?_)
   refine WO_buildSlice tys [T.int k] Z Z (lt_of Z) Z Z Z Z Z (lt_of Z) (by repeat (first | exact PartsOk.nil' | refine PartsOk.cons' rfl (by repeat (first | exact AbsL.nil' | refine AbsL.v' ?_ | refine AbsL.own' ?_ | refine AbsL.none' ?_)) Z ?_)) (by first | exact List.nodup_nil | exact nodup1 _ | decide | exact nodupB_sound Z) Z (by decide) ?_
   refine nZ Z (kZ [7,8,10,11,12,38,39,40,41,42,43,44,45,46,47,48,49,50,51,52,53,54,55,56] Z ?_)
   first | refine WO_append tys rfl rfl (lt_of rfl) rfl rfl rfl rfl rfl (.own rfl (by first | omega | (simp only [List.length_append]; omega))) rfl (.own rfl (by first | decide | omega)) (by decide) (by simp; omega) (by decide) rfl ?_ | refine WO_append tys rfl rfl (lt_of rfl) rfl rfl rfl rfl rfl .nil rfl (.own rfl (by first | decide | omega)) (by decide) (by simp; omega) (by decide) rfl ?_
   refine nZ Z (eZ Z (oN (bN (tN (rG (evI ?_))))))
   refine eZ Z (oN ?_)
   refine lQ (_, _, _) ?_ ?_
   ·try dsimp only
    first
    | exact ⟨by omega, by omega, by simp, by rw [missT_yes hk0 (by rw [atI_at hk0 (by omega)]; omega) (by rw [atI_at hk0 (by omega)]; omega), List.map_append, List.take_of_length_le (Nat.le_refl _)]; rfl⟩
    | exact ⟨by omega, by omega, rfl, by rw [missT_no hk0 (by rw [atI_at hk0 (by omega), atI_at hk0 (by omega)]; omega)]⟩
   ·(show Int.toNat _ < Int.toNat _); omega
  try simp only [HS] at h5
  refine W_skip (bN (tN (rG (evI ?_))))
  refine eZ Z (oN ?_)
  refine lQ (_, _, _) ?_ ?_
  ·try dsimp only
   first
   | exact ⟨by omega, by omega, by simp, by rw [missT_yes hk0 (by rw [atI_at hk0 (by omega)]; omega) (by rw [atI_at hk0 (by omega)]; omega), List.map_append, List.take_of_length_le (Nat.le_refl _)]; rfl⟩
   | exact ⟨by omega, by omega, rfl, by rw [missT_no hk0 (by rw [atI_at hk0 (by omega), atI_at hk0 (by omega)]; omega)]⟩
  ·(show Int.toNat _ < Int.toNat _); omega
 try simp only [HS] at h3
 refine W_exit (tE (loopQ_e (inBlk_y (tN (sQ (rG (eK 3 Z (oN (tN ?_)))))))))
 first | refine W_le (Le.nilOwn (u := 6) 1 rfl) ?_ | refine W_le (Le.gather (u := 6) (id := 10) rfl rfl (Nat.le_refl _)) ?_
 refine rT (eR ?_)
 ·first
  | exact retMN (b := true) (miss_no (.inl (by assumption)))
  | exact retMN (b := true) (miss_no (.inr (by assumption)))
  | exact retMY hmb (by rw [List.take_of_length_le (Nat.le_refl _), show k.toNat = C.length from by omega])
section
variable {im : Image} {cc : List (List Int)} {n k : Int}
theorem askB_no (h : askB im n = false) (he : (cc.length : Int) = im.codes.length) : missB im cc n = false := by
 unfold askB at h
 unfold missB fitC
 rw [he]
 cases e : imageB im with
 | false => rfl
 | true => rw [e, Bool.true_and] at h; rw [h]; simp
theorem miss_ask (h : askB im n = false) : missB im cc n = false := by
 by_cases he : (cc.length : Int) = im.codes.length
 ·exact askB_no h he
 ·unfold missB; rw [fit_3 (lens_len he)]; rfl
end
theorem missedI_fun (im : Image) (cc : List (List Int)) (n : Int) (hx : im.ok 1048576) (hl : cc.length ≤ 1048576) (hll : ∀ x, x ∈ cc → x.length ≤ 1048576) : Fun Tryz.prog 19 [.t im.tt, .t (intss cc), .t (.int n)] (tupD [.own (T.ints (missX im cc n)), .t (.bool (missB im cc n))]) := by
 have hxl : im.codes.length ≤ 1048576 := hx.1.1
 refine Fun.begin tys Tryz.func19 Z Z (N := 78) [(0, .t im.tt), (1, .t (intss cc)), (2, .t (.int n))] Z Z (fun w0 G F0 => ?_)
 refine sQ (rG (WO_box Z Z (lt_of Z) Z Z (nZ Z (eK 2 Z (oN (tN (sQ (rG ?_))))))))
 first | (refine ev ?_; try refine WO_le (Le.freeze (u := 16) rfl) ?_) | refine WO_loadMove tys rfl rfl (lt_of rfl) rfl rfl rfl rfl rfl rfl ?_
 refine nZ Z (eZ Z (callB ?_))
 refine ⟨_, liveIn_fun im n hx, rfl, ?_⟩
 refine WO_moveAll Z Z (lt_of Z) (.inr Z) Z Z (nZ Z (WO_extract Z Z (lt_of Z) Z Z Z Z (WO_le (Le.freeze (u := 19) Z) (nZ Z ?_))))
 first | refine WO_evF tys rfl rfl (lt_of rfl) (d := .t _) rfl ?_ | (refine WO_extract rfl rfl (lt_of rfl) rfl rfl rfl rfl ?_; first | refine WO_le (Le.adoptE (u := 20) 20 rfl (by first | exact lenN | exact rfl)) ?_ | skip)
 refine nZ Z (kZ [1,2,3,6,7,19,20] Z (eK 2 Z (oN (tN (sQ (sQ (rG (eK 3 Z ?_))))))))
 refine WO_guard Z Z Z Z (lt_of Z) (fun h1 => ?_) (fun h1 => ?_)
 rotate_left
 ·
  try simp only [HS] at h1
  refine gM Z (gM Z (eK 2 Z (kZ [1,2,3,6,7,8,28] Z (gM Z (gM Z (gM Z (gM Z (gM Z (gM Z (eZ Z (oN (tN (W_condT Z (sQ (kY [1,2,3,6,7,8] Z ?_)))))))))))))))
  refine rG (eK 2 Z (oN (tN ?_)))
  first | refine W_le (Le.nilOwn (u := 6) 1 rfl) ?_ | refine W_le (Le.gather (u := 6) (id := 12) rfl rfl (Nat.le_refl _)) ?_
  refine rT (tR (eR ?_))
  ·first
   | exact retMN (b := true) (miss_ask (by assumption))
   | exact retMN (b := true) (miss_no (.inl (fit_2 (by assumption))))
   | exact retMN (b := true) (miss_no (.inl (fit_3 (lens_len (by assumption)))))
   | exact retMN (b := true) (miss_no (.inl (fit_3 (lens_no hk0 (by omega) (by omega) (by omega)))))
   | exact retMY hmb (by rw [List.take_of_length_le (Nat.le_refl _), show j.toNat = C.length from by omega])
 try simp only [HS] at h1
 refine eZ Z (gY Z (callB ?_))
 refine ⟨_, areCounts_fun cc hl hll, rfl, ?_⟩
 refine gY Z (eK 2 Z (kZ [1,2,3,6,7,8,27] Z (eZ Z ?_)))
 refine WO_guard Z Z Z Z (lt_of Z) (fun h2 => ?_) (fun h2 => ?_)
 rotate_left
 ·
  try simp only [HS] at h2
  refine gM Z (gM Z (gM Z (gM Z (gM Z (eZ Z (oN (tN (W_condT Z (sQ (kY [1,2,3,6,7,8] Z (rG (eK 2 Z (oN (tN ?_))))))))))))))
  first | refine W_le (Le.nilOwn (u := 6) 1 rfl) ?_ | refine W_le (Le.gather (u := 6) (id := 12) rfl rfl (Nat.le_refl _)) ?_
  refine rT (tR (eR ?_))
  ·first
   | exact retMN (b := true) (miss_ask (by assumption))
   | exact retMN (b := true) (miss_no (.inl (fit_2 (by assumption))))
   | exact retMN (b := true) (miss_no (.inl (fit_3 (lens_len (by assumption)))))
   | exact retMN (b := true) (miss_no (.inl (fit_3 (lens_no hk0 (by omega) (by omega) (by omega)))))
   | exact retMY hmb (by rw [List.take_of_length_le (Nat.le_refl _), show j.toNat = C.length from by omega])
 try simp only [HS] at h2
 refine eZ Z (gY Z (evE ?_))
 refine gY Z (eZ Z (gY Z (eZ Z (gY Z (evE ?_)))))
 refine gY Z (eK 2 Z (oN (tN ?_)))
 refine W_cond Z (fun h3 => ?_) (fun h3 => ?_)
 ·
  try simp only [HS] at h3
  refine sQ (kY [1,2,3,6,7,8] Z (rG (eK 2 Z (oN (tN ?_)))))
  first | refine W_le (Le.nilOwn (u := 6) 1 rfl) ?_ | refine W_le (Le.gather (u := 6) (id := 12) rfl rfl (Nat.le_refl _)) ?_
  refine rT (tR (eR ?_))
  ·first
   | exact retMN (b := true) (miss_ask (by assumption))
   | exact retMN (b := true) (miss_no (.inl (fit_2 (by assumption))))
   | exact retMN (b := true) (miss_no (.inl (fit_3 (lens_len (by assumption)))))
   | exact retMN (b := true) (miss_no (.inl (fit_3 (lens_no hk0 (by omega) (by omega) (by omega)))))
   | exact retMY hmb (by rw [List.take_of_length_le (Nat.le_refl _), show j.toNat = C.length from by omega])
 try simp only [HS] at h3
 refine W_skip (tN (sQ (sQ ?_)))
 rw [if_pos (by assumption)]
 refine kY [1,2,3,6,7,8] Z (rG (eZ Z (evE ?_)))
 refine eZ Z (oN (tN (W_block ?_)))
 refine lK (α := Int) [1, 2, 3, 7, 8, 36, 37] [3] (fun x => [(38, .t (.int x))]) (fun x => []) (fun x => 0 ≤ x ∧ x ≤ cc.length ∧ lensTo im cc x) (fun x => Int.toNat (cc.length - x)) 0 ?_ (fun k hx => ?_)
 ·exact ⟨by omega, by omega, by omega, fun j _ _ h => by omega⟩
 obtain ⟨hk0, hk1, hk2⟩ := hx
 refine nY Z (sQ (rG (eZ Z (oN (tN (sQ ?_))))))
 refine W_cond Z (fun h4 => ?_) (fun h4 => ?_)
 ·
  try simp only [HS] at h4
  refine W_skip (tN (sQ (W_block (sQ (rG (eZ Z ?_))))))
  first | refine WO_idxT tys rfl rfl (lt_of rfl) rfl rfl rfl rfl rfl rfl rfl (by omega) _ (getT _ _ (by omega) (by omega)) ?_ | refine WO_idxS tys rfl rfl (lt_of rfl) rfl rfl rfl rfl rfl rfl rfl rfl (by omega) (by omega) ?_
  first | refine ev ?_ | refine WO_loadL tys rfl rfl (lt_of rfl) rfl rfl rfl rfl (getT _ _ (by omega) (by omega)) rfl ?_ | refine WO_loadL tys rfl rfl (lt_of rfl) rfl rfl rfl rfl (getT0 _ _ (by omega) (by omega)) rfl ?_
  refine eK 2 Z (oN (tN (sQ (rG (eZ Z ?_)))))
  have hkc : k.toNat < cc.length := by omega
  have hkx : k.toNat < im.codes.length := by omega
  have hl1 := hll _ (List.getElem_mem hkc)
  have hl2 := (hx.1.2 _ (List.getElem_mem hkx)).2.1
  refine evE ?_
  refine eZ Z (kZ [1,2,3,7,8,10,11,36,37,38,39,40,41,42,43,44,45] Z (eK 2 Z ?_))
  first | refine WO_idxT tys rfl rfl (lt_of rfl) rfl rfl rfl rfl rfl rfl rfl (by omega) _ (getT _ _ (by omega) (by omega)) ?_ | refine WO_idxS tys rfl rfl (lt_of rfl) rfl rfl rfl rfl rfl rfl rfl rfl (by omega) (by omega) ?_
  refine eZ Z ?_
  first | refine ev ?_ | refine WO_loadL tys rfl rfl (lt_of rfl) rfl rfl rfl rfl (getT _ _ (by omega) (by omega)) rfl ?_ | refine WO_loadL tys rfl rfl (lt_of rfl) rfl rfl rfl rfl (getT0 _ _ (by omega) (by omega)) rfl ?_
  refine evE ?_
  refine eZ Z (oN (tN ?_))
  refine W_cond Z (fun h5 => ?_) (fun h5 => ?_)
  ·
   try simp only [HS] at h5
   refine sQ (kY [1,2,3,7,8,10,11,36,37,38,39,40,41,42,43,44,45,46,47,48,49,50,51,52] Z (rG (eK 2 Z (oN (tN ?_)))))
   first | refine W_le (Le.nilOwn (u := 6) 1 rfl) ?_ | refine W_le (Le.gather (u := 6) (id := 12) rfl rfl (Nat.le_refl _)) ?_
   refine rT (bR (tR (loopQ_r (bR (tR (eR ?_))))))
   ·first
    | exact retMN (b := true) (miss_ask (by assumption))
    | exact retMN (b := true) (miss_no (.inl (fit_2 (by assumption))))
    | exact retMN (b := true) (miss_no (.inl (fit_3 (lens_len (by assumption)))))
    | exact retMN (b := true) (miss_no (.inl (fit_3 (lens_no hk0 (by omega) (by omega) (by omega)))))
    | exact retMY hmb (by rw [List.take_of_length_le (Nat.le_refl _), show j.toNat = C.length from by omega])
  try simp only [HS] at h5
  refine W_skip (bN (tN (kY [1,2,3,7,8,10,11,36,37,38,39,40,41,42,43,44,45,46,47,48,49,50,51,52] Z (rG (evI ?_)))))
  refine eZ Z (oN ?_)
  refine lQ _ ?_ ?_
  ·try dsimp only
   first
   | exact ⟨by omega, by omega, lens_next hk0 (by omega) (by omega) (by omega) hk2⟩
  ·(show Int.toNat _ < Int.toNat _); omega
 try simp only [HS] at h4
 refine W_exit (tE (loopQ_e (inBlk_y (tN (sQ (rG (eZ Z (WO_le (Le.nilOwn (u := 12) 1 Z) (WO_le (Le.adoptE (u := 12) 12 Z Z) (nZ Z (oN (tN (sQ (sQ ?_))))))))))))))
 obtain ⟨hai, hn0, hn1⟩ := askB_of (x := im) (n := n) (by assumption)
 obtain ⟨hmb, hnx, hnc, hl1, hl2, hl3, hl4, hR⟩ := miss_yes (im := im) (cc := cc) (n := n) (fit_0 hai (by assumption) (lens_end (by omega) hk2)) hn0 (by omega)
 rw [hl4]
 generalize liveX im n = L at *
 refine rG (eK 2 Z ?_)
 first | refine WO_idxT tys rfl rfl (lt_of rfl) rfl rfl rfl rfl rfl rfl rfl (by omega) _ (getT _ _ (by omega) (by omega)) ?_ | refine WO_idxS tys rfl rfl (lt_of rfl) rfl rfl rfl rfl rfl rfl rfl rfl (by omega) (by omega) ?_
 first | refine ev ?_ | refine WO_loadL tys rfl rfl (lt_of rfl) rfl rfl rfl rfl (getT _ _ (by omega) (by omega)) rfl ?_ | refine WO_loadL tys rfl rfl (lt_of rfl) rfl rfl rfl rfl (getT0 _ _ (by omega) (by omega)) rfl ?_
 generalize hCe : cc[n.toNat]'hnc = C at *
 refine evE ?_
 refine eZ Z (oN (tN (W_block ?_)))
 refine lK (α := Int × Nat × List T) [7, 8, 57, 58] [] (fun x => [(59, .t (.int (x.1))), (12, .sl 12 0 (x.2.1))]) (fun x => [(12, .L 1 (x.2.2))]) (fun x => 0 ≤ (x.1) ∧ (x.1) ≤ C.length ∧ (x.2.1) = (x.2.2).length ∧ (x.2.2) = (missT L C (x.1).toNat).map T.int) (fun x => Int.toNat (C.length - (x.1))) (0, 0, []) ?_ (fun x hx => ?_)
 ·exact ⟨by omega, by omega, rfl, rfl⟩
 obtain ⟨j, m, xs⟩ := x
 obtain ⟨hj0, hj1, hm, hxs⟩ := hx
 try dsimp only at hj0 hj1 hm hxs ⊢
 subst hm hxs
 refine nY Z (sQ (rG (eZ Z (oN (tN (sQ ?_))))))
 refine W_cond Z (fun h5 => ?_) (fun h5 => ?_)
 ·
  try simp only [HS] at h5
  refine W_skip (tN (sQ (W_block (sQ (rG ?_)))))
  have hml := missT_len L C j.toNat
  have hml2 : ((missT L C j.toNat).map T.int).length ≤ j.toNat := by rw [List.length_map]; exact hml
  have hLl : (L.map fun v => decide (0 ≤ v)).length = L.length := List.length_map _
  refine eZ Z ?_
  first | refine WO_idxT tys rfl rfl (lt_of rfl) rfl rfl rfl rfl rfl rfl rfl (by omega) _ (getT _ _ (by omega) (by omega)) ?_ | refine WO_idxS tys rfl rfl (lt_of rfl) rfl rfl rfl rfl rfl rfl rfl rfl (by omega) (by omega) ?_
  first | refine ev ?_ | refine WO_loadL tys rfl rfl (lt_of rfl) rfl rfl rfl rfl (getT _ _ (by omega) (by omega)) rfl ?_ | refine WO_loadL tys rfl rfl (lt_of rfl) rfl rfl rfl rfl (getT0 _ _ (by omega) (by omega)) rfl ?_
  refine eK 2 Z (oN (tN (sQ (rG (eK 3 Z (kZ [7,8,12,13,14,57,58,59,60,61,62,63,64,65,66] Z ?_))))))
  refine WO_guard Z Z Z Z (lt_of Z) (fun h6 => ?_) (fun h6 => ?_)
  rotate_left
  ·
   try simp only [HS] at h6
   refine gM Z (gM Z (gM Z (eZ Z (oN (tN (W_condF Z (W_skip (bN (tN (rG (evI ?_)))))))))))
   refine eZ Z (oN ?_)
   refine lQ (_, _, _) ?_ ?_
   ·try dsimp only
    first
    | exact ⟨by omega, by omega, by simp, by rw [missT_yes hj0 (by rw [atI_at hj0 (by omega)]; omega) (by rw [atI_at hj0 (by omega)]; simp_all), List.map_append, List.take_of_length_le (Nat.le_refl _)]; rfl⟩
    | exact ⟨by omega, by omega, rfl, by rw [missT_no hj0 (by rw [atI_at hj0 (by omega), atI_at hj0 (by omega)]; simp_all)]⟩
   ·(show Int.toNat _ < Int.toNat _); omega
  try simp only [HS] at h6
  refine eZ Z (gY Z (eZ Z (gY Z ?_)))
  first | refine WO_idxT tys rfl rfl (lt_of rfl) rfl rfl rfl rfl rfl rfl rfl (by omega) _ (getT _ _ (by omega) (by omega)) ?_ | refine WO_idxS tys rfl rfl (lt_of rfl) rfl rfl rfl rfl rfl rfl rfl rfl (by omega) (by omega) ?_
  refine gY Z ?_
  first | refine ev ?_ | refine WO_loadL tys rfl rfl (lt_of rfl) rfl rfl rfl rfl (getT _ _ (by omega) (by omega)) rfl ?_ | refine WO_loadL tys rfl rfl (lt_of rfl) rfl rfl rfl rfl (getT0 _ _ (by omega) (by omega)) rfl ?_
  refine eZ Z (oN (tN ?_))
  refine W_cond Z (fun h7 => ?_) (fun h7 => ?_)
  ·
   try simp only [HS] at h7
   refine rG (eK 2 Z ?_)
   refine WO_buildSlice tys [T.int j] Z Z (lt_of Z) Z Z Z Z Z (lt_of Z) (by repeat (first | exact PartsOk.nil' | refine PartsOk.cons' rfl (by repeat (first | exact AbsL.nil' | refine AbsL.v' ?_ | refine AbsL.own' ?_ | refine AbsL.none' ?_)) Z ?_)) (by first | exact List.nodup_nil | exact nodup1 _ | decide | exact nodupB_sound Z) Z (by decide) ?_
   refine nZ Z ?_
   first | refine WO_append tys rfl rfl (lt_of rfl) rfl rfl rfl rfl rfl (.own rfl (by first | omega | (simp only [List.length_append]; omega))) rfl (.own rfl (by first | decide | omega)) (by decide) (by simp; omega) (by decide) rfl ?_ | refine WO_append tys rfl rfl (lt_of rfl) rfl rfl rfl rfl rfl .nil rfl (.own rfl (by first | decide | omega)) (by decide) (by simp; omega) (by decide) rfl ?_
   refine nZ Z (kZ [7,8,12,13,14,57,58,59,60,61,62,63,64,65,66,67,68,69,70,71,72,73,74,75] Z (eZ Z (oN (bN (tN (rG (evI ?_)))))))
   refine eZ Z (oN ?_)
   refine lQ (_, _, _) ?_ ?_
   ·try dsimp only
    first
    | exact ⟨by omega, by omega, by simp, by rw [missT_yes hj0 (by rw [atI_at hj0 (by omega)]; omega) (by rw [atI_at hj0 (by omega)]; simp_all), List.map_append, List.take_of_length_le (Nat.le_refl _)]; rfl⟩
    | exact ⟨by omega, by omega, rfl, by rw [missT_no hj0 (by rw [atI_at hj0 (by omega), atI_at hj0 (by omega)]; simp_all)]⟩
   ·(show Int.toNat _ < Int.toNat _); omega
  try simp only [HS] at h7
  refine W_skip (bN (tN (rG (evI ?_))))
  refine eZ Z (oN ?_)
  refine lQ (_, _, _) ?_ ?_
  ·try dsimp only
   first
   | exact ⟨by omega, by omega, by simp, by rw [missT_yes hj0 (by rw [atI_at hj0 (by omega)]; omega) (by rw [atI_at hj0 (by omega)]; simp_all), List.map_append, List.take_of_length_le (Nat.le_refl _)]; rfl⟩
   | exact ⟨by omega, by omega, rfl, by rw [missT_no hj0 (by rw [atI_at hj0 (by omega), atI_at hj0 (by omega)]; simp_all)]⟩
  ·(show Int.toNat _ < Int.toNat _); omega
 try simp only [HS] at h5
 refine W_exit (tE (loopQ_e (inBlk_y (tN (sQ (rG (eK 3 Z (oN (tN ?_)))))))))
 first | refine W_le (Le.nilOwn (u := 6) 1 rfl) ?_ | refine W_le (Le.gather (u := 6) (id := 12) rfl rfl (Nat.le_refl _)) ?_
 refine rT (eR ?_)
 ·first
  | exact retMN (b := true) (miss_ask (by assumption))
  | exact retMN (b := true) (miss_no (.inl (fit_2 (by assumption))))
  | exact retMN (b := true) (miss_no (.inl (fit_3 (lens_len (by assumption)))))
  | exact retMN (b := true) (miss_no (.inl (fit_3 (lens_no hk0 (by omega) (by omega) (by omega)))))
  | exact retMY hmb (by rw [List.take_of_length_le (Nat.le_refl _), show j.toNat = C.length from by omega])
end Go.Proofs.YtimpganophnehaaGreat
