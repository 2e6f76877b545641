/- Walks and laws of the claim. -/
import Derived.Test.YtimpganophnehaaGreatPc
import Derived.Test.YtimpganophnehaaGreatFa
set_option linter.unusedVariables false
set_option linter.unusedSimpArgs false
set_option maxRecDepth 10000
set_option maxHeartbeats 10000000
namespace Go.Proofs.YtimpganophnehaaGreat
open Go.Eng
open Go.Eng
def begX (c : Code) (hs met : List Int) (k : Nat) : Prop :=
 hs.length = c.ins.length ∧ (∀ v, v ∈ hs → v = -1 ∨ v = 0) ∧ atI hs 0 = 0 ∧ (∀ r, r ∈ c.rows.take k → atI hs r.pad = 0) ∧ (∀ j, j ∈ met → 0 ≤ j ∧ j < c.ins.length ∧ 0 ≤ atI hs j) ∧
 (∀ j : Int, 0 ≤ j → j < c.ins.length → 0 ≤ atI hs j → j ∈ met ∧ (j = 0 ∨ ∃ r, r ∈ c.rows ∧ r.pad = j)) ∧ met.length + negs hs = c.ins.length
theorem negs_rep (n : Nat) : negs (List.replicate n (-1)) = n := by simp [negs, List.countP_replicate]
section
variable {x : Image} {c : Code} {hs met : List Int} {k : Int}
theorem atI_rep {n : Nat} {j : Int} (h0 : 0 ≤ j) (h1 : j < n) : atI (List.replicate n (-1)) j = -1 := by
 rw [atI, List.getElem?_replicate, if_pos (by omega)]; rfl
theorem begX_start (h : 1 ≤ c.ins.length) : begX c ((List.replicate c.ins.length (-1)).set 0 0) [0] 0 := by
 have hl : (0 : Int) < (List.replicate c.ins.length (-1 : Int)).length := by rw [List.length_replicate]; omega
 have hs : ∀ j : Int, 0 ≤ j → atI ((List.replicate c.ins.length (-1)).set 0 0) j = if j = 0 then 0 else atI (List.replicate c.ins.length (-1)) j := fun j hj => atI_set (n := 0) (by omega) hl hj
 refine ⟨by simp, fun v hv => ?_, by rw [hs 0 (by omega)]; rfl, by simp, fun j hj => ?_, fun j h0 h1 h2 => ?_, ?_⟩
 ·rcases List.mem_or_eq_of_mem_set hv with hv | rfl
  ·exact .inl (List.eq_of_mem_replicate hv)
  ·exact .inr rfl
 ·rw [List.mem_singleton] at hj; subst hj
  exact ⟨by omega, by omega, by rw [hs 0 (by omega)]; simp⟩
 ·rw [hs j h0] at h2
  split at h2
  ·rename_i e; subst e; exact ⟨by simp, .inl rfl⟩
  ·rw [atI_rep h0 h1] at h2; omega
 ·have := negs_set (l := List.replicate c.ins.length (-1)) (n := 0) (v := 0) (by omega) hl (by rw [atI_rep (by omega) (by omega)]; omega) (by omega)
  rw [negs_rep] at this
  simp only [List.length_singleton]
  rw [show ((0 : Int).toNat) = 0 from rfl] at this
  omega
theorem begX_same (h : begX c hs met k.toNat) (h0 : 0 ≤ k) (h1 : k < c.rows.length) (hp0 : 0 ≤ (c.rows[k.toNat]'(by omega)).pad) (hp1 : (c.rows[k.toNat]'(by omega)).pad < c.ins.length) (hv : ¬ atI hs (c.rows[k.toNat]'(by omega)).pad < 0) : begX c hs met (k + 1).toNat := by
 obtain ⟨a1, a2, a3, a4, a5, a6, a7⟩ := h
 refine ⟨a1, a2, a3, fun r hr => ?_, a5, a6, a7⟩
 rw [take_at h0 h1, List.mem_append, List.mem_singleton] at hr
 rcases hr with hr | rfl
 ·exact a4 r hr
 ·have := a2 _ (atI_in hp0 (by omega) : atI hs (c.rows[k.toNat]'(by omega)).pad ∈ hs)
  omega
theorem begX_new (h : begX c hs met k.toNat) (h0 : 0 ≤ k) (h1 : k < c.rows.length) (hp0 : 0 ≤ (c.rows[k.toNat]'(by omega)).pad) (hp1 : (c.rows[k.toNat]'(by omega)).pad < c.ins.length) (hv : atI hs (c.rows[k.toNat]'(by omega)).pad < 0) : begX c (hs.set (c.rows[k.toNat]'(by omega)).pad.toNat 0) (met ++ [(c.rows[k.toNat]'(by omega)).pad]) (k + 1).toNat := by
 obtain ⟨a1, a2, a3, a4, a5, a6, a7⟩ := h
 generalize hq : (c.rows[k.toNat]'(by omega)).pad = q at *
 have hset : ∀ j : Int, 0 ≤ j → atI (hs.set q.toNat 0) j = if j = q then 0 else atI hs j := fun j hj => atI_set hp0 (by omega) hj
 have hge : ∀ j : Int, atI hs j = 0 → atI (hs.set q.toNat 0) j = 0 := fun j hj => by
  unfold atI at hj ⊢
  by_cases e : j.toNat = q.toNat
  ·rw [e, List.getElem?_set_self (by omega)]; rfl
  ·rw [List.getElem?_set_ne (by omega)]; exact hj
 refine ⟨by rw [List.length_set]; exact a1, fun v hv => ?_, hge 0 a3, fun r hr => ?_, fun j hj => ?_, fun j g0 g1 g2 => ?_, ?_⟩
 ·rcases List.mem_or_eq_of_mem_set hv with hv | rfl
  ·exact a2 v hv
  ·exact .inr rfl
 ·rw [take_at h0 h1, List.mem_append, List.mem_singleton] at hr
  rcases hr with hr | rfl
  ·exact hge _ (a4 r hr)
  ·rw [hq, hset q hp0, if_pos rfl]
 ·rcases List.mem_append.1 hj with hj | hj
  ·obtain ⟨b1, b2, b3⟩ := a5 j hj
   exact ⟨b1, b2, by rw [hset j b1]; split <;> omega⟩
  ·rw [List.mem_singleton] at hj; subst hj
   exact ⟨hp0, hp1, by rw [hset j hp0, if_pos rfl]; omega⟩
 ·rw [hset j g0] at g2
  split at g2
  ·rename_i e; subst e
   exact ⟨by simp, .inr ⟨_, List.getElem_mem _, hq⟩⟩
  ·have := a6 j g0 g1 g2
   exact ⟨by simp [this.1], this.2⟩
 ·have := negs_set (l := hs) (v := 0) hp0 (by omega) hv (by omega)
  rw [List.length_append, List.length_singleton]
  omega
theorem beg_new (h : begX c hs met k.toNat) (h0 : 0 ≤ k) (h1 : k < c.rows.length) (hp0 : 0 ≤ (c.rows[k.toNat]'(by omega)).pad) (hp1 : (c.rows[k.toNat]'(by omega)).pad < c.ins.length) (hv : atI hs (c.rows[k.toNat]'(by omega)).pad < 0) {xs ms : List T} (e1 : xs = (hs.map T.int).set (c.rows[k.toNat]'(by omega)).pad.toNat (T.int 0)) (e2 : ms = met.map T.int ++ [T.int (c.rows[k.toNat]'(by omega)).pad]) :
  ∃ hs met : List Int, xs = hs.map T.int ∧ ms = met.map T.int ∧ begX c hs met (k + 1).toNat :=
 ⟨_, _, by rw [e1, List.map_set], by rw [e2]; simp, begX_new h h0 h1 hp0 hp1 hv⟩
theorem beg_same (h : begX c hs met k.toNat) (h0 : 0 ≤ k) (h1 : k < c.rows.length) (hp0 : 0 ≤ (c.rows[k.toNat]'(by omega)).pad) (hp1 : (c.rows[k.toNat]'(by omega)).pad < c.ins.length) (hv : ¬ atI hs (c.rows[k.toNat]'(by omega)).pad < 0) {xs : List T} (e1 : xs = (hs.map T.int).set (c.rows[k.toNat]'(by omega)).pad.toNat (T.int 0)) :
  ∃ hs' met' : List Int, xs = hs'.map T.int ∧ met.map T.int = met'.map T.int ∧ begX c hs' met' (k + 1).toNat := by
 refine ⟨hs, met, ?_, rfl, begX_same h h0 h1 hp0 hp1 hv⟩
 have hl := h.1
 have h2 := h.2.1 _ (atI_in hp0 (by omega) : atI hs (c.rows[k.toNat]'(by omega)).pad ∈ hs)
 have h3 : atI hs (c.rows[k.toNat]'(by omega)).pad = 0 := by omega
 rw [atI_at hp0 (by omega)] at h3
 rw [e1, ← List.map_set]
 congr 1
 refine List.ext_getElem (by simp) fun j h4 h5 => ?_
 rw [List.getElem_set]
 split
 ·rename_i e; subst e; exact h3.symm
 ·rfl
theorem begX_part (h : begX c hs met c.rows.length) : partX x c hs met := by
 obtain ⟨a1, a2, a3, a4, a5, a6, a7⟩ := h
 rw [List.take_length] at a4
 refine ⟨⟨a1, fun v hv => by have := a2 v hv; omega⟩, ⟨a3, a4⟩, fun h' hf j h0 h1 h2 => ?_, fun j hj => by have := a5 j hj; omega, fun j h0 h1 h2 => .inl (a6 j h0 (by omega) h2).1⟩
 have hz : atI hs j = 0 := by
  have := a2 _ (atI_in h0 h1 : atI hs j ∈ hs)
  omega
 rw [hz]
 rcases (a6 j h0 (by omega) h2).2 with rfl | ⟨r, hr, rfl⟩
 ·exact hf.2.1.1
 ·exact hf.2.1.2 r hr
end
theorem RdyX.tk {x : Image} {c : Code} (h : RdyX x c) {i : Ins} (hi : i ∈ c.ins) : 0 ≤ tkX x i ∧ tkX x i ≤ 2 := by
 unfold tkX
 split
 ·omega
 ·split
  ·omega
  ·split
   ·rename_i h7
    have := h.call i hi h7
    rw [codeAt_at this.1 this.2]
    exact h.par _ (List.getElem_mem _)
   ·omega
section
variable {x : Image} {c : Code} {hs met done : List Int} {k k0 n v : Int}
def seekX (x : Image) (c : Code) (xs ms : List T) (k : Int) : Prop := ∃ hs met : List Int, xs = hs.map T.int ∧ ms = met.map T.int ∧ 0 ≤ k ∧ k ≤ met.length ∧ met.length + negs hs = c.ins.length ∧ partX x c hs (met.drop k.toNat)
def roundX (x : Image) (c : Code) (xs ms : List T) (k k0 hi : Int) (done : List Int) : Prop := ∃ hs met : List Int, xs = hs.map T.int ∧ ms = met.map T.int ∧ 0 ≤ k ∧ k + 1 ≤ met.length ∧ met.length + negs hs = c.ins.length ∧ midX x c hs (met.drop (k + 1).toNat) k0 done ∧ hi = atI hs k0 - tkX x (insAt c k0) + ptX (insAt c k0)
theorem seek_start (h0 : 0 ≤ k) (h1 : k < met.length) (hm : met.length + negs hs = c.ins.length) (h : partX x c hs (met.drop k.toNat)) (hk : k0 = met[k.toNat]'(by omega)) (ht : tkX x (insAt c k0) ≤ atI hs k0) {hi : Int} (hh : hi = atI hs k0 - tkX x (insAt c k0) + ptX (insAt c k0)) :
  roundX x c (hs.map T.int) (met.map T.int) k k0 hi [] := by
 refine ⟨hs, met, rfl, rfl, h0, by omega, hm, part_mid h (by rw [drop_at h0 h1, hk]; simp) (fun j hj => by rw [drop_at h0 h1]; simp [hj]) (fun j hj => ?_) ht, hh⟩
 rw [drop_at h0 h1, List.mem_cons] at hj
 rcases hj with hj | hj
 ·exact .inl (hj.trans hk.symm)
 ·exact .inr hj
theorem round_end {xs ms : List T} {hi : Int} (h : roundX x c xs ms k k0 hi done) (hd : ∀ n, n ∈ nextX (insAt c k0) k0 → n ∈ done) : seekX x c xs ms (k + 1) := by
 obtain ⟨hs, met, e1, e2, h0, h1, h2, h3, h4⟩ := h
 exact ⟨hs, met, e1, e2, by omega, by omega, h2, mid_part h3 hd⟩
theorem round_same {hi : Int} (h0 : 0 ≤ k) (h1 : k + 1 ≤ met.length) (hm : met.length + negs hs = c.ins.length) (h : midX x c hs (met.drop (k + 1).toNat) k0 done) (hh : hi = atI hs k0 - tkX x (insAt c k0) + ptX (insAt c k0)) (hn : ¬ atI hs n < 0) (hs' : ¬ (0 ≤ atI hs n ∧ ¬ atI hs n = hi)) :
  roundX x c (hs.map T.int) (met.map T.int) k k0 hi (done ++ [n]) :=
 ⟨hs, met, rfl, rfl, h0, h1, hm, mid_same h (by omega), hh⟩
theorem round_new {hi : Int} (hR : RdyX x c) (h0 : 0 ≤ k) (h1 : k + 1 ≤ met.length) (hm : met.length + negs hs = c.ins.length) (h : midX x c hs (met.drop (k + 1).toNat) k0 done) (hh : hi = atI hs k0 - tkX x (insAt c k0) + ptX (insAt c k0)) (hnx : n ∈ nextX (insAt c k0) k0) (hn0 : 0 ≤ n) (hn1 : n < hs.length) (hn : atI hs n < 0) (h40 : hi ≤ 40)
  {xs ms : List T} (e1 : xs = (hs.map T.int).set n.toNat (T.int hi)) (e2 : ms = met.map T.int ++ [T.int n]) : roundX x c xs ms k k0 hi (done ++ [n]) := by
 have hk := h.2.2.2.2.2.1
 have hv : 0 ≤ hi := by have := ptX_nn (insAt c k0); omega
 have hne : k0 ≠ n := fun e => by rw [← e] at hn; omega
 refine ⟨hs.set n.toNat hi, met ++ [n], by rw [e1, List.map_set], by rw [e2]; simp, h0, by rw [List.length_append]; omega, ?_, ?_, ?_⟩
 ·have := negs_set (l := hs) (v := hi) hn0 hn1 hn hv
  rw [List.length_append, List.length_singleton]; omega
 ·have := mid_new h hnx hn0 hn1 hn (ptX_nn _) (by omega) hh (fun r hr => (hR.pads r hr).1)
  rw [List.drop_append_of_le_length (by omega)]
  exact this
 ·rw [atI_set hn0 hn1 hk.1, if_neg hne]; exact hh
end
theorem next_ne {i : Ins} (h : 0 < ptX i) (k : Int) : nextX i k = [k + 1] := by
 unfold ptX at h
 split at h
 ·unfold nextX
  rw [if_neg (by omega), if_neg (by omega), if_neg (by omega)]
 ·omega
theorem seek_low {x : Image} {c : Code} {hs open' : List Int} {k0 : Int} (h : partX x c hs open') (hk : k0 ∈ open') (ht : atI hs k0 < tkX x (insAt c k0)) : heiX x c = none := part_fail h hk (by omega)
theorem seek_high {x : Image} {c : Code} {hs open' : List Int} {k0 : Int} (hR : RdyX x c) (h : partX x c hs open') (hk : k0 ∈ open') (ht : tkX x (insAt c k0) ≤ atI hs k0) (h40 : 40 < atI hs k0 - tkX x (insAt c k0) + ptX (insAt c k0)) : heiX x c = none := by
 obtain ⟨b1, b2, b3⟩ := h.2.2.2.1 _ hk
 have hl := h.1.1
 have hr := h.1.2 _ (atI_in b1 b2 : atI hs k0 ∈ hs)
 have hm : insAt c k0 ∈ c.ins := by rw [insAt_at b1 (by omega)]; exact List.getElem_mem _
 have htk := hR.tk hm
 have hn := next_ne (i := insAt c k0) (by have := ptX_nn (insAt c k0); have := ptX_le (insAt c k0); omega) k0
 have hin : k0 + 1 ∈ nextX (insAt c k0) k0 := by rw [hn]; simp
 have hnn := hR.next k0 b1 (by omega) _ hin
 exact mid_fail (part_mid (open'' := open') h hk (fun k hk => hk) (fun k hk => .inr hk) ht) hin hnn.1 (by omega) (.inl h40)
theorem retHN {h : Option (List Int)} (e : h = none) : [D.own (T.list 1 []), D.t (T.v (Value.bool false))] = [D.own (T.ints (h.getD [])), D.t (T.bool h.isSome)] := by rw [e]; rfl
theorem retHS {h : Option (List Int)} {l : List Int} {l' : List T} (e : h = some l) (hl : l' = l.map T.int) : [D.own (T.list 1 l'), D.t (T.v (Value.bool true))] = [D.own (T.ints (h.getD [])), D.t (T.bool h.isSome)] := by rw [e, hl]; rfl
theorem retHNt {h : Option (List Int)} (e : h = none) : [D.t (T.list 1 []), D.t (T.v (Value.bool false))] = [D.t (T.ints (h.getD [])), D.t (T.bool h.isSome)] := by rw [e]; rfl
theorem retHSt {h : Option (List Int)} {l : List Int} {l' : List T} (e : h = some l) (hl : l' = l.map T.int) : [D.t (T.list 1 l'), D.t (T.v (Value.bool true))] = [D.t (T.ints (h.getD [])), D.t (T.bool h.isSome)] := by rw [e, hl]; rfl
theorem l5Heights_fun (im : Image) (c : Code) (hR : RdyX im c) : Fun Tryz.prog 45 [.t im.tt, .t c.tt] (tupD [.t (T.ints ((heiX im c).getD [])), .t (.bool (heiX im c).isSome)]) := by
 have hxl := hR.xl
 have hn1 := hR.n1
 have hn2 := hR.n2
 have hrl := hR.rl
 refine Fun.begin tys Tryz.func45 Z Z (N := 135) [(0, .t im.tt), (1, .t c.tt)] Z Z (fun w0 G F0 => ?_)
 refine sQ (rG (WO_box Z Z (lt_of Z) Z Z (nZ Z (WO_box Z Z (lt_of Z) Z Z (nZ Z (eK 2 Z (oN (tN (sQ (rG (eK 2 Z (evE ?_))))))))))))
 refine WO_make tys (.v (.int .i64 0)) _ Z Z (lt_of Z) Z Z Z Z Z (by repeat (first | exact AbsL.nil' | refine AbsL.v' ?_ | refine AbsL.none' ?_)) Z (by omega) (by decide) ?_
 refine nZ Z (eZ Z (kZ [2,3,4,5,6] Z (oN (tN (sQ (sQ (rG (eZ Z (evE ?_)))))))))
 refine eZ Z (oN (tN (W_block ?_)))
 refine lK (α := Int × List T) [2, 3, 6, 22, 23] [2, 3] (fun x => [(24, .t (.int (x.1)))]) (fun x => [(21, .L 1 (x.2))]) (fun x => 0 ≤ (x.1) ∧ (x.1) ≤ c.ins.length ∧ (x.2) = (List.replicate (x.1).toNat (-1 : Int) ++ List.replicate (c.ins.length - (x.1).toNat) 0).map T.int) (fun x => Int.toNat (c.ins.length - (x.1))) (0, List.replicate c.ins.length (T.int 0)) ?_ (fun x hx => ?_)
 ·exact ⟨by omega, by omega, by simp⟩
 obtain ⟨k, xs⟩ := x
 obtain ⟨hk0, hk1, hxs⟩ := hx
 try dsimp only at hk0 hk1 hxs ⊢
 refine nY Z (sQ (rG (eZ Z (oN (tN (sQ ?_))))))
 refine W_cond Z (fun h1 => ?_) (fun h1 => ?_)
 ·
  try simp only [HS] at h1
  refine W_skip (tN (sQ (W_block (sQ (rG (eK 2 Z (oN (tN (rG ?_)))))))))
  have hxl2 : xs.length = c.ins.length := by rw [hxs, List.length_map, List.length_append, List.length_replicate, List.length_replicate]; omega
  refine eK 2 Z ?_
  first | refine WO_idxT tys rfl rfl (lt_of rfl) rfl rfl rfl rfl rfl rfl rfl (by omega) _ (getT _ _ (by omega) (by omega)) ?_ | refine WO_idxS tys rfl rfl (lt_of rfl) rfl rfl rfl rfl rfl rfl rfl rfl (by omega) (by omega) ?_
  refine WO_storeE tys (T.int (-1)) Z Z Z Z Z Z (Nat.zero_add _) (by omega) Z (by repeat (first | exact AbsL.nil' | refine AbsL.v' ?_ | refine AbsL.own' ?_)) Z Z Z ?_
  refine nZ Z (nZ Z (oN (bN (tN (kY [2,3,6,7,22,23,24,25,26,27,28,29] Z (rG (evI ?_)))))))
  refine eZ Z (oN ?_)
  refine lQ (_, _) ?_ ?_
  ·try dsimp only
   refine ⟨by omega, by omega, ?_⟩
   rw [hxs, ← List.map_set, List.set_append_right _ _ (by rw [List.length_replicate]; exact Nat.le_refl _), List.length_replicate, Nat.sub_self, show c.ins.length - k.toNat = (c.ins.length - (k + 1).toNat) + 1 from by omega, List.replicate_succ, List.set_cons_zero, show (k + 1).toNat = k.toNat + 1 from by omega, List.replicate_succ', List.append_assoc]
   rfl
  ·(show Int.toNat _ < Int.toNat _); omega
 try simp only [HS] at h1
 refine W_exit (tE (loopQ_e (inBlk_y (tN (sQ (rG ?_))))))
 have hxl2 : xs.length = c.ins.length := by rw [hxs, List.length_map, List.length_append, List.length_replicate, List.length_replicate]; omega
 have hxe : xs = (List.replicate c.ins.length (-1 : Int)).map T.int := by rw [hxs, show k.toNat = c.ins.length from by omega]; simp
 refine eZ Z ?_
 first | refine WO_idxT tys rfl rfl (lt_of rfl) rfl rfl rfl rfl rfl rfl rfl (by omega) _ (getT _ _ (by omega) (by omega)) ?_ | refine WO_idxS tys rfl rfl (lt_of rfl) rfl rfl rfl rfl rfl rfl rfl rfl (by omega) (by omega) ?_
 refine WO_storeE tys (T.int 0) Z Z Z Z Z Z (Nat.zero_add _) (by omega) Z (by repeat (first | exact AbsL.nil' | refine AbsL.v' ?_ | refine AbsL.own' ?_)) Z Z Z ?_
 refine nZ Z (nZ Z (oN (tN (sQ (rG ?_)))))
 refine WO_buildSlice tys [T.int 0] Z Z (lt_of Z) Z Z Z Z Z (lt_of Z) (by repeat (first | exact PartsOk.nil' | refine PartsOk.cons' rfl (by repeat (first | exact AbsL.nil' | refine AbsL.v' ?_ | refine AbsL.own' ?_ | refine AbsL.none' ?_)) Z ?_)) (by first | exact List.nodup_nil | exact nodup1 _ | decide | exact nodupB_sound Z) Z (by decide) ?_
 refine nZ Z (eZ Z (oN (tN (sQ (sQ (rG (eK 2 Z (evE ?_))))))))
 refine kZ [2,3,6,8,35,36] Z (eZ Z (oN (tN (W_block ?_))))
 refine lK (α := Int × Nat × List T × List T) [2, 3, 6, 35, 36] [2, 3] (fun x => [(37, .t (.int (x.1))), (8, .sl 33 0 (x.2.1))]) (fun x => [(21, .L 1 (x.2.2.1)), (33, .L 1 (x.2.2.2))]) (fun x => 0 ≤ (x.1) ∧ (x.1) ≤ c.rows.length ∧ (x.2.1) = (x.2.2.2).length ∧ ∃ hs met : List Int, (x.2.2.1) = hs.map T.int ∧ (x.2.2.2) = met.map T.int ∧ begX c hs met (x.1).toNat) (fun x => Int.toNat (c.rows.length - (x.1))) (0, 1, xs.set 0 (T.int 0), [T.int 0]) ?_ (fun x hx => ?_)
 ·exact ⟨by omega, by omega, rfl, _, _, by rw [hxe, ← List.map_set], rfl, begX_start hn1⟩
 obtain ⟨k, m, xs, ms⟩ := x
 obtain ⟨hk0, hk1, hm, hs, met, hxs, hms, hb⟩ := hx
 try dsimp only at hk0 hk1 hm hs hxs hms hb ⊢
 subst hxs hms hm
 refine nY Z (sQ (rG (eZ Z (oN (tN (sQ ?_))))))
 refine W_cond Z (fun h2 => ?_) (fun h2 => ?_)
 ·
  try simp only [HS] at h2
  refine W_skip (tN (sQ (W_block (sQ (rG ?_)))))
  have hrm := List.getElem_mem (l := c.rows) (n := k.toNat) (by omega)
  have hpd := hR.pads _ hrm
  have hsl := hb.1
  have hml : (met.map T.int).length = met.length := List.length_map _
  have hmn := hb.2.2.2.2.2.2
  have eP : atI hs (c.rows[k.toNat]'(by omega)).pad = hs[(c.rows[k.toNat]'(by omega)).pad.toNat]'(by omega) := atI_at hpd.1 (by omega)
  first | refine WO_idxT tys rfl rfl (lt_of rfl) rfl rfl rfl rfl rfl rfl rfl (by omega) _ (getT _ _ (by omega) (by omega)) ?_ | refine WO_idxS tys rfl rfl (lt_of rfl) rfl rfl rfl rfl rfl rfl rfl rfl (by omega) (by omega) ?_
  first | (refine ev ?_; try refine WO_le (Le.freeze (u := 40) rfl) ?_) | refine WO_loadL tys rfl rfl (lt_of rfl) rfl rfl rfl rfl (getT _ _ (by omega) (by omega)) rfl ?_ | refine WO_loadL tys rfl rfl (lt_of rfl) rfl rfl rfl rfl (getT0 _ _ (by omega) (by omega)) rfl ?_
  refine nZ Z (WO_alloc tys Z Z (lt_of Z) Z Z Z (nZ Z (sT Z (nZ Z (oN (tN (sQ (sQ (rG (eK 3 Z ?_))))))))))
  first | refine WO_idxT tys rfl rfl (lt_of rfl) rfl rfl rfl rfl rfl rfl rfl (by omega) _ (getT _ _ (by omega) (by omega)) ?_ | refine WO_idxS tys rfl rfl (lt_of rfl) rfl rfl rfl rfl rfl rfl rfl rfl (by omega) (by omega) ?_
  refine kZ [2,3,6,8,10,35,36,37,38,39,40,41,42,43,44] Z ?_
  first | refine ev ?_ | refine WO_loadL tys rfl rfl (lt_of rfl) rfl rfl rfl rfl (getT _ _ (by omega) (by omega)) rfl ?_ | refine WO_loadL tys rfl rfl (lt_of rfl) rfl rfl rfl rfl (getT0 _ _ (by omega) (by omega)) rfl ?_
  refine eZ Z (oN (tN ?_))
  refine W_cond Z (fun h3 => ?_) (fun h3 => ?_)
  ·
   try simp only [HS] at h3
   refine rG (eK 3 Z ?_)
   refine WO_buildSlice tys [T.int (c.rows[k.toNat]'(by omega)).pad] Z Z (lt_of Z) Z Z Z Z Z (lt_of Z) (by repeat (first | exact PartsOk.nil' | refine PartsOk.cons' rfl (by repeat (first | exact AbsL.nil' | refine AbsL.v' ?_ | refine AbsL.own' ?_ | refine AbsL.none' ?_)) Z ?_)) (by first | exact List.nodup_nil | exact nodup1 _ | decide | exact nodupB_sound Z) Z (by decide) ?_
   refine nZ Z ?_
   first | refine WO_append tys rfl rfl (lt_of rfl) rfl rfl rfl rfl rfl (.own rfl (by first | omega | (simp only [List.length_append]; omega))) rfl (.own rfl (by first | decide | omega)) (by decide) (by simp; omega) (by decide) rfl ?_ | refine WO_append tys rfl rfl (lt_of rfl) rfl rfl rfl rfl rfl .nil rfl (.own rfl (by first | decide | omega)) (by decide) (by simp; omega) (by decide) rfl ?_
   refine nZ Z (eZ Z (oN (tN (kY [2,3,6,8,10,35,36,37,38,39,40,41,42,43,44,45,46,47,48,49,50,51] Z (rG (eK 3 Z ?_))))))
   first | refine WO_idxT tys rfl rfl (lt_of rfl) rfl rfl rfl rfl rfl rfl rfl (by omega) _ (getT _ _ (by omega) (by omega)) ?_ | refine WO_idxS tys rfl rfl (lt_of rfl) rfl rfl rfl rfl rfl rfl rfl rfl (by omega) (by omega) ?_
   refine WO_storeE tys (T.int 0) Z Z Z Z Z Z (Nat.zero_add _) (by rw [List.length_map]; omega) Z (by repeat (first | exact AbsL.nil' | refine AbsL.v' ?_ | refine AbsL.own' ?_)) Z Z Z ?_
   refine nZ Z (nZ Z (oN (bN (tN (rG (evI ?_))))))
   refine eZ Z (oN ?_)
   refine lQ (_, _, _, _) ?_ ?_
   ·try dsimp only
    first
    | exact ⟨by omega, by omega, by simp, beg_new hb hk0 (by omega) hpd.1 hpd.2 (by rw [eP]; assumption) rfl (by simp only [List.take_length])⟩
    | exact ⟨by omega, by omega, rfl, beg_same hb hk0 (by omega) hpd.1 hpd.2 (by rw [eP]; omega) rfl⟩
   ·(show Int.toNat _ < Int.toNat _); omega
  try simp only [HS] at h3
  refine W_skip (tN (rG (eK 3 Z ?_)))
  first | refine WO_idxT tys rfl rfl (lt_of rfl) rfl rfl rfl rfl rfl rfl rfl (by omega) _ (getT _ _ (by omega) (by omega)) ?_ | refine WO_idxS tys rfl rfl (lt_of rfl) rfl rfl rfl rfl rfl rfl rfl rfl (by omega) (by omega) ?_
  refine WO_storeE tys (T.int 0) Z Z Z Z Z Z (Nat.zero_add _) (by rw [List.length_map]; omega) Z (by repeat (first | exact AbsL.nil' | refine AbsL.v' ?_ | refine AbsL.own' ?_)) Z Z Z ?_
  refine nZ Z (nZ Z (oN (bN (tN (kY [2,3,6,8,10,35,36,37,38,39,40,41,42,43,44,45,46,52,53,54,55] Z (rG (evI ?_)))))))
  refine eZ Z (oN ?_)
  refine lQ (_, _, _, _) ?_ ?_
  ·try dsimp only
   first
   | exact ⟨by omega, by omega, by simp, beg_new hb hk0 (by omega) hpd.1 hpd.2 (by rw [eP]; assumption) rfl (by simp only [List.take_length])⟩
   | exact ⟨by omega, by omega, rfl, beg_same hb hk0 (by omega) hpd.1 hpd.2 (by rw [eP]; omega) rfl⟩
  ·(show Int.toNat _ < Int.toNat _); omega
 try simp only [HS] at h2
 refine W_exit (tE (loopQ_e (inBlk_y (tN (sQ (sQ (rG (eZ Z (oN (tN (W_block ?_)))))))))))
 refine lK (α := Int × Nat × List T × List T) [2, 3, 6] [2, 3] (fun x => [(11, .t (.int (x.1))), (8, .sl 33 0 (x.2.1))]) (fun x => [(21, .L 1 (x.2.2.1)), (33, .L 1 (x.2.2.2))]) (fun x => (x.2.1) = (x.2.2.2).length ∧ seekX im c (x.2.2.1) (x.2.2.2) (x.1)) (fun x => Int.toNat (c.ins.length - (x.1))) (0, (met.map T.int).length, hs.map T.int, met.map T.int) ?_ (fun x hx => ?_)
 ·exact ⟨rfl, hs, met, rfl, rfl, by omega, by omega, hb.2.2.2.2.2.2, begX_part (by rw [show k.toNat = c.rows.length from by omega] at hb; exact hb)⟩
 obtain ⟨k, m, xs, ms⟩ := x
 obtain ⟨hm, hs, met, hxs, hms, hk0, hk1, hmn, hpa⟩ := hx
 try dsimp only at hm hs hxs hms hk0 hk1 hmn hpa ⊢
 subst hxs hms hm
 refine nY Z (sQ (sQ (rG (eK 2 Z (evE ?_)))))
 refine eZ Z (oN (tN ?_))
 refine W_cond Z (fun h3 => ?_) (fun h3 => ?_)
 ·
  try simp only [HS] at h3
  refine W_skip (tN (sQ (W_block (sQ (rG ?_)))))
  have hml : (met.map T.int).length = met.length := List.length_map _
  have hkm : k.toNat < met.length := by omega
  have hop : (met[k.toNat]'hkm) ∈ met.drop k.toNat := by rw [drop_at hk0 (by omega)]; simp
  obtain ⟨hq0, hq1, hq2⟩ := hpa.2.2.2.1 _ hop
  have hsl : hs.length = c.ins.length := hpa.1.1
  have hqi : (met[k.toNat]'hkm).toNat < c.ins.length := by omega
  have hqs : (met[k.toNat]'hkm).toNat < hs.length := by omega
  have hIn := List.getElem_mem hqi
  have hrng := hpa.1.2 _ (List.getElem_mem hqs)
  have htk := hR.tk hIn
  have hpt := ptX_nn (c.ins[(met[k.toNat]'hkm).toNat]'hqi)
  have hpt2 := ptX_le (c.ins[(met[k.toNat]'hkm).toNat]'hqi)
  have eA : atI hs (met[k.toNat]'hkm) = hs[(met[k.toNat]'hkm).toNat]'hqs := atI_at hq0 (by omega)
  have eI : insAt c (met[k.toNat]'hkm) = c.ins[(met[k.toNat]'hkm).toNat]'hqi := insAt_at hq0 (by omega)
  have hnx2 : (nextX (c.ins[(met[k.toNat]'hkm).toNat]'hqi) (met[k.toNat]'hkm)).length ≤ 2 := nextX_len _ _
  refine eK 2 Z ?_
  first | refine WO_idxT tys rfl rfl (lt_of rfl) rfl rfl rfl rfl rfl rfl rfl (by omega) _ (getT _ _ (by omega) (by omega)) ?_ | refine WO_idxS tys rfl rfl (lt_of rfl) rfl rfl rfl rfl rfl rfl rfl rfl (by omega) (by omega) ?_
  first | refine ev ?_ | refine WO_loadL tys rfl rfl (lt_of rfl) rfl rfl rfl rfl (getT _ _ (by omega) (by omega)) rfl ?_ | refine WO_loadL tys rfl rfl (lt_of rfl) rfl rfl rfl rfl (getT0 _ _ (by omega) (by omega)) rfl ?_
  refine eZ Z (kZ [2,3,6,8,11,12,57,58,59,60,63,64,65,66] Z (oN (tN (sQ ?_))))
  generalize hKe : met[k.toNat]'hkm = K at *
  refine W_regionD mixed (by kernel_rfl) ?_
  first | refine QL_evZ tys rfl rfl (lt_of rfl) rfl rfl ?_ | refine evQ ?_ | refine WO_loadMove tys rfl rfl (lt_of rfl) rfl rfl rfl rfl rfl rfl ?_
  refine evQ ?_
  refine evQ ?_
  refine evQ ?_
  first | refine QL_idxT tys rfl rfl (lt_of rfl) rfl rfl rfl rfl rfl rfl rfl (by omega) _ (getT _ _ (by omega) (by omega)) ?_ | refine QL_idxS tys rfl rfl (lt_of rfl) rfl rfl rfl rfl rfl rfl rfl rfl (by omega) (by omega) ?_
  first | refine QL_evZ tys rfl rfl (lt_of rfl) rfl rfl ?_ | refine evQ ?_ | refine QL_loadL tys rfl rfl (lt_of rfl) rfl rfl rfl rfl (getT _ _ (by omega) (by omega)) rfl ?_ | refine QL_loadL tys rfl rfl (lt_of rfl) rfl rfl rfl rfl (getT0 _ _ (by omega) (by omega)) rfl ?_
  refine QL_norm Z ?_
  generalize hIe : c.ins[K.toNat]'hqi = I at *
  refine callBQ ?_
  refine ⟨_, l5Takes_fun im _ (by omega) (hR.call _ hIn), rfl, ?_⟩
  refine evQ ?_
  refine evQ ?_
  refine evQ ?_
  refine evQ ?_
  refine evQ ?_
  refine QL_norm Z (QL_nil (tN (sQ (rG (eK 2 Z ?_)))))
  first | refine WO_idxT tys rfl rfl (lt_of rfl) rfl rfl rfl rfl rfl rfl rfl (by omega) _ (getT _ _ (by omega) (by omega)) ?_ | refine WO_idxS tys rfl rfl (lt_of rfl) rfl rfl rfl rfl rfl rfl rfl rfl (by omega) (by omega) ?_
  first | refine ev ?_ | refine WO_loadL tys rfl rfl (lt_of rfl) rfl rfl rfl rfl (getT _ _ (by omega) (by omega)) rfl ?_ | refine WO_loadL tys rfl rfl (lt_of rfl) rfl rfl rfl rfl (getT0 _ _ (by omega) (by omega)) rfl ?_
  refine eZ Z ?_
  generalize hHe : hs[K.toNat]'hqs = HV at *
  refine evI ?_
  refine eZ Z (evI ?_)
  refine eZ Z (kZ [2,3,6,8,11,12,13,14,15,57,58,59,60,63,64,65,66,67,68,69,70,71,72,73,74,75,76,77,78,79,80,81,82,83,84] Z (oN (tN (sQ (sQ (rG (eK 2 Z ?_)))))))
  first | refine WO_idxT tys rfl rfl (lt_of rfl) rfl rfl rfl rfl rfl rfl rfl (by omega) _ (getT _ _ (by omega) (by omega)) ?_ | refine WO_idxS tys rfl rfl (lt_of rfl) rfl rfl rfl rfl rfl rfl rfl rfl (by omega) (by omega) ?_
  first | refine ev ?_ | refine WO_loadL tys rfl rfl (lt_of rfl) rfl rfl rfl rfl (getT _ _ (by omega) (by omega)) rfl ?_ | refine WO_loadL tys rfl rfl (lt_of rfl) rfl rfl rfl rfl (getT0 _ _ (by omega) (by omega)) rfl ?_
  rw [hHe]
  refine eK 3 Z ?_
  refine WO_guard Z Z Z Z (lt_of Z) (fun h4 => ?_) (fun h4 => ?_)
  rotate_left
  ·
   try simp only [HS] at h4
   refine gM Z (eZ Z (kZ [2,3,6,8,11,12,13,14,15,57,58,59,60,63,64,65,66,67,68,69,70,71,72,73,74,75,76,77,78,79,80,81,82,83,84,85,86,87,88,89,90,91,92,93,94] Z (oN (tN (W_condT Z (sQ (rG (eK 2 Z (oN (tN ?_))))))))))
   first | refine W_le (Le.nilT (u := 4) 1 rfl) ?_ | (refine W_le (Le.gather (u := 4) (id := 21) rfl rfl (by rw [List.length_map, hpa.1.1]; exact Nat.le_refl _)) ?_; refine W_norm rfl ?_; refine W_le (Le.freeze (u := 4) rfl) ?_)
   refine rT (tR (bR (tR (loopQ_r (bR (tR (eR ?_)))))))
   ·first
    | exact retHNt (seek_low hpa hop (by rw [eA, eI]; assumption))
    | exact retHNt (seek_high hR hpa hop (by rw [eA, eI]; assumption) (by rw [eA, eI]; assumption))
    | exact retHNt (mid_fail hmi hNm hnn.1 (by omega) (.inr ⟨by rw [eN]; assumption, by rw [eN, ← hhi]; assumption⟩))
    | exact retHSt (part_end hpa (List.drop_eq_nil_of_le (by omega))) (List.take_of_length_le (by rw [List.length_map, hpa.1.1]; exact Nat.le_refl _))
  try simp only [HS] at h4
  refine eZ Z (gY Z (eZ Z (kZ [2,3,6,8,11,12,13,14,15,57,58,59,60,63,64,65,66,67,68,69,70,71,72,73,74,75,76,77,78,79,80,81,82,83,84,85,86,87,88,89,90,91,92,93] Z (eZ Z (oN (tN ?_))))))
  refine W_cond Z (fun h5 => ?_) (fun h5 => ?_)
  ·
   try simp only [HS] at h5
   refine sQ (rG (eK 2 Z (oN (tN ?_))))
   first | refine W_le (Le.nilT (u := 4) 1 rfl) ?_ | (refine W_le (Le.gather (u := 4) (id := 21) rfl rfl (by rw [List.length_map, hpa.1.1]; exact Nat.le_refl _)) ?_; refine W_norm rfl ?_; refine W_le (Le.freeze (u := 4) rfl) ?_)
   refine rT (tR (bR (tR (loopQ_r (bR (tR (eR ?_)))))))
   ·first
    | exact retHNt (seek_low hpa hop (by rw [eA, eI]; assumption))
    | exact retHNt (seek_high hR hpa hop (by rw [eA, eI]; assumption) (by rw [eA, eI]; assumption))
    | exact retHNt (mid_fail hmi hNm hnn.1 (by omega) (.inr ⟨by rw [eN]; assumption, by rw [eN, ← hhi]; assumption⟩))
    | exact retHSt (part_end hpa (List.drop_eq_nil_of_le (by omega))) (List.take_of_length_le (by rw [List.length_map, hpa.1.1]; exact Nat.le_refl _))
  try simp only [HS] at h5
  refine W_skip (tN (sQ (rG (eK 3 Z ?_))))
  first | refine WO_idxT tys rfl rfl (lt_of rfl) rfl rfl rfl rfl rfl rfl rfl (by omega) _ (getT _ _ (by omega) (by omega)) ?_ | refine WO_idxS tys rfl rfl (lt_of rfl) rfl rfl rfl rfl rfl rfl rfl rfl (by omega) (by omega) ?_
  first | (refine ev ?_; try refine WO_le (Le.freeze (u := 99) rfl) ?_) | refine WO_loadL tys rfl rfl (lt_of rfl) rfl rfl rfl rfl (getT _ _ (by omega) (by omega)) rfl ?_ | refine WO_loadL tys rfl rfl (lt_of rfl) rfl rfl rfl rfl (getT0 _ _ (by omega) (by omega)) rfl ?_
  refine nZ Z ?_
  rw [hIe]
  refine eZ Z (WO_callF Z Z (lt_of Z) Z Z Z Z Z (l5Next_fun _ _ (by omega)) Z (evE ?_))
  refine kZ [2,3,6,8,11,12,13,14,15,57,58,59,60,63,64,65,66,67,68,69,70,71,72,73,74,75,76,77,78,79,80,81,82,83,84,85,86,87,88,89,90,91,92,93,94,95,96,97,98,99,100,101,102] Z (eZ Z (oN (tN (W_block ?_))))
  refine lK (α := Int × Nat × List T × List T) [2, 3, 6, 11, 12, 15, 101, 102] [2, 3] (fun x => [(103, .t (.int (x.1))), (8, .sl 33 0 (x.2.1))]) (fun x => [(21, .L 1 (x.2.2.1)), (33, .L 1 (x.2.2.2))]) (fun x => 0 ≤ (x.1) ∧ (x.1) ≤ (nextX I K).length ∧ (x.2.1) = (x.2.2.2).length ∧ roundX im c (x.2.2.1) (x.2.2.2) k K (HV - tkX im I + ptX I) ((nextX I K).take (x.1).toNat)) (fun x => Int.toNat ((nextX I K).length - (x.1))) (0, (met.map T.int).length, hs.map T.int, met.map T.int) ?_ (fun x hx => ?_)
  ·exact ⟨by omega, by omega, rfl, seek_start hk0 (by omega) hmn hpa hKe.symm (by rw [eA, eI]; omega) (by rw [eA, eI])⟩
  obtain ⟨j, m, xs, ms⟩ := x
  obtain ⟨hj0, hj1, hm, hs2, met2, hxs, hms, hk2, hk3, hmn2, hmi, hhi⟩ := hx
  try dsimp only at hj0 hj1 hm hs2 hxs hms hk2 hk3 hmn2 hmi hhi ⊢
  subst hxs hms hm
  refine nY Z (sQ (rG (eZ Z (oN (tN (sQ ?_))))))
  refine W_cond Z (fun h6 => ?_) (fun h6 => ?_)
  ·
   try simp only [HS] at h6
   refine W_skip (tN (sQ (W_block (sQ (rG ?_)))))
   have hjl : j.toNat < (nextX I K).length := by omega
   have hNm : (nextX I K)[j.toNat]'hjl ∈ nextX (insAt c K) K := by rw [eI]; exact List.getElem_mem hjl
   have hnn := hR.next K hq0 (by omega) _ hNm
   have hs2l : hs2.length = c.ins.length := hmi.1.1
   have hnl : ((nextX I K)[j.toNat]'hjl).toNat < hs2.length := by omega
   have eN : atI hs2 ((nextX I K)[j.toNat]'hjl) = hs2[((nextX I K)[j.toNat]'hjl).toNat]'hnl := atI_at hnn.1 (by omega)
   have hml2 : (met2.map T.int).length = met2.length := List.length_map _
   first | refine WO_idxT tys rfl rfl (lt_of rfl) rfl rfl rfl rfl rfl rfl rfl (by omega) _ (getT _ _ (by omega) (by omega)) ?_ | refine WO_idxS tys rfl rfl (lt_of rfl) rfl rfl rfl rfl rfl rfl rfl rfl (by omega) (by omega) ?_
   first | refine ev ?_ | refine WO_loadL tys rfl rfl (lt_of rfl) rfl rfl rfl rfl (getT _ _ (by omega) (by omega)) rfl ?_ | refine WO_loadL tys rfl rfl (lt_of rfl) rfl rfl rfl rfl (getT0 _ _ (by omega) (by omega)) rfl ?_
   refine eZ Z (oN (tN (sQ (sQ (rG (eK 2 Z ?_))))))
   first | refine WO_idxT tys rfl rfl (lt_of rfl) rfl rfl rfl rfl rfl rfl rfl (by omega) _ (getT _ _ (by omega) (by omega)) ?_ | refine WO_idxS tys rfl rfl (lt_of rfl) rfl rfl rfl rfl rfl rfl rfl rfl (by omega) (by omega) ?_
   first | refine ev ?_ | refine WO_loadL tys rfl rfl (lt_of rfl) rfl rfl rfl rfl (getT _ _ (by omega) (by omega)) rfl ?_ | refine WO_loadL tys rfl rfl (lt_of rfl) rfl rfl rfl rfl (getT0 _ _ (by omega) (by omega)) rfl ?_
   refine eZ Z (kZ [2,3,6,8,11,12,15,17,101,102,103,104,105,106,107,108,109,110,111] Z (eZ Z ?_))
   refine WO_guard Z Z Z Z (lt_of Z) (fun h7 => ?_) (fun h7 => ?_)
   rotate_left
   ·
    try simp only [HS] at h7
    refine gM Z (gM Z (gM Z (gM Z (gM Z (eZ Z (oN (tN (W_condF Z (W_skip (tN (sQ (kY [2,3,6,8,11,12,15,17,101,102,103,104,105,106,107,108,109,110,111,112,113,114,115,116,117,118,119] Z (rG (eK 2 Z ?_))))))))))))))
    first | refine WO_idxT tys rfl rfl (lt_of rfl) rfl rfl rfl rfl rfl rfl rfl (by omega) _ (getT _ _ (by omega) (by omega)) ?_ | refine WO_idxS tys rfl rfl (lt_of rfl) rfl rfl rfl rfl rfl rfl rfl rfl (by omega) (by omega) ?_
    first | refine ev ?_ | refine WO_loadL tys rfl rfl (lt_of rfl) rfl rfl rfl rfl (getT _ _ (by omega) (by omega)) rfl ?_ | refine WO_loadL tys rfl rfl (lt_of rfl) rfl rfl rfl rfl (getT0 _ _ (by omega) (by omega)) rfl ?_
    refine eZ Z (oN (tN ?_))
    refine W_cond Z (fun h8 => ?_) (fun h8 => ?_)
    ·
     try simp only [HS] at h8
     refine sQ (rG (eK 2 Z ?_))
     refine WO_buildSlice tys [T.int ((nextX I K)[j.toNat]'hjl)] Z Z (lt_of Z) Z Z Z Z Z (lt_of Z) (by repeat (first | exact PartsOk.nil' | refine PartsOk.cons' rfl (by repeat (first | exact AbsL.nil' | refine AbsL.v' ?_ | refine AbsL.own' ?_ | refine AbsL.none' ?_)) Z ?_)) (by first | exact List.nodup_nil | exact nodup1 _ | decide | exact nodupB_sound Z) Z (by decide) ?_
     refine nZ Z ?_
     first | refine WO_append tys rfl rfl (lt_of rfl) rfl rfl rfl rfl rfl (.own rfl (by first | omega | (simp only [List.length_append]; omega))) rfl (.own rfl (by first | decide | omega)) (by decide) (by simp; omega) (by decide) rfl ?_ | refine WO_append tys rfl rfl (lt_of rfl) rfl rfl rfl rfl rfl .nil rfl (.own rfl (by first | decide | omega)) (by decide) (by simp; omega) (by decide) rfl ?_
     refine nZ Z (kZ [2,3,6,8,11,12,15,17,101,102,103,104,105,106,107,108,109,110,111,112,113,114,115,116,117,118,119,120,121,122,123,124,125,126,127,128] Z (eZ Z (oN (tN (rG (eK 3 Z ?_))))))
     first | refine WO_idxT tys rfl rfl (lt_of rfl) rfl rfl rfl rfl rfl rfl rfl (by omega) _ (getT _ _ (by omega) (by omega)) ?_ | refine WO_idxS tys rfl rfl (lt_of rfl) rfl rfl rfl rfl rfl rfl rfl rfl (by omega) (by omega) ?_
     refine WO_storeE tys (T.int (HV - tkX im I + ptX I)) Z Z Z Z Z Z (Nat.zero_add _) (by rw [List.length_map]; omega) Z (by repeat (first | exact AbsL.nil' | refine AbsL.v' ?_ | refine AbsL.own' ?_)) Z Z Z ?_
     refine nZ Z (nZ Z (oN (bN (tN (rG (evI ?_))))))
     refine eZ Z (oN ?_)
     refine lQ (_, _, _, _) ?_ ?_
     ·try dsimp only
      first
      | exact ⟨by omega, by omega, rfl, by rw [take_at hj0 (by omega)]; exact round_same hk2 hk3 hmn2 hmi hhi (by rw [eN]; omega) (by rw [eN]; omega)⟩
      | exact ⟨by omega, by omega, by simp, by rw [take_at hj0 (by omega)]; exact round_new hR hk2 hk3 hmn2 hmi hhi hNm hnn.1 (by omega) (by rw [eN]; omega) (by omega) rfl (by simp only [List.take_length])⟩
     ·(show Int.toNat _ < Int.toNat _); omega
    try simp only [HS] at h8
    refine W_skip (bN (tN (rG (evI ?_))))
    refine eZ Z (oN ?_)
    refine lQ (_, _, _, _) ?_ ?_
    ·try dsimp only
     first
     | exact ⟨by omega, by omega, rfl, by rw [take_at hj0 (by omega)]; exact round_same hk2 hk3 hmn2 hmi hhi (by rw [eN]; omega) (by rw [eN]; omega)⟩
     | exact ⟨by omega, by omega, by simp, by rw [take_at hj0 (by omega)]; exact round_new hR hk2 hk3 hmn2 hmi hhi hNm hnn.1 (by omega) (by rw [eN]; omega) (by omega) rfl (by simp only [List.take_length])⟩
    ·(show Int.toNat _ < Int.toNat _); omega
   try simp only [HS] at h7
   refine eZ Z (gY Z (eZ Z (gY Z ?_)))
   first | refine WO_idxT tys rfl rfl (lt_of rfl) rfl rfl rfl rfl rfl rfl rfl (by omega) _ (getT _ _ (by omega) (by omega)) ?_ | refine WO_idxS tys rfl rfl (lt_of rfl) rfl rfl rfl rfl rfl rfl rfl rfl (by omega) (by omega) ?_
   refine gY Z ?_
   first | refine ev ?_ | refine WO_loadL tys rfl rfl (lt_of rfl) rfl rfl rfl rfl (getT _ _ (by omega) (by omega)) rfl ?_ | refine WO_loadL tys rfl rfl (lt_of rfl) rfl rfl rfl rfl (getT0 _ _ (by omega) (by omega)) rfl ?_
   refine gY Z (eZ Z (gY Z (eK 2 Z (oN (tN ?_)))))
   refine W_cond Z (fun h8 => ?_) (fun h8 => ?_)
   ·
    try simp only [HS] at h8
    refine sQ (kY [2,3,6,8,11,12,15,17,101,102,103,104,105,106,107,108,109,110,111,112,113,114,115,116,117,118,119] Z (rG (eK 2 Z (oN (tN ?_)))))
    first | refine W_le (Le.nilT (u := 4) 1 rfl) ?_ | (refine W_le (Le.gather (u := 4) (id := 21) rfl rfl (by rw [List.length_map, hpa.1.1]; exact Nat.le_refl _)) ?_; refine W_norm rfl ?_; refine W_le (Le.freeze (u := 4) rfl) ?_)
    refine rT (tR (bR (tR (loopQ_r (bR (bR (tR (loopQ_r (bR (tR (eR ?_)))))))))))
    ·first
     | exact retHNt (seek_low hpa hop (by rw [eA, eI]; assumption))
     | exact retHNt (seek_high hR hpa hop (by rw [eA, eI]; assumption) (by rw [eA, eI]; assumption))
     | exact retHNt (mid_fail hmi hNm hnn.1 (by omega) (.inr ⟨by rw [eN]; assumption, by rw [eN, ← hhi]; assumption⟩))
     | exact retHSt (part_end hpa (List.drop_eq_nil_of_le (by omega))) (List.take_of_length_le (by rw [List.length_map, hpa.1.1]; exact Nat.le_refl _))
   try simp only [HS] at h8
   refine W_skip (tN (sQ (kY [2,3,6,8,11,12,15,17,101,102,103,104,105,106,107,108,109,110,111,112,113,114,115,116,117,118,119] Z (rG (eK 2 Z ?_)))))
   first | refine WO_idxT tys rfl rfl (lt_of rfl) rfl rfl rfl rfl rfl rfl rfl (by omega) _ (getT _ _ (by omega) (by omega)) ?_ | refine WO_idxS tys rfl rfl (lt_of rfl) rfl rfl rfl rfl rfl rfl rfl rfl (by omega) (by omega) ?_
   first | refine ev ?_ | refine WO_loadL tys rfl rfl (lt_of rfl) rfl rfl rfl rfl (getT _ _ (by omega) (by omega)) rfl ?_ | refine WO_loadL tys rfl rfl (lt_of rfl) rfl rfl rfl rfl (getT0 _ _ (by omega) (by omega)) rfl ?_
   refine eZ Z (oN (tN ?_))
   refine W_cond Z (fun h9 => ?_) (fun h9 => ?_)
   ·
    try simp only [HS] at h9
    refine sQ (rG (eK 2 Z ?_))
    refine WO_buildSlice tys [T.int ((nextX I K)[j.toNat]'hjl)] Z Z (lt_of Z) Z Z Z Z Z (lt_of Z) (by repeat (first | exact PartsOk.nil' | refine PartsOk.cons' rfl (by repeat (first | exact AbsL.nil' | refine AbsL.v' ?_ | refine AbsL.own' ?_ | refine AbsL.none' ?_)) Z ?_)) (by first | exact List.nodup_nil | exact nodup1 _ | decide | exact nodupB_sound Z) Z (by decide) ?_
    refine nZ Z ?_
    first | refine WO_append tys rfl rfl (lt_of rfl) rfl rfl rfl rfl rfl (.own rfl (by first | omega | (simp only [List.length_append]; omega))) rfl (.own rfl (by first | decide | omega)) (by decide) (by simp; omega) (by decide) rfl ?_ | refine WO_append tys rfl rfl (lt_of rfl) rfl rfl rfl rfl rfl .nil rfl (.own rfl (by first | decide | omega)) (by decide) (by simp; omega) (by decide) rfl ?_
    refine nZ Z (kZ [2,3,6,8,11,12,15,17,101,102,103,104,105,106,107,108,109,110,111,112,113,114,115,116,117,118,119,120,121,122,123,124,125,126,127,128] Z (eZ Z (oN (tN (rG (eK 3 Z ?_))))))
    first | refine WO_idxT tys rfl rfl (lt_of rfl) rfl rfl rfl rfl rfl rfl rfl (by omega) _ (getT _ _ (by omega) (by omega)) ?_ | refine WO_idxS tys rfl rfl (lt_of rfl) rfl rfl rfl rfl rfl rfl rfl rfl (by omega) (by omega) ?_
    refine WO_storeE tys (T.int (HV - tkX im I + ptX I)) Z Z Z Z Z Z (Nat.zero_add _) (by rw [List.length_map]; omega) Z (by repeat (first | exact AbsL.nil' | refine AbsL.v' ?_ | refine AbsL.own' ?_)) Z Z Z ?_
    refine nZ Z (nZ Z (oN (bN (tN (rG (evI ?_))))))
    refine eZ Z (oN ?_)
    refine lQ (_, _, _, _) ?_ ?_
    ·try dsimp only
     first
     | exact ⟨by omega, by omega, rfl, by rw [take_at hj0 (by omega)]; exact round_same hk2 hk3 hmn2 hmi hhi (by rw [eN]; omega) (by rw [eN]; omega)⟩
     | exact ⟨by omega, by omega, by simp, by rw [take_at hj0 (by omega)]; exact round_new hR hk2 hk3 hmn2 hmi hhi hNm hnn.1 (by omega) (by rw [eN]; omega) (by omega) rfl (by simp only [List.take_length])⟩
    ·(show Int.toNat _ < Int.toNat _); omega
   try simp only [HS] at h9
   refine W_skip (bN (tN (rG (evI ?_))))
   refine eZ Z (oN ?_)
   refine lQ (_, _, _, _) ?_ ?_
   ·try dsimp only
    first
    | exact ⟨by omega, by omega, rfl, by rw [take_at hj0 (by omega)]; exact round_same hk2 hk3 hmn2 hmi hhi (by rw [eN]; omega) (by rw [eN]; omega)⟩
    | exact ⟨by omega, by omega, by simp, by rw [take_at hj0 (by omega)]; exact round_new hR hk2 hk3 hmn2 hmi hhi hNm hnn.1 (by omega) (by rw [eN]; omega) (by omega) rfl (by simp only [List.take_length])⟩
   ·(show Int.toNat _ < Int.toNat _); omega
  try simp only [HS] at h6
  refine W_exit (tE (loopQ_e (inBlk_y (bN (tN (rG (eZ Z (evI ?_))))))))
  refine eZ Z (oN ?_)
  refine lQ (_, _, _, _) ?_ ?_
  ·try dsimp only
   refine ⟨rfl, round_end ⟨hs2, met2, rfl, rfl, hk2, hk3, hmn2, hmi, hhi⟩ (fun n hn => ?_)⟩
   rw [take_end (by omega), ← eI]
   exact hn
  ·(show Int.toNat _ < Int.toNat _); omega
 try simp only [HS] at h3
 refine W_exit (tE (loopQ_e (inBlk_y (tN (sQ (rG (eK 3 Z (oN (tN ?_)))))))))
 first | refine W_le (Le.nilT (u := 4) 1 rfl) ?_ | (refine W_le (Le.gather (u := 4) (id := 21) rfl rfl (by rw [List.length_map, hpa.1.1]; exact Nat.le_refl _)) ?_; refine W_norm rfl ?_; refine W_le (Le.freeze (u := 4) rfl) ?_)
 refine rT (eR ?_)
 ·first
  | exact retHNt (seek_low hpa hop (by rw [eA, eI]; assumption))
  | exact retHNt (seek_high hR hpa hop (by rw [eA, eI]; assumption) (by rw [eA, eI]; assumption))
  | exact retHNt (mid_fail hmi hNm hnn.1 (by omega) (.inr ⟨by rw [eN]; assumption, by rw [eN, ← hhi]; assumption⟩))
  | exact retHSt (part_end hpa (List.drop_eq_nil_of_le (by omega))) (List.take_of_length_le (by rw [List.length_map, hpa.1.1]; exact Nat.le_refl _))
open Go.Eng
theorem some_of {h : Option (List Int)} (e : h.isSome = true) : h = some (h.getD []) := by
 cases h with
 | none => cases e
 | some l => rfl
theorem not6 {c : Code} {h : List Int} {k : Int} (h0 : 0 ≤ k) (h1 : k < c.ins.length) (hl : k.toNat < h.length) (e : (h[k.toNat]'hl) < 0 ∨ raisesB (c.ins[k.toNat]'(by omega)).op = false ∨ (0 ≤ rowX c.rows k ∧ k < padX c.rows k)) : ¬ bad6 c h k := by
 rintro ⟨a, b, d⟩
 rw [atI_at h0 (by omega)] at a
 rw [insAt_at h0 h1] at b
 rcases e with e | e | e
 ·omega
 ·rw [e] at b; cases b
 ·omega
theorem is6 {c : Code} {h : List Int} {k : Int} (h0 : 0 ≤ k) (h1 : k < c.ins.length) (hl : k.toNat < h.length) (a : 0 ≤ (h[k.toNat]'hl)) (b : raisesB (c.ins[k.toNat]'(by omega)).op = true) (d : rowX c.rows k < 0 ∨ padX c.rows k ≤ k) : bad6 c h k :=
 ⟨by rw [atI_at h0 (by omega)]; exact a, by rw [insAt_at h0 h1]; exact b, d⟩
theorem not7 {c : Code} {h : List Int} {k : Int} (h0 : 0 ≤ k) (h1 : k < c.ins.length) (hl : k.toNat < h.length) (e : ¬ 0 < (h[k.toNat]'hl) ∨ flatB (c.ins[k.toNat]'(by omega)).op = false) : ¬ bad7 c h k := by
 rintro ⟨a, b⟩
 rw [atI_at h0 (by omega)] at a
 rw [insAt_at h0 h1] at b
 rcases e with e | e
 ·exact e a
 ·rw [e] at b; cases b
theorem is7 {c : Code} {h : List Int} {k : Int} (h0 : 0 ≤ k) (h1 : k < c.ins.length) (hl : k.toNat < h.length) (a : 0 < (h[k.toNat]'hl)) (b : flatB (c.ins[k.toNat]'(by omega)).op = true) : bad7 c h k :=
 ⟨by rw [atI_at h0 (by omega)]; exact a, by rw [insAt_at h0 h1]; exact b⟩
def upTo (p : Int → Prop) (k : Int) : Prop := ∀ j : Int, 0 ≤ j → j < k → p j
theorem upTo_next {p : Int → Prop} {k : Int} (h : upTo p k) (hk : p k) : upTo p (k + 1) := fun j h0 h1 => by
 by_cases e : j = k
 ·subst e; exact hk
 ·exact h j h0 (by omega)
theorem l5Code_fun (im : Image) (c : Code) (hx : sizedX im = true) (hc : c ∈ im.codes) : Fun Tryz.prog 135 [.t im.tt, .t c.tt] (tupD [.t (.int (codeX im c))]) := by
 obtain ⟨hx1, hx2⟩ := sizedX_of hx
 obtain ⟨hz1, hz2, hz3, hz4, hz5, hz6⟩ := sizedC_of (hx2 c hc)
 refine Fun.begin tys Tryz.func135 Z Z (N := 115) [(0, .t im.tt), (1, .t c.tt)] Z Z (fun w0 G F0 => ?_)
 refine sQ (rG (WO_box Z Z (lt_of Z) Z Z (nZ Z (WO_box Z Z (lt_of Z) Z Z (nZ Z (eZ Z (oN (tN (sQ (W_block (sQ (rG ?_))))))))))))
 first | (refine ev ?_; try refine WO_le (Le.freeze (u := 14) rfl) ?_) | refine WO_loadMove tys rfl rfl (lt_of rfl) rfl rfl rfl rfl rfl rfl ?_
 refine nZ Z ?_
 first | (refine ev ?_; try refine WO_le (Le.freeze (u := 15) rfl) ?_) | refine WO_loadMove tys rfl rfl (lt_of rfl) rfl rfl rfl rfl rfl rfl ?_
 refine nZ Z (callB ?_)
 refine ⟨_, l5Named_fun im c (by omega) (by omega) (by omega), rfl, ?_⟩
 refine eK 2 Z (oN (tN ?_))
 refine W_cond Z (fun h1 => ?_) (fun h1 => ?_)
 ·
  try simp only [HS] at h1
  refine sQ (kY [2,3,4] Z (rG (eZ Z (oN (tN (rT (bR (tR (eR ?_)))))))))
  ·first
   | exact retI (code_1 (by assumption)).symm
   | exact retI (code_2 (by assumption) (by assumption)).symm
   | exact retI (code_3 (by assumption) (by assumption) (by assumption)).symm
   | exact retI (code_4 (by assumption) (by assumption) (by assumption) (by assumption)).symm
   | exact retI (code_5 (by assumption) (by assumption) (by assumption) (by assumption) (by assumption)).symm
   | exact retI (code_6 (by assumption) (by assumption) (by assumption) (by assumption) hes hk0 (by omega) (is6 hk0 (by omega) hkl (by omega) (by assumption) (by first | (left; omega) | (right; rw [padX_at (by omega)]; omega)))).symm
   | exact retI (code_7 (by assumption) (by assumption) (by assumption) (by assumption) hes (fun j g0 g1 => hup j g0 (by omega)) hk0 (by omega) (is7 hk0 (by omega) hkl (by omega) (by unfold flatB; rw [decide_eq_true_eq]; omega))).symm
   | exact retI (code_0 (by assumption) (by assumption) (by assumption) (by assumption) hes (fun j g0 g1 => hup j g0 (by omega)) (fun j g0 g1 => hup7 j g0 (by omega))).symm
 try simp only [HS] at h1
 refine sQ (kY [2,3,4] Z (rG ?_))
 first | (refine ev ?_; try refine WO_le (Le.freeze (u := 19) rfl) ?_) | refine WO_loadMove tys rfl rfl (lt_of rfl) rfl rfl rfl rfl rfl rfl ?_
 refine nZ Z ?_
 first | (refine ev ?_; try refine WO_le (Le.freeze (u := 20) rfl) ?_) | refine WO_loadMove tys rfl rfl (lt_of rfl) rfl rfl rfl rfl rfl rfl ?_
 refine nZ Z (callB ?_)
 refine ⟨_, l5Sites_fun im c (by omega) (by omega), rfl, ?_⟩
 refine eK 2 Z (oN (tN ?_))
 refine W_cond Z (fun h2 => ?_) (fun h2 => ?_)
 ·
  try simp only [HS] at h2
  refine sQ (rG (eZ Z (oN (tN (rT (bR (tR (eR ?_))))))))
  ·first
   | exact retI (code_1 (by assumption)).symm
   | exact retI (code_2 (by assumption) (by assumption)).symm
   | exact retI (code_3 (by assumption) (by assumption) (by assumption)).symm
   | exact retI (code_4 (by assumption) (by assumption) (by assumption) (by assumption)).symm
   | exact retI (code_5 (by assumption) (by assumption) (by assumption) (by assumption) (by assumption)).symm
   | exact retI (code_6 (by assumption) (by assumption) (by assumption) (by assumption) hes hk0 (by omega) (is6 hk0 (by omega) hkl (by omega) (by assumption) (by first | (left; omega) | (right; rw [padX_at (by omega)]; omega)))).symm
   | exact retI (code_7 (by assumption) (by assumption) (by assumption) (by assumption) hes (fun j g0 g1 => hup j g0 (by omega)) hk0 (by omega) (is7 hk0 (by omega) hkl (by omega) (by unfold flatB; rw [decide_eq_true_eq]; omega))).symm
   | exact retI (code_0 (by assumption) (by assumption) (by assumption) (by assumption) hes (fun j g0 g1 => hup j g0 (by omega)) (fun j g0 g1 => hup7 j g0 (by omega))).symm
 try simp only [HS] at h2
 refine sQ (rG ?_)
 first | (refine ev ?_; try refine WO_le (Le.freeze (u := 24) rfl) ?_) | refine WO_loadMove tys rfl rfl (lt_of rfl) rfl rfl rfl rfl rfl rfl ?_
 refine nZ Z (callB ?_)
 refine ⟨_, l5Goes_fun c (by omega) (List.all_eq_true.2 hz6), rfl, ?_⟩
 refine eK 2 Z (kZ [2,3,4,23] Z (oN (tN ?_)))
 refine W_cond Z (fun h3 => ?_) (fun h3 => ?_)
 ·
  try simp only [HS] at h3
  refine sQ (rG (eZ Z (oN (tN (rT (bR (tR (eR ?_))))))))
  ·first
   | exact retI (code_1 (by assumption)).symm
   | exact retI (code_2 (by assumption) (by assumption)).symm
   | exact retI (code_3 (by assumption) (by assumption) (by assumption)).symm
   | exact retI (code_4 (by assumption) (by assumption) (by assumption) (by assumption)).symm
   | exact retI (code_5 (by assumption) (by assumption) (by assumption) (by assumption) (by assumption)).symm
   | exact retI (code_6 (by assumption) (by assumption) (by assumption) (by assumption) hes hk0 (by omega) (is6 hk0 (by omega) hkl (by omega) (by assumption) (by first | (left; omega) | (right; rw [padX_at (by omega)]; omega)))).symm
   | exact retI (code_7 (by assumption) (by assumption) (by assumption) (by assumption) hes (fun j g0 g1 => hup j g0 (by omega)) hk0 (by omega) (is7 hk0 (by omega) hkl (by omega) (by unfold flatB; rw [decide_eq_true_eq]; omega))).symm
   | exact retI (code_0 (by assumption) (by assumption) (by assumption) (by assumption) hes (fun j g0 g1 => hup j g0 (by omega)) (fun j g0 g1 => hup7 j g0 (by omega))).symm
 try simp only [HS] at h3
 refine sQ (rG (eK 4 Z (evE ?_)))
 refine callB ?_
 refine ⟨_, l5Rows_fun c.rows _ (by omega) (by omega), rfl, ?_⟩
 refine eK 2 Z (oN (tN ?_))
 refine W_cond Z (fun h4 => ?_) (fun h4 => ?_)
 ·
  try simp only [HS] at h4
  refine sQ (kY [2,3,4] Z (rG (eZ Z (oN (tN (rT (bR (tR (eR ?_)))))))))
  ·first
   | exact retI (code_1 (by assumption)).symm
   | exact retI (code_2 (by assumption) (by assumption)).symm
   | exact retI (code_3 (by assumption) (by assumption) (by assumption)).symm
   | exact retI (code_4 (by assumption) (by assumption) (by assumption) (by assumption)).symm
   | exact retI (code_5 (by assumption) (by assumption) (by assumption) (by assumption) (by assumption)).symm
   | exact retI (code_6 (by assumption) (by assumption) (by assumption) (by assumption) hes hk0 (by omega) (is6 hk0 (by omega) hkl (by omega) (by assumption) (by first | (left; omega) | (right; rw [padX_at (by omega)]; omega)))).symm
   | exact retI (code_7 (by assumption) (by assumption) (by assumption) (by assumption) hes (fun j g0 g1 => hup j g0 (by omega)) hk0 (by omega) (is7 hk0 (by omega) hkl (by omega) (by unfold flatB; rw [decide_eq_true_eq]; omega))).symm
   | exact retI (code_0 (by assumption) (by assumption) (by assumption) (by assumption) hes (fun j g0 g1 => hup j g0 (by omega)) (fun j g0 g1 => hup7 j g0 (by omega))).symm
 try simp only [HS] at h4
 refine W_skip (bN (tN (sQ (kY [2,3,4] Z (rG ?_)))))
 have hR := ready hx hc h1 h3 h4
 first | (refine ev ?_; try refine WO_le (Le.freeze (u := 36) rfl) ?_) | refine WO_loadMove tys rfl rfl (lt_of rfl) rfl rfl rfl rfl rfl rfl ?_
 refine nZ Z ?_
 first | (refine ev ?_; try refine WO_le (Le.freeze (u := 37) rfl) ?_) | refine WO_loadMove tys rfl rfl (lt_of rfl) rfl rfl rfl rfl rfl rfl ?_
 refine nZ Z (WO_callF Z Z (lt_of Z) Z Z Z Z Z (l5Heights_fun im c hR) Z (eZ Z ?_))
 first | refine WO_evF tys rfl rfl (lt_of rfl) (d := .t _) rfl ?_ | (refine WO_extract rfl rfl (lt_of rfl) rfl rfl rfl rfl ?_; first | refine WO_le (Le.adoptE (u := 39) 39 rfl (by first | exact lenN | exact rfl)) ?_ | skip)
 refine nZ Z ?_
 first | refine WO_evF tys rfl rfl (lt_of rfl) (d := .t _) rfl ?_ | (refine WO_extract rfl rfl (lt_of rfl) rfl rfl rfl rfl ?_; first | refine WO_le (Le.adoptE (u := 40) 40 rfl (by first | exact lenN | exact rfl)) ?_ | skip)
 refine nZ Z (eK 2 Z (oN (tN (sQ (sQ (kY [3,4,5,6] Z (rG (eK 2 Z (oN (tN ?_))))))))))
 refine W_cond Z (fun h5 => ?_) (fun h5 => ?_)
 ·
  try simp only [HS] at h5
  refine sQ (rG (eZ Z (oN (tN (rT (tR (eR ?_)))))))
  ·first
   | exact retI (code_1 (by assumption)).symm
   | exact retI (code_2 (by assumption) (by assumption)).symm
   | exact retI (code_3 (by assumption) (by assumption) (by assumption)).symm
   | exact retI (code_4 (by assumption) (by assumption) (by assumption) (by assumption)).symm
   | exact retI (code_5 (by assumption) (by assumption) (by assumption) (by assumption) (by assumption)).symm
   | exact retI (code_6 (by assumption) (by assumption) (by assumption) (by assumption) hes hk0 (by omega) (is6 hk0 (by omega) hkl (by omega) (by assumption) (by first | (left; omega) | (right; rw [padX_at (by omega)]; omega)))).symm
   | exact retI (code_7 (by assumption) (by assumption) (by assumption) (by assumption) hes (fun j g0 g1 => hup j g0 (by omega)) hk0 (by omega) (is7 hk0 (by omega) hkl (by omega) (by unfold flatB; rw [decide_eq_true_eq]; omega))).symm
   | exact retI (code_0 (by assumption) (by assumption) (by assumption) (by assumption) hes (fun j g0 g1 => hup j g0 (by omega)) (fun j g0 g1 => hup7 j g0 (by omega))).symm
 try simp only [HS] at h5
 refine W_skip (tN (sQ (sQ (rG ?_))))
 have hes := some_of (h := heiX im c) (by assumption)
 have hfit := (heiX_fit hes).1
 have hhl : ((heiX im c).getD []).length = c.ins.length := hfit.1.1
 refine eK 2 Z (evE ?_)
 refine eZ Z (oN (tN (W_block ?_)))
 refine lK (α := Int) [2, 3, 5, 44, 45] [2, 3] (fun x => [(46, .t (.int x))]) (fun x => []) (fun x => 0 ≤ x ∧ x ≤ c.ins.length ∧ upTo (fun j => ¬ bad6 c ((heiX im c).getD []) j) x) (fun x => Int.toNat (c.ins.length - x)) 0 ?_ (fun k hx => ?_)
 ·exact ⟨by omega, by omega, fun j h0 h1 => by omega⟩
 obtain ⟨hk0, hk1, hup⟩ := hx
 refine nY Z (sQ (rG (eZ Z (oN (tN (sQ ?_))))))
 refine W_cond Z (fun h6 => ?_) (fun h6 => ?_)
 ·
  try simp only [HS] at h6
  refine W_skip (tN (sQ (W_block (sQ (rG ?_)))))
  have hkl : k.toNat < ((heiX im c).getD []).length := by omega
  have hrx := rowX_lt c.rows k
  refine eZ Z ?_
  first | refine WO_idxT tys rfl rfl (lt_of rfl) rfl rfl rfl rfl rfl rfl rfl (by omega) _ (getT _ _ (by omega) (by omega)) ?_ | refine WO_idxS tys rfl rfl (lt_of rfl) rfl rfl rfl rfl rfl rfl rfl rfl (by omega) (by omega) ?_
  first | (refine ev ?_; try refine WO_le (Le.freeze (u := 50) rfl) ?_) | refine WO_loadL tys rfl rfl (lt_of rfl) rfl rfl rfl rfl (getT _ _ (by omega) (by omega)) rfl ?_ | refine WO_loadL tys rfl rfl (lt_of rfl) rfl rfl rfl rfl (getT0 _ _ (by omega) (by omega)) rfl ?_
  refine nZ Z (WO_alloc tys Z Z (lt_of Z) Z Z Z (nZ Z (eZ Z (sT Z (nZ Z (oN (tN (sQ (kY [2,3,5,7,8,44,45,46,47,48,49,50] Z (rG (eK 3 Z (callB ?_))))))))))))
  refine ⟨_, l5RowAt_fun c.rows k (by omega) (fun r hr => by have := hR.his r hr; omega), rfl, ?_⟩
  refine eZ Z (oN (tN (sQ (rG (eK 2 Z ?_)))))
  first | refine WO_idxT tys rfl rfl (lt_of rfl) rfl rfl rfl rfl rfl rfl rfl (by omega) _ (getT _ _ (by omega) (by omega)) ?_ | refine WO_idxS tys rfl rfl (lt_of rfl) rfl rfl rfl rfl rfl rfl rfl rfl (by omega) (by omega) ?_
  first | refine ev ?_ | refine WO_loadL tys rfl rfl (lt_of rfl) rfl rfl rfl rfl (getT _ _ (by omega) (by omega)) rfl ?_ | refine WO_loadL tys rfl rfl (lt_of rfl) rfl rfl rfl rfl (getT0 _ _ (by omega) (by omega)) rfl ?_
  refine kZ [2,3,5,7,8,9,44,45,46,47,48,49,50,51,52,53,54,55,56,57,58] Z (eK 2 Z ?_)
  refine WO_guard Z Z Z Z (lt_of Z) (fun h7 => ?_) (fun h7 => ?_)
  rotate_left
  ·
   try simp only [HS] at h7
   refine gM Z (gM Z (eK 2 Z (gM Z (gM Z (gM Z (kZ [2,3,5,7,8,9,44,45,46,47,48,49,50,51,52,53,54,55,56,57,58,59,60,61,62,63,64,65,66,67,68] Z (gM Z (gM Z (gM Z (gM Z (gM Z (gM Z (gM Z (gM Z (gM Z ?_)))))))))))))))
   refine kZ [2,3,5,7,8,9,44,45,46,47,48,49,50,51,52,53,54,55,56,57,58,59,60,61,62,63,64,65,66,67,68,69,70,71,72,73,74,75,76,77] Z (eZ Z (oN (tN (W_condF Z (W_skip (bN (tN (rG (evI ?_)))))))))
   refine eZ Z (oN ?_)
   refine lQ _ ?_ ?_
   ·try dsimp only
    first
    | exact ⟨by omega, by omega, upTo_next hup (not6 hk0 (by omega) hkl (.inl (by omega)))⟩
    | exact ⟨by omega, by omega, upTo_next hup (not6 hk0 (by omega) hkl (.inr (.inl (by assumption))))⟩
    | exact ⟨by omega, by omega, upTo_next hup (not6 hk0 (by omega) hkl (.inr (.inr ⟨by omega, by rw [padX_at (by omega)]; omega⟩)))⟩
   ·(show Int.toNat _ < Int.toNat _); omega
  try simp only [HS] at h7
  refine eZ Z (gY Z (eZ Z (gY Z (callB ?_))))
  refine ⟨_, raises_fun _, rfl, ?_⟩
  refine eK 2 Z ?_
  refine WO_guard Z Z Z Z (lt_of Z) (fun h8 => ?_) (fun h8 => ?_)
  rotate_left
  ·
   try simp only [HS] at h8
   refine gM Z (gM Z (kZ [2,3,5,7,8,9,44,45,46,47,48,49,50,51,52,53,54,55,56,57,58,59,60,61,62,63,64,65,66,67,68] Z (gM Z (gM Z (gM Z (gM Z (gM Z (gM Z (gM Z (gM Z (gM Z (kZ [2,3,5,7,8,9,44,45,46,47,48,49,50,51,52,53,54,55,56,57,58,59,60,61,62,63,64,65,66,67,68,69,70,71,72,73,74,75,76,77] Z (eZ Z (oN (tN ?_)))))))))))))))
   refine W_condF Z (W_skip (bN (tN (rG (evI ?_)))))
   refine eZ Z (oN ?_)
   refine lQ _ ?_ ?_
   ·try dsimp only
    first
    | exact ⟨by omega, by omega, upTo_next hup (not6 hk0 (by omega) hkl (.inl (by omega)))⟩
    | exact ⟨by omega, by omega, upTo_next hup (not6 hk0 (by omega) hkl (.inr (.inl (by assumption))))⟩
    | exact ⟨by omega, by omega, upTo_next hup (not6 hk0 (by omega) hkl (.inr (.inr ⟨by omega, by rw [padX_at (by omega)]; omega⟩)))⟩
   ·(show Int.toNat _ < Int.toNat _); omega
  try simp only [HS] at h8
  refine eZ Z (gY Z (eZ Z (kZ [2,3,5,7,8,9,44,45,46,47,48,49,50,51,52,53,54,55,56,57,58,59,60,61,62,63,64,65,66,67] Z (gY Z (eZ Z ?_)))))
  refine WO_guard Z Z Z Z (lt_of Z) (fun h9 => ?_) (fun h9 => ?_)
  rotate_left
  ·
   try simp only [HS] at h9
   refine gM Z (gM Z (gM Z (gM Z (gM Z (gM Z (gM Z (gY Z (eZ Z (kZ [2,3,5,7,8,9,44,45,46,47,48,49,50,51,52,53,54,55,56,57,58,59,60,61,62,63,64,65,66,67,68,69,70,71,72,73,74,75,76,77] Z (eZ Z (oN (tN (W_condT Z (sQ (rG ?_)))))))))))))))
   refine eZ Z (oN (tN (rT (bR (tR (loopQ_r (bR (tR (eR ?_)))))))))
   ·first
    | exact retI (code_1 (by assumption)).symm
    | exact retI (code_2 (by assumption) (by assumption)).symm
    | exact retI (code_3 (by assumption) (by assumption) (by assumption)).symm
    | exact retI (code_4 (by assumption) (by assumption) (by assumption) (by assumption)).symm
    | exact retI (code_5 (by assumption) (by assumption) (by assumption) (by assumption) (by assumption)).symm
    | exact retI (code_6 (by assumption) (by assumption) (by assumption) (by assumption) hes hk0 (by omega) (is6 hk0 (by omega) hkl (by omega) (by assumption) (by first | (left; omega) | (right; rw [padX_at (by omega)]; omega)))).symm
    | exact retI (code_7 (by assumption) (by assumption) (by assumption) (by assumption) hes (fun j g0 g1 => hup j g0 (by omega)) hk0 (by omega) (is7 hk0 (by omega) hkl (by omega) (by unfold flatB; rw [decide_eq_true_eq]; omega))).symm
    | exact retI (code_0 (by assumption) (by assumption) (by assumption) (by assumption) hes (fun j g0 g1 => hup j g0 (by omega)) (fun j g0 g1 => hup7 j g0 (by omega))).symm
  try simp only [HS] at h9
  refine eZ Z (gY Z (eZ Z (gY Z (eZ Z (gY Z ?_)))))
  first | refine WO_idxT tys rfl rfl (lt_of rfl) rfl rfl rfl rfl rfl rfl rfl (by omega) _ (getT _ _ (by omega) (by omega)) ?_ | refine WO_idxS tys rfl rfl (lt_of rfl) rfl rfl rfl rfl rfl rfl rfl rfl (by omega) (by omega) ?_
  refine gY Z (eZ Z (gY Z ?_))
  first | refine ev ?_ | refine WO_loadL tys rfl rfl (lt_of rfl) rfl rfl rfl rfl (getT _ _ (by omega) (by omega)) rfl ?_ | refine WO_loadL tys rfl rfl (lt_of rfl) rfl rfl rfl rfl (getT0 _ _ (by omega) (by omega)) rfl ?_
  refine gY Z (eZ Z (gY Z (eZ Z (kZ [2,3,5,7,8,9,44,45,46,47,48,49,50,51,52,53,54,55,56,57,58,59,60,61,62,63,64,65,66,67,68,69,70,71,72,73,74,75,76] Z (gY Z (eK 2 Z (oN (tN ?_))))))))
  refine W_cond Z (fun h10 => ?_) (fun h10 => ?_)
  ·
   try simp only [HS] at h10
   refine sQ (rG (eZ Z (oN (tN (rT (bR (tR (loopQ_r (bR (tR (eR ?_)))))))))))
   ·first
    | exact retI (code_1 (by assumption)).symm
    | exact retI (code_2 (by assumption) (by assumption)).symm
    | exact retI (code_3 (by assumption) (by assumption) (by assumption)).symm
    | exact retI (code_4 (by assumption) (by assumption) (by assumption) (by assumption)).symm
    | exact retI (code_5 (by assumption) (by assumption) (by assumption) (by assumption) (by assumption)).symm
    | exact retI (code_6 (by assumption) (by assumption) (by assumption) (by assumption) hes hk0 (by omega) (is6 hk0 (by omega) hkl (by omega) (by assumption) (by first | (left; omega) | (right; rw [padX_at (by omega)]; omega)))).symm
    | exact retI (code_7 (by assumption) (by assumption) (by assumption) (by assumption) hes (fun j g0 g1 => hup j g0 (by omega)) hk0 (by omega) (is7 hk0 (by omega) hkl (by omega) (by unfold flatB; rw [decide_eq_true_eq]; omega))).symm
    | exact retI (code_0 (by assumption) (by assumption) (by assumption) (by assumption) hes (fun j g0 g1 => hup j g0 (by omega)) (fun j g0 g1 => hup7 j g0 (by omega))).symm
  try simp only [HS] at h10
  refine W_skip (bN (tN (rG (evI ?_))))
  refine eZ Z (oN ?_)
  refine lQ _ ?_ ?_
  ·try dsimp only
   first
   | exact ⟨by omega, by omega, upTo_next hup (not6 hk0 (by omega) hkl (.inl (by omega)))⟩
   | exact ⟨by omega, by omega, upTo_next hup (not6 hk0 (by omega) hkl (.inr (.inl (by assumption))))⟩
   | exact ⟨by omega, by omega, upTo_next hup (not6 hk0 (by omega) hkl (.inr (.inr ⟨by omega, by rw [padX_at (by omega)]; omega⟩)))⟩
  ·(show Int.toNat _ < Int.toNat _); omega
 try simp only [HS] at h6
 refine W_exit (tE (loopQ_e (inBlk_y (tN (sQ (sQ (rG (eK 2 Z (evE ?_)))))))))
 refine eZ Z (oN (tN (W_block ?_)))
 refine lK (α := Int) [2, 3, 5, 81, 82] [2, 3] (fun x => [(83, .t (.int x))]) (fun x => []) (fun x => 0 ≤ x ∧ x ≤ c.ins.length ∧ upTo (fun j => ¬ bad7 c ((heiX im c).getD []) j) x) (fun x => Int.toNat (c.ins.length - x)) 0 ?_ (fun k hx => ?_)
 ·exact ⟨by omega, by omega, fun j h0 h1 => by omega⟩
 obtain ⟨hk0, hk1, hup7⟩ := hx
 refine nY Z (sQ (rG (eZ Z (oN (tN (sQ ?_))))))
 refine W_cond Z (fun h7 => ?_) (fun h7 => ?_)
 ·
  try simp only [HS] at h7
  refine W_skip (tN (sQ (W_block (sQ (rG ?_)))))
  have hkl : k.toNat < ((heiX im c).getD []).length := by omega
  refine eZ Z ?_
  first | refine WO_idxT tys rfl rfl (lt_of rfl) rfl rfl rfl rfl rfl rfl rfl (by omega) _ (getT _ _ (by omega) (by omega)) ?_ | refine WO_idxS tys rfl rfl (lt_of rfl) rfl rfl rfl rfl rfl rfl rfl rfl (by omega) (by omega) ?_
  first | (refine ev ?_; try refine WO_le (Le.freeze (u := 87) rfl) ?_) | refine WO_loadL tys rfl rfl (lt_of rfl) rfl rfl rfl rfl (getT _ _ (by omega) (by omega)) rfl ?_ | refine WO_loadL tys rfl rfl (lt_of rfl) rfl rfl rfl rfl (getT0 _ _ (by omega) (by omega)) rfl ?_
  refine nZ Z (WO_alloc tys Z Z (lt_of Z) Z Z Z (nZ Z (eZ Z (sT Z (nZ Z (oN (tN (sQ (kY [2,3,5,10,11,81,82,83,84,85,86,87] Z (rG (eK 4 Z ?_)))))))))))
  refine WO_guard Z Z Z Z (lt_of Z) (fun h8 => ?_) (fun h8 => ?_)
  rotate_left
  ·
   try simp only [HS] at h8
   refine gM Z (gM Z (eK 2 Z (gM Z (kZ [2,3,5,10,11,81,82,83,84,85,86,87,88,89,90,91,92,93,94,95,96,97] Z (gM Z (gM Z (eK 2 Z (gM Z (gM Z (gM Z (eK 2 Z (kZ [2,3,5,10,11,12,81,82,83,84,85,86,87,88,89,90,91,92,93,94,95,96,97,98,99,100,101,102,103,104,105] Z (oN (tN (sQ ?_)))))))))))))))
   refine rG (eK 2 Z (gY Z (eZ Z (gY Z (eZ Z (gY Z ?_))))))
   first | refine WO_idxT tys rfl rfl (lt_of rfl) rfl rfl rfl rfl rfl rfl rfl (by omega) _ (getT _ _ (by omega) (by omega)) ?_ | refine WO_idxS tys rfl rfl (lt_of rfl) rfl rfl rfl rfl rfl rfl rfl rfl (by omega) (by omega) ?_
   refine gY Z ?_
   first | refine ev ?_ | refine WO_loadL tys rfl rfl (lt_of rfl) rfl rfl rfl rfl (getT _ _ (by omega) (by omega)) rfl ?_ | refine WO_loadL tys rfl rfl (lt_of rfl) rfl rfl rfl rfl (getT0 _ _ (by omega) (by omega)) rfl ?_
   refine gY Z (eK 2 Z (oN (tN ?_)))
   refine W_cond Z (fun h9 => ?_) (fun h9 => ?_)
   ·
    try simp only [HS] at h9
    refine sQ (kY [2,3,5,10,11,12,81,82,83,84,85,86,87,88,89,90,91,92,93,94,95,96,97,98,99,100,101,102,103,104,105,106,107,108,109,110,111,112,113] Z (rG (eZ Z (oN (tN (rT (bR (tR (loopQ_r (bR (tR (eR ?_))))))))))))
    ·first
     | exact retI (code_1 (by assumption)).symm
     | exact retI (code_2 (by assumption) (by assumption)).symm
     | exact retI (code_3 (by assumption) (by assumption) (by assumption)).symm
     | exact retI (code_4 (by assumption) (by assumption) (by assumption) (by assumption)).symm
     | exact retI (code_5 (by assumption) (by assumption) (by assumption) (by assumption) (by assumption)).symm
     | exact retI (code_6 (by assumption) (by assumption) (by assumption) (by assumption) hes hk0 (by omega) (is6 hk0 (by omega) hkl (by omega) (by assumption) (by first | (left; omega) | (right; rw [padX_at (by omega)]; omega)))).symm
     | exact retI (code_7 (by assumption) (by assumption) (by assumption) (by assumption) hes (fun j g0 g1 => hup j g0 (by omega)) hk0 (by omega) (is7 hk0 (by omega) hkl (by omega) (by unfold flatB; rw [decide_eq_true_eq]; omega))).symm
     | exact retI (code_0 (by assumption) (by assumption) (by assumption) (by assumption) hes (fun j g0 g1 => hup j g0 (by omega)) (fun j g0 g1 => hup7 j g0 (by omega))).symm
   try simp only [HS] at h9
   refine W_skip (bN (tN (kY [2,3,5,10,11,12,81,82,83,84,85,86,87,88,89,90,91,92,93,94,95,96,97,98,99,100,101,102,103,104,105,106,107,108,109,110,111,112,113] Z (rG (evI ?_)))))
   refine eZ Z (oN ?_)
   refine lQ _ ?_ ?_
   ·try dsimp only
    first
    | exact ⟨by omega, by omega, upTo_next hup7 (not7 hk0 (by omega) hkl (.inl (by omega)))⟩
    | exact ⟨by omega, by omega, upTo_next hup7 (not7 hk0 (by omega) hkl (.inr (by unfold flatB; rw [decide_eq_false_iff_not]; omega)))⟩
   ·(show Int.toNat _ < Int.toNat _); omega
  try simp only [HS] at h8
  refine eZ Z (gY Z (eZ Z (gY Z (eK 3 Z (kZ [2,3,5,10,11,81,82,83,84,85,86,87,88,89,90,91,92,93,94,95,96] Z ?_)))))
  refine WO_guard Z Z Z Z (lt_of Z) (fun h9 => ?_) (fun h9 => ?_)
  rotate_left
  ·
   try simp only [HS] at h9
   refine gM Z (gM Z (eK 2 Z (gM Z (gM Z (gM Z (eK 2 Z (kZ [2,3,5,10,11,12,81,82,83,84,85,86,87,88,89,90,91,92,93,94,95,96,97,98,99,100,101,102,103,104,105] Z (oN (tN (sQ (rG (eK 2 Z (gY Z (eZ Z (gY Z ?_)))))))))))))))
   refine eZ Z (gY Z ?_)
   first | refine WO_idxT tys rfl rfl (lt_of rfl) rfl rfl rfl rfl rfl rfl rfl (by omega) _ (getT _ _ (by omega) (by omega)) ?_ | refine WO_idxS tys rfl rfl (lt_of rfl) rfl rfl rfl rfl rfl rfl rfl rfl (by omega) (by omega) ?_
   refine gY Z ?_
   first | refine ev ?_ | refine WO_loadL tys rfl rfl (lt_of rfl) rfl rfl rfl rfl (getT _ _ (by omega) (by omega)) rfl ?_ | refine WO_loadL tys rfl rfl (lt_of rfl) rfl rfl rfl rfl (getT0 _ _ (by omega) (by omega)) rfl ?_
   refine gY Z (eK 2 Z (oN (tN ?_)))
   refine W_cond Z (fun h10 => ?_) (fun h10 => ?_)
   ·
    try simp only [HS] at h10
    refine sQ (kY [2,3,5,10,11,12,81,82,83,84,85,86,87,88,89,90,91,92,93,94,95,96,97,98,99,100,101,102,103,104,105,106,107,108,109,110,111,112,113] Z (rG (eZ Z (oN (tN (rT (bR (tR (loopQ_r (bR (tR (eR ?_))))))))))))
    ·first
     | exact retI (code_1 (by assumption)).symm
     | exact retI (code_2 (by assumption) (by assumption)).symm
     | exact retI (code_3 (by assumption) (by assumption) (by assumption)).symm
     | exact retI (code_4 (by assumption) (by assumption) (by assumption) (by assumption)).symm
     | exact retI (code_5 (by assumption) (by assumption) (by assumption) (by assumption) (by assumption)).symm
     | exact retI (code_6 (by assumption) (by assumption) (by assumption) (by assumption) hes hk0 (by omega) (is6 hk0 (by omega) hkl (by omega) (by assumption) (by first | (left; omega) | (right; rw [padX_at (by omega)]; omega)))).symm
     | exact retI (code_7 (by assumption) (by assumption) (by assumption) (by assumption) hes (fun j g0 g1 => hup j g0 (by omega)) hk0 (by omega) (is7 hk0 (by omega) hkl (by omega) (by unfold flatB; rw [decide_eq_true_eq]; omega))).symm
     | exact retI (code_0 (by assumption) (by assumption) (by assumption) (by assumption) hes (fun j g0 g1 => hup j g0 (by omega)) (fun j g0 g1 => hup7 j g0 (by omega))).symm
   try simp only [HS] at h10
   refine W_skip (bN (tN (kY [2,3,5,10,11,12,81,82,83,84,85,86,87,88,89,90,91,92,93,94,95,96,97,98,99,100,101,102,103,104,105,106,107,108,109,110,111,112,113] Z (rG (evI ?_)))))
   refine eZ Z (oN ?_)
   refine lQ _ ?_ ?_
   ·try dsimp only
    first
    | exact ⟨by omega, by omega, upTo_next hup7 (not7 hk0 (by omega) hkl (.inl (by omega)))⟩
    | exact ⟨by omega, by omega, upTo_next hup7 (not7 hk0 (by omega) hkl (.inr (by unfold flatB; rw [decide_eq_false_iff_not]; omega)))⟩
   ·(show Int.toNat _ < Int.toNat _); omega
  try simp only [HS] at h9
  refine eZ Z (gY Z (eZ Z (gY Z (eK 3 Z ?_))))
  refine WO_guard Z Z Z Z (lt_of Z) (fun h10 => ?_) (fun h10 => ?_)
  rotate_left
  ·
   try simp only [HS] at h10
   refine gM Z (gM Z (eK 2 Z (kZ [2,3,5,10,11,12,81,82,83,84,85,86,87,88,89,90,91,92,93,94,95,96,97,98,99,100,101,102,103,104,105] Z (oN (tN (sQ (rG (eK 2 Z (gY Z (eZ Z (gY Z (eZ Z (gY Z ?_)))))))))))))
   first | refine WO_idxT tys rfl rfl (lt_of rfl) rfl rfl rfl rfl rfl rfl rfl (by omega) _ (getT _ _ (by omega) (by omega)) ?_ | refine WO_idxS tys rfl rfl (lt_of rfl) rfl rfl rfl rfl rfl rfl rfl rfl (by omega) (by omega) ?_
   refine gY Z ?_
   first | refine ev ?_ | refine WO_loadL tys rfl rfl (lt_of rfl) rfl rfl rfl rfl (getT _ _ (by omega) (by omega)) rfl ?_ | refine WO_loadL tys rfl rfl (lt_of rfl) rfl rfl rfl rfl (getT0 _ _ (by omega) (by omega)) rfl ?_
   refine gY Z (eK 2 Z (oN (tN ?_)))
   refine W_cond Z (fun h11 => ?_) (fun h11 => ?_)
   ·
    try simp only [HS] at h11
    refine sQ (kY [2,3,5,10,11,12,81,82,83,84,85,86,87,88,89,90,91,92,93,94,95,96,97,98,99,100,101,102,103,104,105,106,107,108,109,110,111,112,113] Z (rG (eZ Z (oN (tN (rT (bR (tR (loopQ_r (bR (tR (eR ?_))))))))))))
    ·first
     | exact retI (code_1 (by assumption)).symm
     | exact retI (code_2 (by assumption) (by assumption)).symm
     | exact retI (code_3 (by assumption) (by assumption) (by assumption)).symm
     | exact retI (code_4 (by assumption) (by assumption) (by assumption) (by assumption)).symm
     | exact retI (code_5 (by assumption) (by assumption) (by assumption) (by assumption) (by assumption)).symm
     | exact retI (code_6 (by assumption) (by assumption) (by assumption) (by assumption) hes hk0 (by omega) (is6 hk0 (by omega) hkl (by omega) (by assumption) (by first | (left; omega) | (right; rw [padX_at (by omega)]; omega)))).symm
     | exact retI (code_7 (by assumption) (by assumption) (by assumption) (by assumption) hes (fun j g0 g1 => hup j g0 (by omega)) hk0 (by omega) (is7 hk0 (by omega) hkl (by omega) (by unfold flatB; rw [decide_eq_true_eq]; omega))).symm
     | exact retI (code_0 (by assumption) (by assumption) (by assumption) (by assumption) hes (fun j g0 g1 => hup j g0 (by omega)) (fun j g0 g1 => hup7 j g0 (by omega))).symm
   try simp only [HS] at h11
   refine W_skip (bN (tN (kY [2,3,5,10,11,12,81,82,83,84,85,86,87,88,89,90,91,92,93,94,95,96,97,98,99,100,101,102,103,104,105,106,107,108,109,110,111,112,113] Z (rG (evI ?_)))))
   refine eZ Z (oN ?_)
   refine lQ _ ?_ ?_
   ·try dsimp only
    first
    | exact ⟨by omega, by omega, upTo_next hup7 (not7 hk0 (by omega) hkl (.inl (by omega)))⟩
    | exact ⟨by omega, by omega, upTo_next hup7 (not7 hk0 (by omega) hkl (.inr (by unfold flatB; rw [decide_eq_false_iff_not]; omega)))⟩
   ·(show Int.toNat _ < Int.toNat _); omega
  try simp only [HS] at h10
  refine eZ Z (gY Z (eZ Z (gY Z (eK 2 Z (kZ [2,3,5,10,11,81,82,83,84,85,86,87,88,89,90,91,92,93,94,95,96,97,98,99,100,101,102,103,104,105] Z (eZ Z (oN (tN (sQ (rG (eK 2 Z ?_)))))))))))
  refine WO_guard Z Z Z Z (lt_of Z) (fun h11 => ?_) (fun h11 => ?_)
  rotate_left
  ·
   try simp only [HS] at h11
   refine gM Z (gM Z (gM Z (gM Z (eZ Z (oN (tN (W_condF Z (W_skip (bN (tN (kY [2,3,5,10,11,12,81,82,83,84,85,86,87,88,89,90,91,92,93,94,95,96,97,98,99,100,101,102,103,104,105,106,107,108,109,110,111,112,113] Z (rG (evI ?_)))))))))))))
   refine eZ Z (oN ?_)
   refine lQ _ ?_ ?_
   ·try dsimp only
    first
    | exact ⟨by omega, by omega, upTo_next hup7 (not7 hk0 (by omega) hkl (.inl (by omega)))⟩
    | exact ⟨by omega, by omega, upTo_next hup7 (not7 hk0 (by omega) hkl (.inr (by unfold flatB; rw [decide_eq_false_iff_not]; omega)))⟩
   ·(show Int.toNat _ < Int.toNat _); omega
  try simp only [HS] at h11
  refine eZ Z (gY Z (eZ Z (gY Z ?_)))
  first | refine WO_idxT tys rfl rfl (lt_of rfl) rfl rfl rfl rfl rfl rfl rfl (by omega) _ (getT _ _ (by omega) (by omega)) ?_ | refine WO_idxS tys rfl rfl (lt_of rfl) rfl rfl rfl rfl rfl rfl rfl rfl (by omega) (by omega) ?_
  refine gY Z ?_
  first | refine ev ?_ | refine WO_loadL tys rfl rfl (lt_of rfl) rfl rfl rfl rfl (getT _ _ (by omega) (by omega)) rfl ?_ | refine WO_loadL tys rfl rfl (lt_of rfl) rfl rfl rfl rfl (getT0 _ _ (by omega) (by omega)) rfl ?_
  refine gY Z (eK 2 Z (kZ [2,3,5,10,11,12,81,82,83,84,85,86,87,88,89,90,91,92,93,94,95,96,97,98,99,100,101,102,103,104,105,106,107,108,109,110,111,112,113] Z (oN (tN ?_))))
  refine W_cond Z (fun h12 => ?_) (fun h12 => ?_)
  ·
   try simp only [HS] at h12
   refine sQ (rG (eZ Z (oN (tN (rT (bR (tR (loopQ_r (bR (tR (eR ?_)))))))))))
   ·first
    | exact retI (code_1 (by assumption)).symm
    | exact retI (code_2 (by assumption) (by assumption)).symm
    | exact retI (code_3 (by assumption) (by assumption) (by assumption)).symm
    | exact retI (code_4 (by assumption) (by assumption) (by assumption) (by assumption)).symm
    | exact retI (code_5 (by assumption) (by assumption) (by assumption) (by assumption) (by assumption)).symm
    | exact retI (code_6 (by assumption) (by assumption) (by assumption) (by assumption) hes hk0 (by omega) (is6 hk0 (by omega) hkl (by omega) (by assumption) (by first | (left; omega) | (right; rw [padX_at (by omega)]; omega)))).symm
    | exact retI (code_7 (by assumption) (by assumption) (by assumption) (by assumption) hes (fun j g0 g1 => hup j g0 (by omega)) hk0 (by omega) (is7 hk0 (by omega) hkl (by omega) (by unfold flatB; rw [decide_eq_true_eq]; omega))).symm
    | exact retI (code_0 (by assumption) (by assumption) (by assumption) (by assumption) hes (fun j g0 g1 => hup j g0 (by omega)) (fun j g0 g1 => hup7 j g0 (by omega))).symm
  try simp only [HS] at h12
  refine W_skip (bN (tN (rG (evI ?_))))
  refine eZ Z (oN ?_)
  refine lQ _ ?_ ?_
  ·try dsimp only
   first
   | exact ⟨by omega, by omega, upTo_next hup7 (not7 hk0 (by omega) hkl (.inl (by omega)))⟩
   | exact ⟨by omega, by omega, upTo_next hup7 (not7 hk0 (by omega) hkl (.inr (by unfold flatB; rw [decide_eq_false_iff_not]; omega)))⟩
  ·(show Int.toNat _ < Int.toNat _); omega
 try simp only [HS] at h7
 refine W_exit (tE (loopQ_e (inBlk_y (tN (sQ (rG (eZ Z (oN (tN (rT (eR ?_)))))))))))
 ·first
  | exact retI (code_1 (by assumption)).symm
  | exact retI (code_2 (by assumption) (by assumption)).symm
  | exact retI (code_3 (by assumption) (by assumption) (by assumption)).symm
  | exact retI (code_4 (by assumption) (by assumption) (by assumption) (by assumption)).symm
  | exact retI (code_5 (by assumption) (by assumption) (by assumption) (by assumption) (by assumption)).symm
  | exact retI (code_6 (by assumption) (by assumption) (by assumption) (by assumption) hes hk0 (by omega) (is6 hk0 (by omega) hkl (by omega) (by assumption) (by first | (left; omega) | (right; rw [padX_at (by omega)]; omega)))).symm
  | exact retI (code_7 (by assumption) (by assumption) (by assumption) (by assumption) hes (fun j g0 g1 => hup j g0 (by omega)) hk0 (by omega) (is7 hk0 (by omega) hkl (by omega) (by unfold flatB; rw [decide_eq_true_eq]; omega))).symm
  | exact retI (code_0 (by assumption) (by assumption) (by assumption) (by assumption) hes (fun j g0 g1 => hup j g0 (by omega)) (fun j g0 g1 => hup7 j g0 (by omega))).symm
theorem image_1 {x : Image} (h : sizedX x = false) : imageB x = false := by unfold imageB; rw [h]; rfl
theorem image_2 {x : Image} (h0 : 1 ≤ x.codes.length) (h : ¬ (x.codes[(0 : Int).toNat]'(by rw [show (0 : Int).toNat = 0 from rfl]; omega)).params = 0) : imageB x = false := by
 unfold imageB
 rw [codeAt_at (by omega) (by omega), decide_eq_false h]
 simp
theorem image_3 {x : Image} {k : Int} (h0 : 0 ≤ k) (h1 : k < x.codes.length) (h : 0 < codeX x (x.codes[k.toNat]'(by omega))) : imageB x = false := by
 unfold imageB
 rw [all_no h0 h1 (by rw [decide_eq_false_iff_not]; omega)]
 simp
theorem image_0 {x : Image} (hs : sizedX x = true) (h0 : 1 ≤ x.codes.length) (h : (x.codes[(0 : Int).toNat]'(by rw [show (0 : Int).toNat = 0 from rfl]; omega)).params = 0) (ha : (x.codes.all fun c => decide (codeX x c = 0)) = true) : imageB x = true := by
 unfold imageB
 rw [codeAt_at (by omega) (by omega), hs, ha, decide_eq_true h]
 rfl
theorem goodImage_fun (im : Image) (hx : im.ok 1048576) : Fun Tryz.prog 76 [.t im.tt] (tupD [.t (.bool (imageB im))]) := by
 have hxl : im.codes.length ≤ 1048576 := hx.1.1
 refine Fun.begin tys Tryz.func76 Z Z (N := 28) [(0, .t im.tt)] Z Z (fun w0 G F0 => ?_)
 refine sQ (rG (WO_box Z Z (lt_of Z) Z Z (nZ Z (eZ Z (oN (tN (sQ (sQ (rG ?_)))))))))
 first | (refine ev ?_; try refine WO_le (Le.freeze (u := 5) rfl) ?_) | refine WO_loadMove tys rfl rfl (lt_of rfl) rfl rfl rfl rfl rfl rfl ?_
 refine nZ Z (callB ?_)
 refine ⟨_, l5Sized_fun im hx, rfl, ?_⟩
 refine eK 2 Z ?_
 refine WO_guard Z Z Z Z (lt_of Z) (fun h1 => ?_) (fun h1 => ?_)
 rotate_left
 ·
  try simp only [HS] at h1
  refine gM Z (gM Z (gM Z (kZ [1,2,8,12] Z (gM Z (gM Z (eZ Z (oN (tN (W_condT Z (sQ (rG (eZ Z (oN (tN (rT ?_)))))))))))))))
  refine tR (eR ?_)
  ·first
   | exact retB (image_1 (by assumption)).symm
   | exact retB (image_2 hx1.1 (by assumption)).symm
   | exact retB (image_3 hk0 (by omega) (by omega)).symm
   | exact retB (image_0 (by assumption) hx1.1 (by assumption) (all_fl (by omega) hk2)).symm
 try simp only [HS] at h1
 have hx1 := (sizedX_of (by assumption)).1
 refine eZ Z (gY Z (eZ Z (gY Z ?_)))
 first | refine WO_idxT tys rfl rfl (lt_of rfl) rfl rfl rfl rfl rfl rfl rfl (by omega) _ (getT _ _ (by omega) (by omega)) ?_ | refine WO_idxS tys rfl rfl (lt_of rfl) rfl rfl rfl rfl rfl rfl rfl rfl (by omega) (by omega) ?_
 refine kZ [1,2,8,11] Z (gY Z (eZ Z (gY Z ?_)))
 first | refine ev ?_ | refine WO_loadL tys rfl rfl (lt_of rfl) rfl rfl rfl rfl (getT _ _ (by omega) (by omega)) rfl ?_ | refine WO_loadL tys rfl rfl (lt_of rfl) rfl rfl rfl rfl (getT0 _ _ (by omega) (by omega)) rfl ?_
 refine gY Z (eK 2 Z (oN (tN ?_)))
 refine W_cond Z (fun h2 => ?_) (fun h2 => ?_)
 ·
  try simp only [HS] at h2
  refine sQ (rG (eZ Z (oN (tN (rT (tR (eR ?_)))))))
  ·first
   | exact retB (image_1 (by assumption)).symm
   | exact retB (image_2 hx1.1 (by assumption)).symm
   | exact retB (image_3 hk0 (by omega) (by omega)).symm
   | exact retB (image_0 (by assumption) hx1.1 (by assumption) (all_fl (by omega) hk2)).symm
 try simp only [HS] at h2
 refine W_skip (tN (sQ (sQ (rG ?_))))
 have hsz : sizedX im = true := by assumption
 refine eK 2 Z (evE ?_)
 refine eZ Z (oN (tN (W_block ?_)))
 refine lK (α := Int) [1, 17, 18] [1] (fun x => [(19, .t (.int x))]) (fun x => []) (fun x => 0 ≤ x ∧ x ≤ im.codes.length ∧ (im.codes.take x.toNat).all (fun c => decide (codeX im c = 0)) = true) (fun x => Int.toNat (im.codes.length - x)) 0 ?_ (fun k hx => ?_)
 ·exact ⟨by omega, by omega, by simp⟩
 obtain ⟨hk0, hk1, hk2⟩ := hx
 refine nY Z (sQ (rG (eZ Z (oN (tN (sQ ?_))))))
 refine W_cond Z (fun h3 => ?_) (fun h3 => ?_)
 ·
  try simp only [HS] at h3
  refine W_skip (tN (sQ (W_block (sQ (rG ?_)))))
  first | refine WO_idxT tys rfl rfl (lt_of rfl) rfl rfl rfl rfl rfl rfl rfl (by omega) _ (getT _ _ (by omega) (by omega)) ?_ | refine WO_idxS tys rfl rfl (lt_of rfl) rfl rfl rfl rfl rfl rfl rfl rfl (by omega) (by omega) ?_
  first | (refine ev ?_; try refine WO_le (Le.freeze (u := 22) rfl) ?_) | refine WO_loadL tys rfl rfl (lt_of rfl) rfl rfl rfl rfl (getT _ _ (by omega) (by omega)) rfl ?_ | refine WO_loadL tys rfl rfl (lt_of rfl) rfl rfl rfl rfl (getT0 _ _ (by omega) (by omega)) rfl ?_
  refine nZ Z (WO_alloc tys Z Z (lt_of Z) Z Z Z (nZ Z (sT Z (nZ Z (oN (tN (sQ (rG ?_))))))))
  first | (refine ev ?_; try refine WO_le (Le.freeze (u := 23) rfl) ?_) | refine WO_loadMove tys rfl rfl (lt_of rfl) rfl rfl rfl rfl rfl rfl ?_
  refine nZ Z ?_
  first | (refine ev ?_; try refine WO_le (Le.freeze (u := 24) rfl) ?_) | refine WO_loadMove tys rfl rfl (lt_of rfl) rfl rfl rfl rfl rfl rfl ?_
  refine nZ Z (callB ?_)
  refine ⟨_, l5Code_fun im _ hsz (List.getElem_mem _), rfl, ?_⟩
  refine eZ Z (kZ [1,4,17,18,19,20,21,22,23,24,25,26] Z (oN (tN ?_)))
  refine W_cond Z (fun h4 => ?_) (fun h4 => ?_)
  ·
   try simp only [HS] at h4
   refine sQ (rG (eZ Z (oN (tN (rT (bR (tR (loopQ_r (bR (tR (eR ?_)))))))))))
   ·first
    | exact retB (image_1 (by assumption)).symm
    | exact retB (image_2 hx1.1 (by assumption)).symm
    | exact retB (image_3 hk0 (by omega) (by omega)).symm
    | exact retB (image_0 (by assumption) hx1.1 (by assumption) (all_fl (by omega) hk2)).symm
  try simp only [HS] at h4
  refine W_skip (bN (tN (rG (evI ?_))))
  refine eZ Z (oN ?_)
  refine lQ _ ?_ ?_
  ·try dsimp only
   exact ⟨by omega, by omega, all_tk hk0 (by omega) hk2 (by rw [decide_eq_true_eq]; have := codeX_nn im (im.codes[k.toNat]'(by omega)); omega)⟩
  ·(show Int.toNat _ < Int.toNat _); omega
 try simp only [HS] at h3
 refine W_exit (tE (loopQ_e (inBlk_y (tN (sQ (rG (eZ Z (oN (tN (rT (eR ?_)))))))))))
 ·first
  | exact retB (image_1 (by assumption)).symm
  | exact retB (image_2 hx1.1 (by assumption)).symm
  | exact retB (image_3 hk0 (by omega) (by omega)).symm
  | exact retB (image_0 (by assumption) hx1.1 (by assumption) (all_fl (by omega) hk2)).symm
end Go.Proofs.YtimpganophnehaaGreat
