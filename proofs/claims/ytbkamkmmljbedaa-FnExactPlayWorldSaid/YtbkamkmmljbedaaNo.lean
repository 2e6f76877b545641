/- Walks and laws of the claim. -/
import Derived.Test.YtbkamkmmljbedaaNg
set_option linter.unusedVariables false
set_option linter.unusedSimpArgs false
set_option maxRecDepth 10000
set_option maxHeartbeats 2000000
namespace Go.Proofs.Ytbkamkmmljbedaa
open Go.Eng
open Go.Eng
def pickM (w : World) (p : Int) : List Int := at0 [] (movesOf w) (p.tmod (movesOf w).length)
def playL (w : World) (n : Int) : List Int → World × Int
 | [] => (w, n)
 | p :: ps => if (movesOf w).length = 0 then (w, n) else if doOk w (pickM w p) then playL (doW w (pickM w p)) (n + 1) ps else (w, n)
def pwOk (room : List Int) (acts : List (List Act)) (picks : List Int) : Bool := goodWorld (newW room acts) && (decide (picks.length ≤ 120) && allIn picks 0 999)
def pwR (room : List Int) (acts : List (List Act)) (picks : List Int) : World × Int := if pwOk room acts picks then playL (newW room acts) 0 picks else (world0, 0)
theorem tmod_in {p : Int} {n : Nat} (hp : 0 ≤ p) (hn : n ≠ 0) : 0 ≤ p.tmod n ∧ p.tmod n < n := by
 rw [Int.tmod_eq_emod_of_nonneg hp]
 exact ⟨Int.emod_nonneg _ (Int.natCast_ne_zero.2 hn), Int.emod_lt_of_pos _ (Int.natCast_pos.2 (Nat.pos_of_ne_zero hn))⟩
theorem pick_mem {w : World} {p : Int} (hp : 0 ≤ p) (hn : (movesOf w).length ≠ 0) : pickM w p ∈ movesOf w := by
 obtain ⟨h0, h1⟩ := tmod_in hp hn
 rw [pickM, at0_of h0 h1]
 exact List.getElem_mem _
theorem playL_at {w : World} {n k : Int} {l : List Int} (h0 : 0 ≤ k) (h1 : k < l.length) : playL w n (l.drop k.toNat) = if (movesOf w).length = 0 then (w, n) else if doOk w (pickM w (l[k.toNat]'(by omega))) then playL (doW w (pickM w (l[k.toNat]'(by omega)))) (n + 1) (l.drop (k + 1).toNat) else (w, n) := by
 rw [drop_at h0 h1, playL]
theorem allIn_at {l : List Int} {lo hi : Int} (h : allIn l lo hi = true) {i : Nat} (hi' : i < l.length) : lo ≤ l[i] ∧ l[i] ≤ hi := by
 rw [allIn, List.all_eq_true] at h
 exact of_decide_eq_true (h _ (List.getElem_mem hi'))
theorem pw_no {room : List Int} {acts : List (List Act)} {picks : List Int} (h : pwOk room acts picks = false) : [world0.dd, D.t (T.v (.int .i64 0)), D.t (T.v (.bool false))] = [(pwR room acts picks).1.dd, D.t (T.int (pwR room acts picks).2), D.t (T.bool (pwOk room acts picks))] := by
 rw [pwR, h]; rfl
theorem pw_yes {room : List Int} {acts : List (List Act)} {picks : List Int} {w : World} {n : Int} (h : pwOk room acts picks = true) (hp : playL (newW room acts) 0 picks = (w, n)) : [w.dd, D.t (T.v (.int .i64 n)), D.t (T.v (.bool true))] = [(pwR room acts picks).1.dd, D.t (T.int (pwR room acts picks).2), D.t (T.bool (pwOk room acts picks))] := by
 rw [pwR, h, if_pos rfl, hp]
theorem pwr_no {room : List Int} {acts : List (List Act)} {picks : List Int} (h : pwOk room acts picks = false) : [world0.rd, D.t (T.v (.int .i64 0)), D.t (T.v (.bool false))] = [(pwR room acts picks).1.rd, D.t (T.int (pwR room acts picks).2), D.t (T.bool (pwOk room acts picks))] := by
 rw [pwR, h]; rfl
theorem pwr_yes {room : List Int} {acts : List (List Act)} {picks : List Int} {w : World} {n : Int} (h : pwOk room acts picks = true) (hp : playL (newW room acts) 0 picks = (w, n)) : [w.rd, D.t (T.v (.int .i64 n)), D.t (T.v (.bool true))] = [(pwR room acts picks).1.rd, D.t (T.int (pwR room acts picks).2), D.t (T.bool (pwOk room acts picks))] := by
 rw [pwR, h, if_pos rfl, hp]
theorem pw_any {picks : List Int} (h : (picks.any fun n => !decide (0 ≤ n ∧ n ≤ 999)) = true) : allIn picks 0 999 = false := by
 rw [allIn, List.any_eq_true] at *
 obtain ⟨x, h1, h2⟩ := h
 rw [Bool.eq_false_iff]
 intro h3
 rw [List.all_eq_true] at h3
 have := h3 x h1
 simp_all
theorem playWorld1_fun (n : Int) : Fun Try.prog 67 [.t (.int n)] (tupD [.t (.bool (!decide (0 ≤ n ∧ n ≤ 999)))]) := by
 refine Fun.begin tys Try.func67 Z Z (N := 6) [(0, .t (.int n))] Z Z (fun w0 G F0 => ?_)
 refine sQ (rG (eZ Z (oN (tN (sQ (rG (eZ Z (callB ?_))))))))
 refine ⟨_, within_fun _ _ _, rfl, ?_⟩
 refine eK 2 Z (oN (tN (rT (eR ?_))))
 ·rfl
theorem implPlay_fun (room : List Int) (acts : List (List Act)) (picks : List Int) (hr : room.length ≤ 1048576) (ha : okL 1048576 (okL 1048576 (Act.ok 1048576)) acts) (ha' : okL 9223372036854775807 (okL 9223372036854775807 (Act.ok 9223372036854775807)) acts) (hp : picks.length ≤ 1048576) : Fun Try.prog 33 [.t (T.ints room), .t (T.ActLs acts), .t (T.ints picks)] (tupD [(pwR room acts picks).1.dd, .t (.int (pwR room acts picks).2), .t (.bool (pwOk room acts picks))]) := by
  refine Fun.begin tys Try.func33 Z Z (N := 60) [(0, .t (T.ints room)), (1, .t (T.ActLs acts)), (2, .t (T.ints picks))] Z Z (fun w0 G F0 => ?_)
  refine sQ (rG (WO_alloc tys Z Z (lt_of Z) Z Z Z (nZ Z (eK 2 Z (oN (tN (sQ (rG (eK 2 Z (callB ?_))))))))))
  refine ⟨_, newWorld_fun room acts hr ha ha', rfl, ?_⟩
  refine WO_moveAll Z Z (lt_of Z) (.inr Z) Z Z (WO_extract Z Z (lt_of Z) Z Z Z Z ?_)
  first | refine WO_le (Le.adoptE (u := 19) 19 rfl (by first | exact lenN | exact rfl)) ?_ | skip
  refine nZ Z (WO_evF tys Z Z (lt_of Z) (d := .t _) Z (nZ Z (kZ [2,6,7,8,19,20] Z (WO_alloc tys Z Z (lt_of Z) Z Z Z (nZ Z (sT Z (nZ Z (eZ Z (oN (tN (sQ (sQ (rG (eK 3 Z ?_))))))))))))))
  refine WO_guard Z Z Z Z (lt_of Z) (fun h1 => ?_) (fun h1 => ?_)
  rotate_left
  ·
    simp only [HS] at h1
    refine gM Z (gM Z (eZ Z (kZ [2,6,7,8,9,27] Z (eZ Z (gM Z (gM Z (eZ Z (oN (tN (W_condT Z (sQ (rG (WO_struct tys Z Z (lt_of Z) Z Z Z (by kernel_rfl) Z Z Z Z Z Z (sT Z (nZ Z ?_)))))))))))))))
    refine eK 2 Z (oN (tN ?_))
    (first | (refine W_le (Le.nilBox (u := 6) (j := 0) 1 rfl rfl) ?_; refine W_norm rfl ?_; refine W_le (Le.nilBox (u := 6) (j := 1) 1 rfl rfl) ?_; refine W_norm rfl ?_; refine W_le (Le.nilBox (u := 6) (j := 2) 1 rfl rfl) ?_; refine W_norm rfl ?_; refine W_le (Le.nilBox (u := 6) (j := 3) 4 rfl rfl) ?_; refine W_norm rfl ?_; refine W_le (Le.nilBox (u := 6) (j := 4) 1 rfl rfl) ?_; refine W_norm rfl ?_) | skip)
    refine rT (tR (eR ?_))
    · first
      | (refine pw_no ?_; unfold pwOk; rw [h1]; rfl)
  simp only [HS] at h1
  refine eZ Z (gY Z (evE ?_))
  refine gY Z (eZ Z (kZ [2,6,7,8,9,23,26] Z (eK 2 Z ?_)))
  refine WO_guard Z Z Z Z (lt_of Z) (fun h2 => ?_) (fun h2 => ?_)
  rotate_left
  ·
    simp only [HS] at h2
    refine gM Z (eZ Z (oN (tN (W_condT Z (sQ (rG (WO_struct tys Z Z (lt_of Z) Z Z Z (by kernel_rfl) Z Z Z Z Z Z (sT Z (nZ Z (eK 2 Z (oN (tN ?_))))))))))))
    (first | (refine W_le (Le.nilBox (u := 6) (j := 0) 1 rfl rfl) ?_; refine W_norm rfl ?_; refine W_le (Le.nilBox (u := 6) (j := 1) 1 rfl rfl) ?_; refine W_norm rfl ?_; refine W_le (Le.nilBox (u := 6) (j := 2) 1 rfl rfl) ?_; refine W_norm rfl ?_; refine W_le (Le.nilBox (u := 6) (j := 3) 4 rfl rfl) ?_; refine W_norm rfl ?_; refine W_le (Le.nilBox (u := 6) (j := 4) 1 rfl rfl) ?_; refine W_norm rfl ?_) | skip)
    refine rT (tR (eR ?_))
    · first
      | (refine pw_no ?_; unfold pwOk; rw [show decide (picks.length ≤ 120) = false from decide_eq_false (by omega)]; simp; done)
  simp only [HS] at h2
  refine eZ Z (gY Z (callB ?_))
  refine ⟨_, hasS_fun picks (fun n => !decide (0 ≤ n ∧ n ≤ 999)) _ [] Z (by omega) (fun x _ => playWorld1_fun x), rfl, ?_⟩
  refine eZ Z (oN (tN ?_))
  refine W_cond Z (fun h3 => ?_) (fun h3 => ?_)
  ·
    refine sQ (rG (WO_struct tys Z Z (lt_of Z) Z Z Z (by kernel_rfl) Z Z Z Z Z Z (sT Z (nZ Z (eK 2 Z (kZ [2,6,7,8,9] Z (oN (tN ?_))))))))
    (first | (refine W_le (Le.nilBox (u := 6) (j := 0) 1 rfl rfl) ?_; refine W_norm rfl ?_; refine W_le (Le.nilBox (u := 6) (j := 1) 1 rfl rfl) ?_; refine W_norm rfl ?_; refine W_le (Le.nilBox (u := 6) (j := 2) 1 rfl rfl) ?_; refine W_norm rfl ?_; refine W_le (Le.nilBox (u := 6) (j := 3) 4 rfl rfl) ?_; refine W_norm rfl ?_; refine W_le (Le.nilBox (u := 6) (j := 4) 1 rfl rfl) ?_; refine W_norm rfl ?_) | skip)
    refine rT (tR (eR ?_))
    · first
      | (refine pw_no ?_; unfold pwOk; rw [pw_any h3]; simp; done)
  refine W_skip (tN (sQ (rG (eZ Z (oN (tN (sQ (sQ ?_))))))))
  have hg : goodWorld (newW room acts) = true := by simp_all
  have hpl : picks.length ≤ 120 := by first | omega | (simp_all; done) | (simp_all; omega)
  have hpi : allIn picks 0 999 = true := by
   rw [allIn, List.all_eq_true]
   intro x hx
   simp_all
   done
  have hok : pwOk room acts picks = true := by rw [pwOk, hg, hpi]; simp [hpl]
  rw [show nwR room acts = newW room acts from by rw [nwR, if_pos hg]]
  refine rG (eZ Z (evE ?_))
  refine eZ Z (kZ [6,7,8,9,11,33,34,35] Z (oN (tN (W_block ?_))))
  refine lK (α := Int × World) [2, 6, 8, 9, 33, 34] [6] (fun x => [(35, .t (.int (x.1))), (11, .t (.int (x.1)))]) (fun x => [(9, .box [.own (T.ints (x.2).room), .own (intss (x.2).held), .own (T.bools (x.2).shut), .own (T.Tasks (x.2).tasks), .own (T.ints (x.2).trace)])]) (fun x => 0 ≤ (x.1) ∧ (x.1) ≤ picks.length ∧ goodWorld (x.2) = true ∧ playL (newW room acts) 0 picks = playL (x.2) (x.1) (picks.drop (x.1).toNat)) (fun x => Int.toNat (picks.length - (x.1))) (0, newW room acts) ?_ (fun x hx => ?_)
  · exact ⟨by omega, by omega, hg, rfl⟩
  obtain ⟨k, w⟩ := x
  obtain ⟨hk0, hk1, hgw, hpe⟩ := hx
  dsimp only at hk0 hk1 hgw hpe ⊢
  refine nY Z (sQ (rG (eZ Z (oN (tN (sQ ?_))))))
  refine W_cond Z (fun h4 => ?_) (fun h4 => ?_)
  ·
    simp only [HS] at h4
    refine W_skip (tN (sQ (W_block (sQ (rG (WO_idxT tys Z Z (lt_of Z) Z Z Z Z Z Z Z (by omega) _ (getT _ _ (by omega) (by omega)) (eK 2 Z (oN (tN (sQ ?_))))))))))
    have hkp : 0 ≤ picks[k.toNat]'(by omega) := (allIn_at hpi _).1
    have hlf := movesOf_four (good_of hgw)
    refine nY Z (W_WO ?_)
    refine WO_exposeBox (u := 9) (idp := 140) (j := 0) Z Z Z (fun v0 => ?_)
    refine nZ Z ?_
    refine WO_exposeBox (u := 9) (idp := 141) (j := 1) Z Z Z (fun v1 => ?_)
    refine nZ Z ?_
    refine WO_exposeBox (u := 9) (idp := 142) (j := 2) Z Z Z (fun v2 => ?_)
    refine nZ Z ?_
    refine WO_exposeBox (u := 9) (idp := 143) (j := 3) Z Z Z (fun v3 => ?_)
    refine nZ Z ?_
    refine WO_exposeBox (u := 9) (idp := 144) (j := 4) Z Z Z (fun v4 => ?_)
    refine nZ Z (WO_le (Le.roNil 99) (nZ Z (oN (rG (eZ Z (nZ Z (WO_callV Z Z (lt_of Z) Z Z (ViewL.told5 (i0 := 140) (i1 := 141) (i2 := 142) (i3 := 143) (i4 := 144) (idr := 99) Z Z Z Z Z Z (fun h1 h2 => h1)) (movesIn_fun w (good_of hgw)) Z (nZ Z (WO_le (Le.freeze (u := 40) Z) (nZ Z (WO_le (Le.claimBox (u := 9) (idp := 140) (j := 0) Z Z Z Z) (nZ Z (WO_le (Le.claimBox (u := 9) (idp := 141) (j := 1) Z Z Z Z) (nZ Z (WO_le (Le.claimBox (u := 9) (idp := 142) (j := 2) Z Z Z Z) ?_)))))))))))))))
    refine nZ Z (WO_le (Le.claimBox (u := 9) (idp := 143) (j := 3) Z Z Z Z) (nZ Z (WO_le (Le.claimBox (u := 9) (idp := 144) (j := 4) Z Z Z Z) (nZ Z (eZ Z (oN (tN (sQ (sQ (kY [2,6,8,9,11,13,14,33,34,35,36,37,38,39,40] Z (rG (eZ Z (evE ?_)))))))))))))
    refine eK 2 Z ?_
    refine WO_guard Z Z Z Z (lt_of Z) (fun h5 => ?_) (fun h5 => ?_)
    rotate_left
    ·
      simp only [HS] at h5
      refine gM Z (gM Z (gM Z (gM Z (gM Z (kZ [2,6,8,9,11,13,14,33,34,35,36,37,38,39,40,41,42,43,44,45,46,47,48,49,50] Z (gM Z (gM Z (gM Z (eZ Z (oN (tN (W_condT Z (W_exit (tE (inBlk_e Z ?_)))))))))))))))
      refine tE (loopQ_e (inBlk_y (tN (sQ (rG (WO_loadMove tys Z Z (lt_of Z) Z Z Z Z Z Z (nZ Z (eZ Z (sT Z (nZ Z (eK 2 Z (kZ [6,7,8] Z (oN (tN ?_))))))))))))))
      (first | (refine W_le (Le.nilBox (u := 6) (j := 0) 1 rfl rfl) ?_; refine W_norm rfl ?_; refine W_le (Le.nilBox (u := 6) (j := 1) 1 rfl rfl) ?_; refine W_norm rfl ?_; refine W_le (Le.nilBox (u := 6) (j := 2) 1 rfl rfl) ?_; refine W_norm rfl ?_; refine W_le (Le.nilBox (u := 6) (j := 3) 4 rfl rfl) ?_; refine W_norm rfl ?_; refine W_le (Le.nilBox (u := 6) (j := 4) 1 rfl rfl) ?_; refine W_norm rfl ?_) | skip)
      refine rT (eR ?_)
      · first
        | exact pw_yes hok (by rw [hpe, playL_at hk0 (by omega), if_pos (by omega)])
    simp only [HS] at h5
    refine eZ Z (gY Z (eZ Z (gY Z (eZ Z (gY Z (evE ?_))))))
    refine gY Z (WO_rem Z Z (lt_of Z) Z Z Z (by simpa using h5) ?_)
    refine kZ [2,6,8,9,11,13,14,33,34,35,36,37,38,39,40,41,42,43,44,45,46,47,48,49] Z (gY Z ?_)
    have hne : (movesOf w).length ≠ 0 := by omega
    have htm := tmod_in hkp hne
    refine WO_idxT tys Z Z (lt_of Z) Z Z Z Z Z Z Z htm.1 _ (getT _ _ htm.1 htm.2) (gY Z (eZ Z (gY Z ?_)))
    obtain ⟨mv, hmv⟩ : ∃ mv, mv = pickM w (picks[k.toNat]'(by omega)) := ⟨_, rfl⟩
    rw [show (movesOf w)[(Int.tmod (picks[k.toNat]'(by omega)) (movesOf w).length).toNat]'(by omega) = mv from by rw [hmv, pickM, at0_of htm.1 htm.2]]
    have hmm : mv ∈ movesOf w := by rw [hmv]; exact pick_mem hkp hne
    have hm := moves_ok hmm
    have hgw2 := gw_iff.1 hgw
    have htl := hgw2.tasks
    refine WO_exposeBox (u := 9) (idp := 133) (j := 3) Z Z Z (fun v => ?_)
    refine nZ Z ?_
    refine WO_explode (id := 133) (j := 0) (id2 := 101) (n := 4) (u := v) (xs := w.tasks.map Task.tt) Z Z Z Z Z (fun e ad bt cap ws hu hb he hlc hcm hn => ?_)
    obtain rfl : e = false := by
     cases e with
     | false => rfl
     | true =>
      have := he rfl
      rw [List.map_eq_nil_iff] at this
      rw [this] at htl
      simp at htl
    obtain rfl : ad = some ⟨bt, 0, none⟩ := hb rfl
    subst hu
    refine nZ Z ?_
    refine WO_ofRaw (id := 101) Z (fun _ _ => own_tcs) (fun htc => ?_)
    obtain ⟨hdr, hh, rfl⟩ := htc
    refine WO_le (Le.eqK (id := 101) (k' := .raw bt (cap * 4) (tcsW (hdr.zip w.tasks)) (tcsT (hdr.zip w.tasks))) Z (by rw [← tcsT_zip hh])) ?_
    refine nZ Z ?_
    refine WO_pin (u := 9) (pid := 1009) Z Z (fun bw => ?_)
    refine nZ Z (WO_le (Le.roNil 99) ?_)
    have hlc' : w.tasks.length ≤ cap := by rw [List.length_map] at hlc; exact hlc
    rw [List.length_map]
    have hI := doI_eq (mv := mv) hgw2
    have hrl : (doR w mv).tasks.length = w.tasks.length := doR_len w mv
    refine WO_le (Le.close (u := 9) 1009 Z Z Z) (nZ Z ?_)
    refine WO_callP (rid := 99) [9, 101] Z Z (lt_of Z) Z Z (by repeat (first | exact ResP.done | refine ResP.pin0 1009 Z ?_ | refine ResP.pin0 1101 Z ?_ | refine ResP.t ?_ | refine ResP.nil 1 ?_ | refine ResP.nil' ?_ | refine ResP.own ?_ | refine ResP.sl Z Z (by first | omega | (simp; omega)) ?_ | refine ResP.aggT (by repeat (first | exact ResP.done | refine ResP.t ?_)) ?_)) Z (by repeat (first | exact trivial | refine ⟨rfl, rfl, ?_⟩)) (by decide) (doI_fun bw bt cap w hdr mv hgw hm hh hlc') Z Z Z ?_
    refine nZ Z (WO_le (Le.open (u := 9) 1009 Z Z Z Z) (nZ Z (gY Z (nZ Z (WO_le (Le.eqK (id := 101) (k' := rb false bt (cap * 4) (tcsW (hdr.zip (doR w mv).tasks)) (((doR w mv).tasks.map Task.tt).flatMap T.cells)) Z (by rw [tcsT_zip (hh.trans hrl.symm)]; rfl)) ?_)))))
    refine nZ Z (WO_le (Le.implode (id := 133) (id2 := 101) (j := 0) (n := 4) (e := false) (b := bt) (cap := cap) (ad := some ⟨bt, 0, none⟩) (len := w.tasks.length) (u := .slice (some ⟨bt, 0, none⟩) w.tasks.length cap) (ws := tcsW (hdr.zip (doR w mv).tasks)) (ys := (doR w mv).tasks.map Task.tt) Z Z Z Z Z Z (fun _ => rfl) (fun h => by cases h) (by rw [List.length_map, hrl]) hlc' hcm tasks_cells Z) ?_)
    refine nZ Z (WO_le (Le.claimBox (u := 9) (idp := 133) (j := 3) Z Z Z Z) (nZ Z (eK 2 Z (oN (tN ?_)))))
    refine W_cond Z (fun h6 => ?_) (fun h6 => ?_)
    ·
      simp only [HS] at h6
      refine W_exit (tE (inBlk_e Z (tE (loopQ_e (inBlk_y (tN (sQ (rG (WO_loadMove tys Z Z (lt_of Z) Z Z Z Z Z Z (nZ Z (eZ Z (sT Z (nZ Z (eZ Z (kZ [6,7,8] Z ?_)))))))))))))))
      refine eZ Z (oN (tN ?_))
      (first | (refine W_le (Le.nilBox (u := 6) (j := 0) 1 rfl rfl) ?_; refine W_norm rfl ?_; refine W_le (Le.nilBox (u := 6) (j := 1) 1 rfl rfl) ?_; refine W_norm rfl ?_; refine W_le (Le.nilBox (u := 6) (j := 2) 1 rfl rfl) ?_; refine W_norm rfl ?_; refine W_le (Le.nilBox (u := 6) (j := 3) 4 rfl rfl) ?_; refine W_norm rfl ?_; refine W_le (Le.nilBox (u := 6) (j := 4) 1 rfl rfl) ?_; refine W_norm rfl ?_) | skip)
      refine rT (eR ?_)
      · first
        | (rw [show doR w mv = w from by rw [doR, show doI w mv = false from by simp_all]; rfl]; exact pw_yes hok (by rw [hpe, playL_at hk0 (by omega), if_neg hne, ← hmv, if_neg (by rw [← hI]; simp_all)]))
    simp only [HS] at h6
    refine W_skip (tN (rG (eZ Z (evI ?_))))
    refine eZ Z (oN (bN (tN (kY [2,6,8,9,11,13,14,33,34,35,36,37,38,39,40,41,42,43,44,45,46,47,48,49,50,51,52,53,54,55,56] Z (rG (evI ?_))))))
    refine eZ Z (oN ?_)
    refine lQ (_, doR w mv) ?_ ?_
    · dsimp only
      have hd : doI w mv = true := by simp_all
      have hd2 : doOk w mv = true := by rw [← hI]; exact hd
      have hdr2 : doR w mv = doW w mv := by rw [doR, if_pos hd]
      refine ⟨by omega, by omega, by rw [hdr2]; exact good_doW hgw hm hd2, ?_⟩
      rw [hpe, playL_at hk0 (by omega), if_neg hne, ← hmv, if_pos hd2, hdr2]
    · (show Int.toNat _ < Int.toNat _); omega
  simp only [HS] at h4
  refine W_exit (tE (loopQ_e (inBlk_y (tN (sQ (rG (WO_loadMove tys Z Z (lt_of Z) Z Z Z Z Z Z (nZ Z (eZ Z (sT Z (nZ Z (eK 2 Z (oN (tN ?_))))))))))))))
  (first | (refine W_le (Le.nilBox (u := 6) (j := 0) 1 rfl rfl) ?_; refine W_norm rfl ?_; refine W_le (Le.nilBox (u := 6) (j := 1) 1 rfl rfl) ?_; refine W_norm rfl ?_; refine W_le (Le.nilBox (u := 6) (j := 2) 1 rfl rfl) ?_; refine W_norm rfl ?_; refine W_le (Le.nilBox (u := 6) (j := 3) 4 rfl rfl) ?_; refine W_norm rfl ?_; refine W_le (Le.nilBox (u := 6) (j := 4) 1 rfl rfl) ?_; refine W_norm rfl ?_) | skip)
  refine rT (eR ?_)
  · first
    | exact pw_yes hok (by rw [hpe, drop_end (by omega)]; rfl)
open Go.Eng
theorem specPlay_fun (room : List Int) (acts : List (List Act)) (picks : List Int) (hr : room.length ≤ 1048576) (ha : okL 1048576 (okL 1048576 (Act.ok 1048576)) acts) (hp : picks.length ≤ 1048576) : Fun Try.prog 32 [.t (T.ints room), .t (T.ActLs acts), .t (T.ints picks)] (tupD [(pwR room acts picks).1.rd, .t (.int (pwR room acts picks).2), .t (.bool (pwOk room acts picks))]) := by
 refine Fun.begin tys Try.func32 Z Z (N := 70) [(0, .t (T.ints room)), (1, .t (T.ActLs acts)), (2, .t (T.ints picks))] Z Z (fun w0 G F0 => ?_)
 refine sQ (rG (WO_alloc tys Z Z (lt_of Z) Z Z Z (nZ Z (eK 2 Z (oN (tN (sQ (rG (eK 2 Z (WO_callF Z Z (lt_of Z) Z Z Z Z Z (specNew_fun room acts hr ha) Z (eZ Z (WO_extract Z Z (lt_of Z) Z Z Z Z ?_))))))))))))
 first | refine WO_le (Le.adoptE (u := 20) 20 rfl (by first | exact lenN | exact rfl)) ?_ | skip
 refine nZ Z (WO_evF tys Z Z (lt_of Z) (d := .t _) Z (nZ Z (kZ [2,6,7,8,20,21] Z (WO_alloc tys Z Z (lt_of Z) Z Z Z (nZ Z (sT Z (nZ Z (eZ Z (oN (tN (sQ (sQ (rG (eK 3 Z ?_))))))))))))))
 refine WO_guard Z Z Z Z (lt_of Z) (fun h1 => ?_) (fun h1 => ?_)
 rotate_left
 ·
  simp only [HS] at h1
  refine gM Z (gM Z (eZ Z (kZ [2,6,7,8,9,28] Z (eZ Z (gM Z (gM Z (gM Z (eZ Z (oN (tN (W_condT Z (sQ (rG (WO_struct tys Z Z (lt_of Z) Z Z Z (by kernel_rfl) Z Z Z Z Z Z (sT Z ?_)))))))))))))))
  refine nZ Z (eK 2 Z (kZ [2,6,7,8,9] Z (oN (tN ?_))))
  (first | (refine W_tellT (u := 6) (j := 3) (p := fun y => y = T.Tasks w.tasks) rfl rfl (fun h => ⟨_, rfl, relTaskL hx h⟩) (fun y hy => ?_); subst hy; refine W_norm rfl ?_) | (refine W_le (Le.nilBox (u := 6) (j := 0) 1 rfl rfl) ?_; refine W_norm rfl ?_; refine W_le (Le.nilBox (u := 6) (j := 1) 1 rfl rfl) ?_; refine W_norm rfl ?_; refine W_le (Le.nilBox (u := 6) (j := 2) 1 rfl rfl) ?_; refine W_norm rfl ?_; refine W_le (Le.nilBox (u := 6) (j := 3) 4 rfl rfl) ?_; refine W_norm rfl ?_; refine W_le (Le.nilBox (u := 6) (j := 4) 1 rfl rfl) ?_; refine W_norm rfl ?_; refine W_le (Le.freezeB (u := 6) rfl rfl) ?_; refine W_norm rfl ?_) | skip)
  refine rT (tR (eR ?_))
  ·first
   | (refine pwr_no ?_; unfold pwOk; rw [h1]; rfl)
 simp only [HS] at h1
 refine eZ Z (gY Z (evE ?_))
 refine gY Z (eZ Z (kZ [2,6,7,8,9,24,27] Z (eK 2 Z ?_)))
 refine WO_guard Z Z Z Z (lt_of Z) (fun h2 => ?_) (fun h2 => ?_)
 rotate_left
 ·
  simp only [HS] at h2
  refine gM Z (gM Z (eZ Z (oN (tN (W_condT Z (sQ (rG (WO_struct tys Z Z (lt_of Z) Z Z Z (by kernel_rfl) Z Z Z Z Z Z (sT Z (nZ Z (eK 2 Z (kZ [2,6,7,8,9] Z (oN (tN ?_))))))))))))))
  (first | (refine W_tellT (u := 6) (j := 3) (p := fun y => y = T.Tasks w.tasks) rfl rfl (fun h => ⟨_, rfl, relTaskL hx h⟩) (fun y hy => ?_); subst hy; refine W_norm rfl ?_) | (refine W_le (Le.nilBox (u := 6) (j := 0) 1 rfl rfl) ?_; refine W_norm rfl ?_; refine W_le (Le.nilBox (u := 6) (j := 1) 1 rfl rfl) ?_; refine W_norm rfl ?_; refine W_le (Le.nilBox (u := 6) (j := 2) 1 rfl rfl) ?_; refine W_norm rfl ?_; refine W_le (Le.nilBox (u := 6) (j := 3) 4 rfl rfl) ?_; refine W_norm rfl ?_; refine W_le (Le.nilBox (u := 6) (j := 4) 1 rfl rfl) ?_; refine W_norm rfl ?_; refine W_le (Le.freezeB (u := 6) rfl rfl) ?_; refine W_norm rfl ?_) | skip)
  refine rT (tR (eR ?_))
  ·first
   | (refine pwr_no ?_; unfold pwOk; rw [show decide (picks.length ≤ 120) = false from decide_eq_false (by omega)]; simp; done)
 simp only [HS] at h2
 refine eZ Z (gY Z (callB ?_))
 refine ⟨_, l1All_fun _ _ _ (by omega), rfl, ?_⟩
 refine gY Z (eK 2 Z (oN (tN ?_)))
 refine W_cond Z (fun h3 => ?_) (fun h3 => ?_)
 ·
  simp only [HS] at h3
  refine sQ (rG (WO_struct tys Z Z (lt_of Z) Z Z Z (by kernel_rfl) Z Z Z Z Z Z (sT Z (nZ Z (eZ Z (kZ [2,6,7,8,9] Z (eZ Z (oN (tN ?_)))))))))
  (first | (refine W_tellT (u := 6) (j := 3) (p := fun y => y = T.Tasks w.tasks) rfl rfl (fun h => ⟨_, rfl, relTaskL hx h⟩) (fun y hy => ?_); subst hy; refine W_norm rfl ?_) | (refine W_le (Le.nilBox (u := 6) (j := 0) 1 rfl rfl) ?_; refine W_norm rfl ?_; refine W_le (Le.nilBox (u := 6) (j := 1) 1 rfl rfl) ?_; refine W_norm rfl ?_; refine W_le (Le.nilBox (u := 6) (j := 2) 1 rfl rfl) ?_; refine W_norm rfl ?_; refine W_le (Le.nilBox (u := 6) (j := 3) 4 rfl rfl) ?_; refine W_norm rfl ?_; refine W_le (Le.nilBox (u := 6) (j := 4) 1 rfl rfl) ?_; refine W_norm rfl ?_; refine W_le (Le.freezeB (u := 6) rfl rfl) ?_; refine W_norm rfl ?_) | skip)
  refine rT (tR (eR ?_))
  ·first
   | (refine pwr_no ?_; unfold pwOk; rw [h3]; simp; done)
 simp only [HS] at h3
 refine W_skip (tN (sQ (sQ ?_)))
 have hg : goodWorld (newW room acts) = true := by simp_all
 have hpl : picks.length ≤ 120 := by first | omega | (simp_all; done) | (simp_all; omega)
 have hpi : allIn picks 0 999 = true := by simp_all
 have hok : pwOk room acts picks = true := by rw [pwOk, hg, hpi]; simp [hpl]
 rw [show nwR room acts = newW room acts from by rw [nwR, if_pos hg]]
 refine rG (eZ Z (evE ?_))
 refine eZ Z (kZ [2,6,7,8,9,35,36,37] Z (oN (tN (W_block ?_))))
 refine lK (α := Int × World) [2, 6, 8, 9, 35, 36] [6] (fun x => [(37, .t (.int (x.1)))]) (fun x => [(9, .box [.t (T.ints (x.2).room), .t (intss (x.2).held), .t (T.bools (x.2).shut), .t (T.Tasks (x.2).tasks), .t (T.ints (x.2).trace)])]) (fun x => 0 ≤ (x.1) ∧ (x.1) ≤ picks.length ∧ goodWorld (x.2) = true ∧ playL (newW room acts) 0 picks = playL (x.2) (x.1) (picks.drop (x.1).toNat)) (fun x => Int.toNat (picks.length - (x.1))) (0, newW room acts) ?_ (fun x hx => ?_)
 ·exact ⟨by omega, by omega, hg, rfl⟩
 obtain ⟨k, w⟩ := x
 obtain ⟨hk0, hk1, hgw, hpe⟩ := hx
 dsimp only at hk0 hk1 hgw hpe ⊢
 refine nY Z (sQ (rG (eZ Z (oN (tN (sQ ?_))))))
 refine W_cond Z (fun h4 => ?_) (fun h4 => ?_)
 ·
  simp only [HS] at h4
  refine W_skip (tN (sQ (W_block (sQ ?_))))
  have hkp : 0 ≤ picks[k.toNat]'(by omega) := (allIn_at hpi _).1
  have hlf := movesOf_four (good_of hgw)
  refine rG (eZ Z (WO_idxT tys Z Z (lt_of Z) Z Z Z Z Z Z Z (by omega) _ (getT _ _ (by omega) (by omega)) (eK 3 Z (oN (tN (sQ (rG (eZ Z ?_))))))))
  try refine WO_le (Le.freeze (u := 42) rfl) ?_
  refine nZ Z (callB ?_)
  refine ⟨_, l15Moves_fun w (good_of hgw), rfl, ?_⟩
  refine WO_le (Le.freeze (u := 43) Z) (nZ Z (eZ Z (kZ [2,6,8,9,11,12,13,35,36,37,38,39,40,41,42,43] Z (oN (tN (sQ (sQ (rG (eZ Z (evE ?_))))))))))
  refine eZ Z (oN (tN ?_))
  refine W_cond Z (fun h5 => ?_) (fun h5 => ?_)
  ·
   simp only [HS] at h5
   refine sQ (rG (eZ Z ?_))
   try refine WO_le (Le.freeze (u := 47) rfl) ?_
   refine nZ Z (eZ Z (sT Z (nZ Z (eK 2 Z (oN (tN ?_))))))
   (first | (refine W_tellT (u := 6) (j := 3) (p := fun y => y = T.Tasks w.tasks) rfl rfl (fun h => ⟨_, rfl, relTaskL hx h⟩) (fun y hy => ?_); subst hy; refine W_norm rfl ?_) | (refine W_le (Le.nilBox (u := 6) (j := 0) 1 rfl rfl) ?_; refine W_norm rfl ?_; refine W_le (Le.nilBox (u := 6) (j := 1) 1 rfl rfl) ?_; refine W_norm rfl ?_; refine W_le (Le.nilBox (u := 6) (j := 2) 1 rfl rfl) ?_; refine W_norm rfl ?_; refine W_le (Le.nilBox (u := 6) (j := 3) 4 rfl rfl) ?_; refine W_norm rfl ?_; refine W_le (Le.nilBox (u := 6) (j := 4) 1 rfl rfl) ?_; refine W_norm rfl ?_; refine W_le (Le.freezeB (u := 6) rfl rfl) ?_; refine W_norm rfl ?_) | skip)
   refine rT (tR (bR (tR (loopQ_r (bR (tR (eR ?_)))))))
   ·first
    | exact pwr_yes hok (by rw [hpe, playL_at hk0 (by omega), if_pos (by omega)])
  simp only [HS] at h5
  refine W_skip (tN (sQ ?_))
  have hne : (movesOf w).length ≠ 0 := by simp_all
  have htm := tmod_in hkp hne
  obtain ⟨mv, hmv⟩ : ∃ mv, mv = pickM w (picks[k.toNat]'(by omega)) := ⟨_, rfl⟩
  have hmm : mv ∈ movesOf w := by rw [hmv]; exact pick_mem hkp hne
  have hm := moves_ok hmm
  have hgw2 := gw_iff.1 hgw
  refine nY Z ?_
  refine W_tellT (u := 9) (j := 3) (p := fun y => ∃ xs, All2 TActs xs (w.tasks.map Task.acts) ∧ y = .list 4 ((xs.zip w.tasks).map ttT)) rfl rfl (fun h => by obtain ⟨xs, h1, h2⟩ := tellTaskL (flat_good hgw) h; exact ⟨_, ⟨xs, h1, rfl⟩, h2⟩) (fun y hy => ?_)
  obtain ⟨xs, hx, rfl⟩ := hy
  refine nY Z (W_regionH [[14], [14], [14], [14], [14], [14], [14], [14], [14], [14], [14], [14], [], [], []] mixed (by kernel_rfl) (QH_G (QG_evZ tys Z Z (lt_of Z) Z Z (QG_nil (QH_G (QG_ev tys Z Z (lt_of Z) Z (QG_nil (QH_G (QG_ev tys Z Z (lt_of Z) Z (QG_nil (QH_G (QG_ev tys Z Z (lt_of Z) Z (QG_nil (QH_norm Z (QH_G ?_)))))))))))))))
  refine QG_evE tys Z Z (lt_of Z) Z (by first | exact lenM | exact Z) ?_
  refine QG_nil (QH_G (QG_rem Z Z (lt_of Z) Z Z Z (by omega) (QG_nil (QH_G (QG_idxT tys Z Z (lt_of Z) Z Z Z Z Z Z Z htm.1 _ (getT _ _ htm.1 htm.2) ?_)))))
  rw [show (movesOf w)[(Int.tmod (picks[k.toNat]'(by omega)) (movesOf w).length).toNat]'(by omega) = mv from by rw [hmv, pickM, at0_of htm.1 htm.2]]
  refine QG_nil (QH_G (QG_ev tys Z Z (lt_of Z) Z (QG_nil (QH_norm Z (QH_G (QG_callF Z Z (lt_of Z) Z Z Z Z Z (l15Do_fun w xs mv hgw hm (ok_good hgw (by decide)) hx) Z (QG_nil (QH_G (QG_ev tys Z Z (lt_of Z) Z (QG_nil (QH_G (QG_ev tys Z Z (lt_of Z) Z (QG_nil (QH_G (QG_ev tys Z Z (lt_of Z) Z ?_)))))))))))))))
  refine QG_nil (QH_norm Z (QH_G0 (QG_alloc tys Z Z (lt_of Z) Z Z Z Z (QG_nil (QH_store tys 10013 Z Z Z Z Z Z Z Z Z (Nat.le_of_ble_eq_true Z) (QH_G0 (QG_ev tys Z Z (lt_of Z) Z (QG_nil (QH_nil ?_)))))))))
  refine ⟨by kernel_rfl, ?_⟩
  refine nZ Z (oN (tN (sQ (sQ (rG (eK 2 Z (oN (tN ?_))))))))
  refine W_cond Z (fun h6 => ?_) (fun h6 => ?_)
  ·
   simp only [HS] at h6
   refine sQ (rG (eZ Z ?_))
   try refine WO_le (Le.freeze (u := 63) rfl) ?_
   refine nZ Z (eZ Z (sT Z (nZ Z (eK 2 Z (oN (tN ?_))))))
   (first | (refine W_tellT (u := 6) (j := 3) (p := fun y => y = T.Tasks w.tasks) rfl rfl (fun h => ⟨_, rfl, relTaskL hx h⟩) (fun y hy => ?_); subst hy; refine W_norm rfl ?_) | (refine W_le (Le.nilBox (u := 6) (j := 0) 1 rfl rfl) ?_; refine W_norm rfl ?_; refine W_le (Le.nilBox (u := 6) (j := 1) 1 rfl rfl) ?_; refine W_norm rfl ?_; refine W_le (Le.nilBox (u := 6) (j := 2) 1 rfl rfl) ?_; refine W_norm rfl ?_; refine W_le (Le.nilBox (u := 6) (j := 3) 4 rfl rfl) ?_; refine W_norm rfl ?_; refine W_le (Le.nilBox (u := 6) (j := 4) 1 rfl rfl) ?_; refine W_norm rfl ?_; refine W_le (Le.freezeB (u := 6) rfl rfl) ?_; refine W_norm rfl ?_) | skip)
   refine rT (tR (bR (tR (loopQ_r (bR (tR (eR ?_)))))))
   ·first
    | exact pwr_yes hok (by rw [hpe, playL_at hk0 (by omega), if_neg hne, ← hmv, if_neg (by simp_all)])
  simp only [HS] at h6
  refine W_skip (tN (rG (eZ Z ?_)))
  try refine WO_le (Le.freeze (u := 65) rfl) ?_
  refine nZ Z (sT Z (nZ Z (oN (bN (tN (nY Z ?_))))))
  refine W_tellT (u := 9) (j := 3) (p := fun y => y = T.Tasks (doW w mv).tasks) Z Z (fun h => ⟨_, rfl, relTaskL (by rw [doW_acts]; exact hx) h⟩) (fun y hy => ?_)
  subst hy
  refine nY Z (rG (evI ?_))
  refine eZ Z (oN ?_)
  refine lQ (_, doW w mv) ?_ ?_
  ·dsimp only
   have hd2 : doOk w mv = true := by simp_all
   refine ⟨by omega, by omega, good_doW hgw hm hd2, ?_⟩
   rw [hpe, playL_at hk0 (by omega), if_neg hne, ← hmv, if_pos hd2]
  ·(show Int.toNat _ < Int.toNat _); omega
 simp only [HS] at h4
 refine W_exit (tE (loopQ_e (inBlk_y (tN (sQ (rG (eZ Z ?_)))))))
 try refine WO_le (Le.freeze (u := 67) rfl) ?_
 refine nZ Z (eZ Z (evE ?_))
 refine sT Z (nZ Z (eK 2 Z (oN (tN ?_))))
 (first | (refine W_tellT (u := 6) (j := 3) (p := fun y => y = T.Tasks w.tasks) rfl rfl (fun h => ⟨_, rfl, relTaskL hx h⟩) (fun y hy => ?_); subst hy; refine W_norm rfl ?_) | (refine W_le (Le.nilBox (u := 6) (j := 0) 1 rfl rfl) ?_; refine W_norm rfl ?_; refine W_le (Le.nilBox (u := 6) (j := 1) 1 rfl rfl) ?_; refine W_norm rfl ?_; refine W_le (Le.nilBox (u := 6) (j := 2) 1 rfl rfl) ?_; refine W_norm rfl ?_; refine W_le (Le.nilBox (u := 6) (j := 3) 4 rfl rfl) ?_; refine W_norm rfl ?_; refine W_le (Le.nilBox (u := 6) (j := 4) 1 rfl rfl) ?_; refine W_norm rfl ?_; refine W_le (Le.freezeB (u := 6) rfl rfl) ?_; refine W_norm rfl ?_) | skip)
 refine rT (eR ?_)
 ·first
  | (rw [show (picks.length : Int) = k from by omega]; exact pwr_yes hok (by rw [hpe, drop_end (by omega)]; rfl))
theorem playL_good : ∀ (l : List Int) {w : World} {n : Int}, goodWorld w = true → (∀ p, p ∈ l → 0 ≤ p) → goodWorld (playL w n l).1 = true
 | [], w, n, h, _ => h
 | p :: l, w, n, h, hp => by
  rw [playL]
  split
  ·exact h
  ·rename_i hne
   split
   ·rename_i hd
    exact playL_good l (good_doW h (moves_ok (pick_mem (hp p (by simp)) hne)) hd) fun q hq => hp q (by simp [hq])
   ·exact h
theorem pwR_good (room : List Int) (acts : List (List Act)) (picks : List Int) : goodWorld (pwR room acts picks).1 = true ∨ (pwR room acts picks).1 = world0 := by
 unfold pwR
 split
 ·rename_i h
  unfold pwOk at h
  simp only [Bool.and_eq_true] at h
  exact .inl (playL_good picks h.1 fun p hp => by obtain ⟨i, hi, rfl⟩ := List.getElem_of_mem hp; exact (allIn_at h.2.2 hi).1)
 ·exact .inr rfl
theorem lawPlay_fun (room : List Int) (acts : List (List Act)) (picks : List Int) (hr : room.length ≤ 9223372036854775807) (ha : okL 9223372036854775807 (okL 9223372036854775807 (Act.ok 9223372036854775807)) acts) (hp : picks.length ≤ 9223372036854775807) : Fun Try.prog 7 [.t (T.ints room), .t (T.ActLs acts), .t (T.ints picks)] (tupD [.t (.bool true)]) := by
 refine Fun.begin tys Try.func7 Z Z (N := 159) [(0, .t (T.ints room)), (1, .t (T.ActLs acts)), (2, .t (T.ints picks))] Z Z (fun w0 G F0 => ?_)
 refine sQ (rG (eZ Z (oN (tN (sQ (sQ (rG (eZ Z (evE ?_)))))))))
 refine eZ Z (oN (tN ?_))
 refine W_cond Z (fun h1 => ?_) (fun h1 => ?_)
 ·
  simp only [HS] at h1
  refine sQ (rG (eZ Z (oN (tN (rT (tR (eR ?_)))))))
  ·rfl
 simp only [HS] at h1
 refine W_skip (tN (sQ (sQ (rG (eZ Z (evE ?_))))))
 refine eZ Z (oN (tN ?_))
 refine W_cond Z (fun h2 => ?_) (fun h2 => ?_)
 ·
  simp only [HS] at h2
  refine sQ (kY [0,1,2,6] Z (rG (eZ Z (oN (tN (rT (tR (eR ?_))))))))
  ·rfl
 simp only [HS] at h2
 refine W_skip (tN (sQ (kY [0,1,2,6] Z (rG (eZ Z (oN (tN (sQ (rG (eK 2 Z (callB ?_)))))))))))
 refine ⟨_, szActSS_fun acts 1048576 ha (by omega) (by omega), rfl, ?_⟩
 refine eZ Z (oN (tN (sQ (sQ (rG (eK 2 Z (oN (tN ?_))))))))
 refine W_cond Z (fun h3 => ?_) (fun h3 => ?_)
 ·
  simp only [HS] at h3
  refine sQ (kY [0,1,2,6] Z (rG (eZ Z (oN (tN (rT (tR (eR ?_))))))))
  ·rfl
 simp only [HS] at h3
 refine W_skip (tN (sQ (kY [0,1,2,6] Z (rG ?_))))
 have oka := (szActSS_g acts 1048576 (by omega) (by omega)).2.2 h3
 have ca := szActSS_c acts 1048576 (by omega) h3
 have cp := ctL_pos0 ctAs_pos acts
 have hal : acts.length ≤ 1048576 := oka.1
 have hz := pwR_good room acts picks
 have okr : (pwR room acts picks).1.ok 9223372036854775807 := goz_ok hz (by decide)
 have cr := goz_ct hz
 have crp := ctWorld_pos (pwR room acts picks).1
 have hrl : (pwR room acts picks).1.held.length ≤ 1048576 := (goz_ok hz (B := 1048576) (by decide)).2.1.1
 refine eZ Z (callB ?_)
 refine ⟨_, toIntS_fun room (by omega), rfl, ?_⟩
 refine WO_le (Le.freeze (u := 36) Z) (nZ Z (eZ Z (callB ?_)))
 refine ⟨_, toActSS_fun acts oka, rfl, ?_⟩
 refine WO_le (Le.freeze (u := 38) Z) (nZ Z (eZ Z (callB ?_)))
 refine ⟨_, toIntS_fun picks (by omega), rfl, ?_⟩
 refine WO_le (Le.freeze (u := 40) Z) (nZ Z (WO_callF Z Z (lt_of Z) Z Z Z Z Z (specPlay_fun room acts picks (by omega) oka (by omega)) Z (WO_moveAll Z Z (lt_of Z) (.inr Z) Z Z (WO_extract Z Z (lt_of Z) Z Z Z Z ?_))))
 first | refine WO_le (Le.adoptE (u := 42) 42 rfl (by first | exact lenN | exact rfl)) ?_ | skip
 refine nZ Z (kZ [0,1,2,6,34,42] Z (WO_evF tys Z Z (lt_of Z) (d := .t _) Z (nZ Z (WO_evF tys Z Z (lt_of Z) (d := .t _) Z (nZ Z (WO_alloc tys Z Z (lt_of Z) Z Z Z (nZ Z (sT Z (nZ Z (eK 2 Z (oN (tN (sQ (rG (eZ Z ?_)))))))))))))))
 refine callB ?_
 refine ⟨_, toIntS_fun room (by omega), rfl, ?_⟩
 refine WO_exposeS (u := 46) 46 Z (fun v46 => ?_)
 refine eZ Z (kZ [0,1,2,6,8,9,10,11] Z (oN (tN (sQ (rG (eZ Z (callB ?_)))))))
 refine ⟨_, toActSS_fun acts oka, rfl, ?_⟩
 refine WO_exposeS (u := 48) 48 Z (fun v48 => ?_)
 refine eZ Z (oN (tN (sQ (rG (eZ Z (callB ?_))))))
 refine ⟨_, toIntS_fun picks (by omega), rfl, ?_⟩
 refine WO_exposeS (u := 50) 50 Z (fun v50 => ?_)
 refine eZ Z (oN (tN (sQ (rG (eK 3 Z (kZ [0,1,2,6,8,9,10,11,12,13,52,53,54] Z ?_))))))
 refine WO_call Z Z (lt_of Z) Z Z (by refine ResL.raw (id := 46) (j := 0) Z Z Z ?_; refine ResL.raw (id := 48) (j := 0) Z Z Z ?_; refine ResL.raw (id := 50) (j := 0) Z Z Z ?_; exact ResL.done) (implPlay_fun room acts picks (by omega) oka ha (by omega)) Z ?_
 refine WO_moveAll Z Z (lt_of Z) (.inr Z) Z Z (nZ Z (WO_extract Z Z (lt_of Z) Z Z Z Z ?_))
 refine WO_exposeB (u := 56) 56 Z Z (fun v56 hv56 => ?_)
 obtain ⟨a56_0, a56_1, a56_2, a56_3, a56_4, rfl⟩ : ∃ a56_0 a56_1 a56_2 a56_3 a56_4, v56 = [a56_0, a56_1, a56_2, a56_3, a56_4] := by
  match v56, hv56 with
  | [a56_0, a56_1, a56_2, a56_3, a56_4], _ => exact ⟨_, _, _, _, _, rfl⟩
 refine nZ Z (WO_evF tys Z Z (lt_of Z) (d := .t _) Z (nZ Z (WO_evF tys Z Z (lt_of Z) (d := .t _) Z (nZ Z (WO_alloc tys Z Z (lt_of Z) Z Z Z (nZ Z (sT Z (nZ Z (eK 2 Z (kZ [0,1,2,6,8,9,10,11,12,13,14,15,16] Z (oN (tN (sQ (sQ (rG ?_)))))))))))))))
 refine eZ Z (nZ Z (eZ Z ?_))
 try refine WO_le (Le.freeze (u := 60) rfl) ?_
 refine nZ Z ?_
 refine WO_call Z Z (lt_of Z) Z Z (by refine ResL.rawA (id := 56) Z Z ?_; (first | refine ResL.t ?_ | refine ResL.own ?_ | refine ResL.aggT (by repeat (first | exact ResL.done | refine ResL.own ?_ | refine ResL.t ?_)) ?_ | refine ResL.slA Z (by first | rfl | (simp; done) | (simp; omega)) ?_ | refine ResL.nil' ?_); exact ResL.done) (eqWorld_fun (pwR room acts picks).1 (pwR room acts picks).1 okr okr) Z ?_
 refine WO_le (Le.known (t := 61) true Z (eqWorld_refl _)) (eK 2 Z (gY Z (eZ Z (gY Z (eZ Z (gY Z (eZ Z (WO_le (Le.known (t := 66) false Z (by simp)) ?_))))))))
 refine eZ Z (kZ [0,1,2,6,8,9,10,11,12,13,14,15,16,67] Z (eZ Z (gY Z (eZ Z (gY Z (eZ Z (gY Z (eZ Z (WO_le (Le.known (t := 71) false Z (by simp)) ?_)))))))))
 refine eZ Z (oN (tN (W_condF Z (W_skip (tN (sQ (sQ (rG (eK 2 Z (callB ?_))))))))))
 refine ⟨_, toIntS_fun room (by omega), rfl, ?_⟩
 refine WO_le (Le.freeze (u := 75) Z) (nZ Z ?_)
 refine WO_call Z Z (lt_of Z) Z Z (by refine ResL.raw (id := 46) (j := 0) Z Z Z ?_; (first | refine ResL.t ?_ | refine ResL.own ?_ | refine ResL.aggT (by repeat (first | exact ResL.done | refine ResL.own ?_ | refine ResL.t ?_)) ?_ | refine ResL.slA Z (by first | rfl | (simp; done) | (simp; omega)) ?_ | refine ResL.nil' ?_); exact ResL.done) (eqIntS_fun room room (by omega) (by omega)) Z ?_
 refine WO_le (Le.known (t := 76) true Z (eqIw_refl _)) (kZ [0,1,2,6,8,9,10,11,12,13,14,15,16,76] Z (eZ Z (oN (tN (W_condF Z (W_skip (tN (sQ (sQ (rG (eK 2 Z (callB ?_))))))))))))
 refine ⟨_, toActSS_fun acts oka, rfl, ?_⟩
 refine WO_le (Le.freeze (u := 80) Z) (nZ Z ?_)
 refine WO_call Z Z (lt_of Z) Z Z (by refine ResL.raw (id := 48) (j := 0) Z Z Z ?_; (first | refine ResL.t ?_ | refine ResL.own ?_ | refine ResL.aggT (by repeat (first | exact ResL.done | refine ResL.own ?_ | refine ResL.t ?_)) ?_ | refine ResL.slA Z (by first | rfl | (simp; done) | (simp; omega)) ?_ | refine ResL.nil' ?_); exact ResL.done) (eqActSS_fun acts acts ha ha) Z ?_
 refine WO_le (Le.known (t := 81) true Z (eqActL_refl _)) (eZ Z (oN (tN (W_condF Z (W_skip (tN (sQ (sQ (rG (eK 2 Z (callB ?_)))))))))))
 refine ⟨_, toIntS_fun picks (by omega), rfl, ?_⟩
 refine WO_le (Le.freeze (u := 85) Z) (nZ Z (kZ [0,1,2,6,8,9,10,11,12,13,14,15,16,83,85] Z ?_))
 refine WO_call Z Z (lt_of Z) Z Z (by refine ResL.raw (id := 50) (j := 0) Z Z Z ?_; (first | refine ResL.t ?_ | refine ResL.own ?_ | refine ResL.aggT (by repeat (first | exact ResL.done | refine ResL.own ?_ | refine ResL.t ?_)) ?_ | refine ResL.slA Z (by first | rfl | (simp; done) | (simp; omega)) ?_ | refine ResL.nil' ?_); exact ResL.done) (eqIntS_fun picks picks (by omega) (by omega)) Z ?_
 refine WO_le (Le.known (t := 86) true Z (eqIw_refl _)) (eZ Z (oN (tN (W_condF Z (W_skip (tN (sQ (rG (eZ Z (oN (tN (sQ (rG (eK 2 Z (WO_markN (id := 46) (j := 0) Z Z (lt_of Z) Z Z Z Z Z Z Z Z (markIntS_m room 1 (by omega) (by omega)) ?_)))))))))))))))
 refine nZ Z (eZ Z (oN (tN (sQ (kY [0,1,2,6,8,9,10,12,13,14,15,16,17] Z (rG (eK 2 Z (WO_markN (id := 48) (j := 0) Z Z (lt_of Z) Z Z Z Z Z Z Z Z (markActSS_m acts (1 + room.length) (by omega) (by omega) (by omega)) (nZ Z (eZ Z (oN (tN (sQ (rG (eK 2 Z ?_)))))))))))))))
 refine WO_markN (id := 50) (j := 0) Z Z (lt_of Z) Z Z Z Z Z Z Z Z (markIntS_m picks (1 + room.length + ctL ctAs acts) (by omega) (by omega)) (nZ Z (eZ Z (oN (tN (sQ (sQ (kY [0,1,2,6,8,9,10,14,15,16,17] Z (rG (eK 2 Z (WO_le (Le.known (t := 98) false Z (by simp; omega)) ?_))))))))))
 refine eZ Z (gY Z (eZ Z (nZ Z (gY Z (eZ Z ?_)))))
 try refine WO_le (Le.freeze (u := 101) rfl) ?_
 refine nZ Z (gY Z ?_)
 refine WO_call Z Z (lt_of Z) Z Z (by refine ResL.rawA (id := 56) Z Z ?_; (first | refine ResL.t ?_ | refine ResL.own ?_ | refine ResL.aggT (by repeat (first | exact ResL.done | refine ResL.own ?_ | refine ResL.t ?_)) ?_ | refine ResL.slA Z (by first | rfl | (simp; done) | (simp; omega)) ?_ | refine ResL.nil' ?_); exact ResL.done) (eqWorld_fun (pwR room acts picks).1 (pwR room acts picks).1 okr okr) Z ?_
 refine WO_le (Le.known (t := 102) true Z (eqWorld_refl _)) (gY Z (eK 3 Z (kZ [0,1,2,6,8,9,10,14,15,16,105] Z (gY Z (eZ Z (gY Z (eZ Z (gY Z (eZ Z (WO_le (Le.known (t := 108) false Z (by simp)) ?_))))))))))
 refine eK 2 Z (gY Z (eZ Z (gY Z (eZ Z (gY Z (eZ Z (WO_le (Le.known (t := 113) false Z (by simp)) ?_)))))))
 refine eZ Z (kZ [0,1,2,6,8,9,10,14,114] Z (oN (tN (W_condF Z (W_skip (tN (sQ (rG (eZ Z (oN (tN (sQ (rG (eZ Z (nZ Z ?_)))))))))))))))
 refine eZ Z (WO_markS (id := 56) Z Z (lt_of Z) Z Z Z Z Z (markWorld_m (pwR room acts picks).1 1 (by omega) (by omega) (by omega)) (nZ Z (eZ Z (oN (tN (sQ (rG (eZ Z (oN (tN (sQ (rG (eZ Z (nZ Z (eZ Z ?_)))))))))))))))
 refine WO_call Z Z (lt_of Z) Z Z (by refine ResL.rawA (id := 56) Z Z ?_; (first | refine ResL.t ?_ | refine ResL.own ?_ | refine ResL.aggT (by repeat (first | exact ResL.done | refine ResL.own ?_ | refine ResL.t ?_)) ?_ | refine ResL.slA Z (by first | rfl | (simp; done) | (simp; omega)) ?_ | refine ResL.nil' ?_); exact ResL.done) (heldWorld_mk (pwR room acts picks).1 1 (by omega) (by omega) (by omega)) Z ?_
 refine kZ [0,1,2,6,8,9,10,14,18,19,120] Z (eZ Z (oN (tN (sQ (sQ (rG (eK 2 Z (WO_le (Le.known (t := 122) false Z (by simp; omega)) ?_))))))))
 refine oN (tN (W_condF Z (W_skip (tN (sQ (sQ (rG (eK 3 Z (WO_le (Le.known (t := 125) false Z (by simp)) ?_)))))))))
 refine oN (tN (W_condF Z (W_skip (tN (sQ (rG (eZ Z (callB ?_))))))))
 refine ⟨_, toIntS_fun room (by omega), rfl, ?_⟩
 refine WO_le (Le.freeze (u := 128) Z) (nZ Z (eZ Z (kZ [2,6,8,9,10,14,18,19,128,129] Z (callB ?_))))
 refine ⟨_, toActSS_fun acts oka, rfl, ?_⟩
 refine WO_le (Le.freeze (u := 130) Z) (nZ Z (eZ Z (callB ?_)))
 refine ⟨_, toIntS_fun picks (by omega), rfl, ?_⟩
 refine WO_le (Le.freeze (u := 132) Z) (nZ Z (callB ?_))
 refine ⟨_, implPlay_fun room acts picks (by omega) oka ha (by omega), rfl, ?_⟩
 refine WO_moveAll Z Z (lt_of Z) (.inr Z) Z Z (WO_extract Z Z (lt_of Z) Z Z Z Z ?_)
 first | refine WO_le (Le.adoptE (u := 134) 134 rfl (by first | exact lenN | exact rfl)) ?_ | skip
 refine nZ Z (WO_evF tys Z Z (lt_of Z) (d := .t _) Z (nZ Z (WO_evF tys Z Z (lt_of Z) (d := .t _) Z (nZ Z (WO_alloc tys Z Z (lt_of Z) Z Z Z (nZ Z (kZ [6,8,9,10,14,18,19,20,134,135,136] Z (sT Z (nZ Z (eK 2 Z (oN (tN (sQ (sQ (rG ?_)))))))))))))))
 refine WO_loadMove tys Z Z (lt_of Z) Z Z Z Z Z Z (nZ Z (eZ Z ?_))
 try refine WO_le (Le.freeze (u := 138) rfl) ?_
 refine nZ Z (callB ?_)
 refine ⟨_, eqWorld_fun (pwR room acts picks).1 (pwR room acts picks).1 okr okr, rfl, ?_⟩
 refine WO_le (Le.known (t := 139) true Z (eqWorld_refl _)) (eK 2 Z (gY Z (eZ Z (kZ [6,9,10,14,18,19,22,141,142] Z (gY Z (eZ Z (gY Z (eZ Z (WO_le (Le.known (t := 144) false Z (by simp)) ?_)))))))))
 refine eK 2 Z (gY Z (eZ Z (gY Z (eZ Z (gY Z (eZ Z (WO_le (Le.known (t := 149) false Z (by simp)) ?_)))))))
 refine eZ Z (oN (tN (W_condF Z (W_skip (tN (sQ (kY [6,14,18,19] Z (rG (eZ Z (oN (tN (sQ (rG (eZ Z (nZ Z ?_)))))))))))))))
 refine eZ Z ?_
 refine WO_call Z Z (lt_of Z) Z Z (by refine ResL.rawA (id := 56) Z Z ?_; (first | refine ResL.t ?_ | refine ResL.own ?_ | refine ResL.aggT (by repeat (first | exact ResL.done | refine ResL.own ?_ | refine ResL.t ?_)) ?_ | refine ResL.slA Z (by first | rfl | (simp; done) | (simp; omega)) ?_ | refine ResL.nil' ?_); exact ResL.done) (heldWorld_mk (pwR room acts picks).1 1 (by omega) (by omega) (by omega)) Z ?_
 refine eZ Z (oN (tN (sQ (sQ (rG (eK 2 Z (WO_le (Le.known (t := 155) false Z (by simp; omega)) ?_)))))))
 refine oN (tN (W_condF Z (W_skip (tN (sQ (sQ (kY [6,18,19] Z (rG (eK 3 Z (WO_le (Le.known (t := 158) false Z (by simp)) ?_))))))))))
 refine oN (tN (W_condF Z (W_skip (tN (sQ (rG (eZ Z (oN (tN (rT (eR ?_)))))))))))
 ·rfl
end Go.Proofs.Ytbkamkmmljbedaa
