/- Walks and laws of the claim. -/
import Derived.Test.YtpgodgmgfhbngaaNg
import Derived.Test.YtpgodgmgfhbngaaMe
set_option linter.unusedVariables false
set_option linter.unusedSimpArgs false
set_option maxRecDepth 10000
set_option maxHeartbeats 4000000
namespace Go.Proofs.Ytpgodgmgfhbngaa
open Go.Eng
open Go.Eng
def pickM (w : World) (p : Int) : List Int := at0 [] (movesOf w) (p.tmod (movesOf w).length)
def playL (w : World) (n : Int) : List Int → World × Int
 | [] => (w, n)
 | p :: ps => if (movesOf w).length = 0 then (w, n) else if doOk w (pickM w p) then playL (doW w (pickM w p)) (n + 1) ps else (w, n)
def pwOk (room : List Int) (acts : List (List Act)) (picks : List Int) : Bool := goodWorld (newW room acts) && (decide (picks.length ≤ 120) && allIn picks 0 999)
def pwR (room : List Int) (acts : List (List Act)) (picks : List Int) : World × Int := if pwOk room acts picks then playL (newW room acts) 0 picks else (world0, 0)
theorem tmod_in {p : Int} {n : Nat} (hp : 0 ≤ p) (hn : n ≠ 0) : 0 ≤ p.tmod n ∧ p.tmod n < n := by
 rw [Int.tmod_eq_emod_of_nonneg hp]
 exact ⟨Int.emod_nonneg _ (Int.natCast_ne_zero.2 hn), Int.emod_lt_of_pos _ (Int.natCast_pos.2 (Nat.pos_of_ne_zero hn))⟩
theorem pick_mem {w : World} {p : Int} (hp : 0 ≤ p) (hn : (movesOf w).length ≠ 0) : pickM w p ∈ movesOf w := by
 obtain ⟨h0, h1⟩ := tmod_in hp hn
 rw [pickM, at0_of h0 h1]
 exact List.getElem_mem _
theorem playL_at {w : World} {n k : Int} {l : List Int} (h0 : 0 ≤ k) (h1 : k < l.length) : playL w n (l.drop k.toNat) = if (movesOf w).length = 0 then (w, n) else if doOk w (pickM w (l[k.toNat]'(by omega))) then playL (doW w (pickM w (l[k.toNat]'(by omega)))) (n + 1) (l.drop (k + 1).toNat) else (w, n) := by
 rw [drop_at h0 h1, playL]
theorem allIn_at {l : List Int} {lo hi : Int} (h : allIn l lo hi = true) {i : Nat} (hi' : i < l.length) : lo ≤ l[i] ∧ l[i] ≤ hi := by
 rw [allIn, List.all_eq_true] at h
 exact of_decide_eq_true (h _ (List.getElem_mem hi'))
theorem pw_no {room : List Int} {acts : List (List Act)} {picks : List Int} (h : pwOk room acts picks = false) : [world0.dd, D.t (T.v (.int .i64 0)), D.t (T.v (.bool false))] = [(pwR room acts picks).1.dd, D.t (T.int (pwR room acts picks).2), D.t (T.bool (pwOk room acts picks))] := by
 rw [pwR, h]; rfl
theorem pw_yes {room : List Int} {acts : List (List Act)} {picks : List Int} {w : World} {n : Int} (h : pwOk room acts picks = true) (hp : playL (newW room acts) 0 picks = (w, n)) : [w.dd, D.t (T.v (.int .i64 n)), D.t (T.v (.bool true))] = [(pwR room acts picks).1.dd, D.t (T.int (pwR room acts picks).2), D.t (T.bool (pwOk room acts picks))] := by
 rw [pwR, h, if_pos rfl, hp]
theorem pwr_no {room : List Int} {acts : List (List Act)} {picks : List Int} (h : pwOk room acts picks = false) : [world0.rd, D.t (T.v (.int .i64 0)), D.t (T.v (.bool false))] = [(pwR room acts picks).1.rd, D.t (T.int (pwR room acts picks).2), D.t (T.bool (pwOk room acts picks))] := by
 rw [pwR, h]; rfl
theorem pwr_yes {room : List Int} {acts : List (List Act)} {picks : List Int} {w : World} {n : Int} (h : pwOk room acts picks = true) (hp : playL (newW room acts) 0 picks = (w, n)) : [w.rd, D.t (T.v (.int .i64 n)), D.t (T.v (.bool true))] = [(pwR room acts picks).1.rd, D.t (T.int (pwR room acts picks).2), D.t (T.bool (pwOk room acts picks))] := by
 rw [pwR, h, if_pos rfl, hp]
theorem pw_any {picks : List Int} (h : (picks.any fun n => !decide (0 ≤ n ∧ n ≤ 999)) = true) : allIn picks 0 999 = false := by
 rw [allIn, List.any_eq_true] at *
 obtain ⟨x, h1, h2⟩ := h
 rw [Bool.eq_false_iff]
 intro h3
 rw [List.all_eq_true] at h3
 have := h3 x h1
 simp_all
theorem playWorld1_fun (n : Int) : Fun Try.prog 34 [.t (.int n)] (tupD [.t (.bool (!decide (0 ≤ n ∧ n ≤ 999)))]) := by
 refine Fun.begin tys Try.func34 Z Z (N := 6) [(0, .t (.int n))] Z Z (fun w0 G F0 => ?_)
 refine sQ (rG (eZ Z (oN (tN (sQ (rG (eZ Z (callB ?_))))))))
 refine ⟨_, within_fun _ _ _, rfl, ?_⟩
 refine eK 2 Z (oN (tN (rT (eR ?_))))
 ·rfl
theorem implPlay_fun (room : List Int) (acts : List (List Act)) (picks : List Int) (hr : room.length ≤ 1048576) (ha : okL 1048576 (okL 1048576 (Act.ok 1048576)) acts) (ha' : okL 9223372036854775807 (okL 9223372036854775807 (Act.ok 9223372036854775807)) acts) (hp : picks.length ≤ 1048576) : Fun Try.prog 7 [.t (T.ints room), .t (T.ActLs acts), .t (T.ints picks)] (tupD [(pwR room acts picks).1.dd, .t (.int (pwR room acts picks).2), .t (.bool (pwOk room acts picks))]) := by
  refine Fun.begin tys Try.func7 Z Z (N := 60) [(0, .t (T.ints room)), (1, .t (T.ActLs acts)), (2, .t (T.ints picks))] Z Z (fun w0 G F0 => ?_)
  refine sQ (rG (WO_alloc tys Z Z (lt_of Z) Z Z Z (nZ Z (eK 2 Z (oN (tN (sQ (rG (eK 2 Z (callB ?_))))))))))
  refine ⟨_, newWorld_fun room acts hr ha ha', rfl, ?_⟩
  refine WO_moveAll Z Z (lt_of Z) (.inr Z) Z Z (WO_extract Z Z (lt_of Z) Z Z Z Z ?_)
  first | refine WO_le (Le.adoptE (u := 19) 19 rfl (by first | exact lenN | exact rfl)) ?_ | skip
  refine nZ Z (WO_evF tys Z Z (lt_of Z) (d := .t _) Z (nZ Z (kZ [2,6,7,8,19,20] Z (WO_alloc tys Z Z (lt_of Z) Z Z Z (nZ Z (sT Z (nZ Z (eZ Z (oN (tN (sQ (sQ (rG (eK 3 Z ?_))))))))))))))
  refine WO_guard Z Z Z Z (lt_of Z) (fun h1 => ?_) (fun h1 => ?_)
  rotate_left
  ·
    simp only [HS] at h1
    refine gM Z (gM Z (eZ Z (kZ [2,6,7,8,9,27] Z (eZ Z (gM Z (gM Z (eZ Z (oN (tN (W_condT Z (sQ (rG (WO_struct tys Z Z (lt_of Z) Z Z Z (by kernel_rfl) Z Z Z Z Z Z (sT Z (nZ Z ?_)))))))))))))))
    refine eK 2 Z (oN (tN ?_))
    (first | (refine W_le (Le.nilBox (u := 6) (j := 0) 1 rfl rfl) ?_; refine W_norm rfl ?_; refine W_le (Le.nilBox (u := 6) (j := 1) 1 rfl rfl) ?_; refine W_norm rfl ?_; refine W_le (Le.nilBox (u := 6) (j := 2) 1 rfl rfl) ?_; refine W_norm rfl ?_; refine W_le (Le.nilBox (u := 6) (j := 3) 4 rfl rfl) ?_; refine W_norm rfl ?_; refine W_le (Le.nilBox (u := 6) (j := 4) 1 rfl rfl) ?_; refine W_norm rfl ?_) | skip)
    refine rT (tR (eR ?_))
    · first
      | (refine pw_no ?_; unfold pwOk; rw [h1]; rfl)
  simp only [HS] at h1
  refine eZ Z (gY Z (evE ?_))
  refine gY Z (eZ Z (kZ [2,6,7,8,9,23,26] Z (eK 2 Z ?_)))
  refine WO_guard Z Z Z Z (lt_of Z) (fun h2 => ?_) (fun h2 => ?_)
  rotate_left
  ·
    simp only [HS] at h2
    refine gM Z (eZ Z (oN (tN (W_condT Z (sQ (rG (WO_struct tys Z Z (lt_of Z) Z Z Z (by kernel_rfl) Z Z Z Z Z Z (sT Z (nZ Z (eK 2 Z (oN (tN ?_))))))))))))
    (first | (refine W_le (Le.nilBox (u := 6) (j := 0) 1 rfl rfl) ?_; refine W_norm rfl ?_; refine W_le (Le.nilBox (u := 6) (j := 1) 1 rfl rfl) ?_; refine W_norm rfl ?_; refine W_le (Le.nilBox (u := 6) (j := 2) 1 rfl rfl) ?_; refine W_norm rfl ?_; refine W_le (Le.nilBox (u := 6) (j := 3) 4 rfl rfl) ?_; refine W_norm rfl ?_; refine W_le (Le.nilBox (u := 6) (j := 4) 1 rfl rfl) ?_; refine W_norm rfl ?_) | skip)
    refine rT (tR (eR ?_))
    · first
      | (refine pw_no ?_; unfold pwOk; rw [show decide (picks.length ≤ 120) = false from decide_eq_false (by omega)]; simp; done)
  simp only [HS] at h2
  refine eZ Z (gY Z (callB ?_))
  refine ⟨_, hasS_fun picks (fun n => !decide (0 ≤ n ∧ n ≤ 999)) _ [] Z (by omega) (fun x _ => playWorld1_fun x), rfl, ?_⟩
  refine eZ Z (oN (tN ?_))
  refine W_cond Z (fun h3 => ?_) (fun h3 => ?_)
  ·
    refine sQ (rG (WO_struct tys Z Z (lt_of Z) Z Z Z (by kernel_rfl) Z Z Z Z Z Z (sT Z (nZ Z (eK 2 Z (kZ [2,6,7,8,9] Z (oN (tN ?_))))))))
    (first | (refine W_le (Le.nilBox (u := 6) (j := 0) 1 rfl rfl) ?_; refine W_norm rfl ?_; refine W_le (Le.nilBox (u := 6) (j := 1) 1 rfl rfl) ?_; refine W_norm rfl ?_; refine W_le (Le.nilBox (u := 6) (j := 2) 1 rfl rfl) ?_; refine W_norm rfl ?_; refine W_le (Le.nilBox (u := 6) (j := 3) 4 rfl rfl) ?_; refine W_norm rfl ?_; refine W_le (Le.nilBox (u := 6) (j := 4) 1 rfl rfl) ?_; refine W_norm rfl ?_) | skip)
    refine rT (tR (eR ?_))
    · first
      | (refine pw_no ?_; unfold pwOk; rw [pw_any h3]; simp; done)
  refine W_skip (tN (sQ (rG (eZ Z (oN (tN (sQ (sQ ?_))))))))
  have hg : goodWorld (newW room acts) = true := by simp_all
  have hpl : picks.length ≤ 120 := by first | omega | (simp_all; done) | (simp_all; omega)
  have hpi : allIn picks 0 999 = true := by
   rw [allIn, List.all_eq_true]
   intro x hx
   simp_all
   done
  have hok : pwOk room acts picks = true := by rw [pwOk, hg, hpi]; simp [hpl]
  rw [show nwR room acts = newW room acts from by rw [nwR, if_pos hg]]
  refine rG (eZ Z (evE ?_))
  refine eZ Z (kZ [6,7,8,9,11,33,34,35] Z (oN (tN (W_block ?_))))
  refine lK (α := Int × World) [2, 6, 8, 9, 33, 34] [6] (fun x => [(35, .t (.int (x.1))), (11, .t (.int (x.1)))]) (fun x => [(9, .box [.own (T.ints (x.2).room), .own (intss (x.2).held), .own (T.bools (x.2).shut), .own (T.Tasks (x.2).tasks), .own (T.ints (x.2).trace)])]) (fun x => 0 ≤ (x.1) ∧ (x.1) ≤ picks.length ∧ goodWorld (x.2) = true ∧ playL (newW room acts) 0 picks = playL (x.2) (x.1) (picks.drop (x.1).toNat)) (fun x => Int.toNat (picks.length - (x.1))) (0, newW room acts) ?_ (fun x hx => ?_)
  · exact ⟨by omega, by omega, hg, rfl⟩
  obtain ⟨k, w⟩ := x
  obtain ⟨hk0, hk1, hgw, hpe⟩ := hx
  dsimp only at hk0 hk1 hgw hpe ⊢
  refine nY Z (sQ (rG (eZ Z (oN (tN (sQ ?_))))))
  refine W_cond Z (fun h4 => ?_) (fun h4 => ?_)
  ·
    simp only [HS] at h4
    refine W_skip (tN (sQ (W_block (sQ (rG (WO_idxT tys Z Z (lt_of Z) Z Z Z Z Z Z Z (by omega) _ (getT _ _ (by omega) (by omega)) (eK 2 Z (oN (tN (sQ ?_))))))))))
    have hkp : 0 ≤ picks[k.toNat]'(by omega) := (allIn_at hpi _).1
    have hlf := movesOf_four (good_of hgw)
    refine nY Z (W_WO ?_)
    refine WO_exposeBox (u := 9) (idp := 140) (j := 0) Z Z Z (fun v0 => ?_)
    refine nZ Z ?_
    refine WO_exposeBox (u := 9) (idp := 141) (j := 1) Z Z Z (fun v1 => ?_)
    refine nZ Z ?_
    refine WO_exposeBox (u := 9) (idp := 142) (j := 2) Z Z Z (fun v2 => ?_)
    refine nZ Z ?_
    refine WO_exposeBox (u := 9) (idp := 143) (j := 3) Z Z Z (fun v3 => ?_)
    refine nZ Z ?_
    refine WO_exposeBox (u := 9) (idp := 144) (j := 4) Z Z Z (fun v4 => ?_)
    refine nZ Z (WO_le (Le.roNil 99) (nZ Z (oN (rG (eZ Z (nZ Z (WO_callV Z Z (lt_of Z) Z Z (ViewL.told5 (i0 := 140) (i1 := 141) (i2 := 142) (i3 := 143) (i4 := 144) (idr := 99) Z Z Z Z Z Z (fun h1 h2 => h1)) (movesIn_fun w (good_of hgw)) Z (nZ Z (WO_le (Le.freeze (u := 40) Z) (nZ Z (WO_le (Le.claimBox (u := 9) (idp := 140) (j := 0) Z Z Z Z) (nZ Z (WO_le (Le.claimBox (u := 9) (idp := 141) (j := 1) Z Z Z Z) (nZ Z (WO_le (Le.claimBox (u := 9) (idp := 142) (j := 2) Z Z Z Z) ?_)))))))))))))))
    refine nZ Z (WO_le (Le.claimBox (u := 9) (idp := 143) (j := 3) Z Z Z Z) (nZ Z (WO_le (Le.claimBox (u := 9) (idp := 144) (j := 4) Z Z Z Z) (nZ Z (eZ Z (oN (tN (sQ (sQ (kY [2,6,8,9,11,13,14,33,34,35,36,37,38,39,40] Z (rG (eZ Z (evE ?_)))))))))))))
    refine eK 2 Z ?_
    refine WO_guard Z Z Z Z (lt_of Z) (fun h5 => ?_) (fun h5 => ?_)
    rotate_left
    ·
      simp only [HS] at h5
      refine gM Z (gM Z (gM Z (gM Z (gM Z (kZ [2,6,8,9,11,13,14,33,34,35,36,37,38,39,40,41,42,43,44,45,46,47,48,49,50] Z (gM Z (gM Z (gM Z (eZ Z (oN (tN (W_condT Z (W_exit (tE (inBlk_e Z ?_)))))))))))))))
      refine tE (loopQ_e (inBlk_y (tN (sQ (rG (WO_loadMove tys Z Z (lt_of Z) Z Z Z Z Z Z (nZ Z (eZ Z (sT Z (nZ Z (eK 2 Z (kZ [6,7,8] Z (oN (tN ?_))))))))))))))
      (first | (refine W_le (Le.nilBox (u := 6) (j := 0) 1 rfl rfl) ?_; refine W_norm rfl ?_; refine W_le (Le.nilBox (u := 6) (j := 1) 1 rfl rfl) ?_; refine W_norm rfl ?_; refine W_le (Le.nilBox (u := 6) (j := 2) 1 rfl rfl) ?_; refine W_norm rfl ?_; refine W_le (Le.nilBox (u := 6) (j := 3) 4 rfl rfl) ?_; refine W_norm rfl ?_; refine W_le (Le.nilBox (u := 6) (j := 4) 1 rfl rfl) ?_; refine W_norm rfl ?_) | skip)
      refine rT (eR ?_)
      · first
        | exact pw_yes hok (by rw [hpe, playL_at hk0 (by omega), if_pos (by omega)])
    simp only [HS] at h5
    refine eZ Z (gY Z (eZ Z (gY Z (eZ Z (gY Z (evE ?_))))))
    refine gY Z (WO_rem Z Z (lt_of Z) Z Z Z (by simpa using h5) ?_)
    refine kZ [2,6,8,9,11,13,14,33,34,35,36,37,38,39,40,41,42,43,44,45,46,47,48,49] Z (gY Z ?_)
    have hne : (movesOf w).length ≠ 0 := by omega
    have htm := tmod_in hkp hne
    refine WO_idxT tys Z Z (lt_of Z) Z Z Z Z Z Z Z htm.1 _ (getT _ _ htm.1 htm.2) (gY Z (eZ Z (gY Z ?_)))
    obtain ⟨mv, hmv⟩ : ∃ mv, mv = pickM w (picks[k.toNat]'(by omega)) := ⟨_, rfl⟩
    rw [show (movesOf w)[(Int.tmod (picks[k.toNat]'(by omega)) (movesOf w).length).toNat]'(by omega) = mv from by rw [hmv, pickM, at0_of htm.1 htm.2]]
    have hmm : mv ∈ movesOf w := by rw [hmv]; exact pick_mem hkp hne
    have hm := moves_ok hmm
    have hgw2 := gw_iff.1 hgw
    have htl := hgw2.tasks
    refine WO_exposeBox (u := 9) (idp := 133) (j := 3) Z Z Z (fun v => ?_)
    refine nZ Z ?_
    refine WO_explode (id := 133) (j := 0) (id2 := 101) (n := 4) (u := v) (xs := w.tasks.map Task.tt) Z Z Z Z Z (fun e ad bt cap ws hu hb he hlc hcm hn => ?_)
    obtain rfl : e = false := by
     cases e with
     | false => rfl
     | true =>
      have := he rfl
      rw [List.map_eq_nil_iff] at this
      rw [this] at htl
      simp at htl
    obtain rfl : ad = some ⟨bt, 0, none⟩ := hb rfl
    subst hu
    refine nZ Z ?_
    refine WO_ofRaw (id := 101) Z (fun _ _ => own_tcs) (fun htc => ?_)
    obtain ⟨hdr, hh, rfl⟩ := htc
    refine WO_le (Le.eqK (id := 101) (k' := .raw bt (cap * 4) (tcsW (hdr.zip w.tasks)) (tcsT (hdr.zip w.tasks))) Z (by rw [← tcsT_zip hh])) ?_
    refine nZ Z ?_
    refine WO_pin (u := 9) (pid := 1009) Z Z (fun bw => ?_)
    refine nZ Z (WO_le (Le.roNil 99) ?_)
    have hlc' : w.tasks.length ≤ cap := by rw [List.length_map] at hlc; exact hlc
    rw [List.length_map]
    have hI := doI_eq (mv := mv) hgw2
    have hrl : (doR w mv).tasks.length = w.tasks.length := doR_len w mv
    refine WO_le (Le.close (u := 9) 1009 Z Z Z) (nZ Z ?_)
    refine WO_callP (rid := 99) [9, 101] Z Z (lt_of Z) Z Z (by repeat (first | exact ResP.done | refine ResP.pin0 1009 Z ?_ | refine ResP.pin0 1101 Z ?_ | refine ResP.t ?_ | refine ResP.nil 1 ?_ | refine ResP.nil' ?_ | refine ResP.own ?_ | refine ResP.sl Z Z (by first | omega | (simp; omega)) ?_ | refine ResP.aggT (by repeat (first | exact ResP.done | refine ResP.t ?_)) ?_)) Z (by repeat (first | exact trivial | refine ⟨rfl, rfl, ?_⟩)) (by decide) (doI_fun bw bt cap w hdr mv hgw hm hh hlc') Z Z Z ?_
    refine nZ Z (WO_le (Le.open (u := 9) 1009 Z Z Z Z) (nZ Z (gY Z (nZ Z (WO_le (Le.eqK (id := 101) (k' := rb false bt (cap * 4) (tcsW (hdr.zip (doR w mv).tasks)) (((doR w mv).tasks.map Task.tt).flatMap T.cells)) Z (by rw [tcsT_zip (hh.trans hrl.symm)]; rfl)) ?_)))))
    refine nZ Z (WO_le (Le.implode (id := 133) (id2 := 101) (j := 0) (n := 4) (e := false) (b := bt) (cap := cap) (ad := some ⟨bt, 0, none⟩) (len := w.tasks.length) (u := .slice (some ⟨bt, 0, none⟩) w.tasks.length cap) (ws := tcsW (hdr.zip (doR w mv).tasks)) (ys := (doR w mv).tasks.map Task.tt) Z Z Z Z Z Z (fun _ => rfl) (fun h => by cases h) (by rw [List.length_map, hrl]) hlc' hcm tasks_cells Z) ?_)
    refine nZ Z (WO_le (Le.claimBox (u := 9) (idp := 133) (j := 3) Z Z Z Z) (nZ Z (eK 2 Z (oN (tN ?_)))))
    refine W_cond Z (fun h6 => ?_) (fun h6 => ?_)
    ·
      simp only [HS] at h6
      refine W_exit (tE (inBlk_e Z (tE (loopQ_e (inBlk_y (tN (sQ (rG (WO_loadMove tys Z Z (lt_of Z) Z Z Z Z Z Z (nZ Z (eZ Z (sT Z (nZ Z (eZ Z (kZ [6,7,8] Z ?_)))))))))))))))
      refine eZ Z (oN (tN ?_))
      (first | (refine W_le (Le.nilBox (u := 6) (j := 0) 1 rfl rfl) ?_; refine W_norm rfl ?_; refine W_le (Le.nilBox (u := 6) (j := 1) 1 rfl rfl) ?_; refine W_norm rfl ?_; refine W_le (Le.nilBox (u := 6) (j := 2) 1 rfl rfl) ?_; refine W_norm rfl ?_; refine W_le (Le.nilBox (u := 6) (j := 3) 4 rfl rfl) ?_; refine W_norm rfl ?_; refine W_le (Le.nilBox (u := 6) (j := 4) 1 rfl rfl) ?_; refine W_norm rfl ?_) | skip)
      refine rT (eR ?_)
      · first
        | (rw [show doR w mv = w from by rw [doR, show doI w mv = false from by simp_all]; rfl]; exact pw_yes hok (by rw [hpe, playL_at hk0 (by omega), if_neg hne, ← hmv, if_neg (by rw [← hI]; simp_all)]))
    simp only [HS] at h6
    refine W_skip (tN (rG (eZ Z (evI ?_))))
    refine eZ Z (oN (bN (tN (kY [2,6,8,9,11,13,14,33,34,35,36,37,38,39,40,41,42,43,44,45,46,47,48,49,50,51,52,53,54,55,56] Z (rG (evI ?_))))))
    refine eZ Z (oN ?_)
    refine lQ (_, doR w mv) ?_ ?_
    · dsimp only
      have hd : doI w mv = true := by simp_all
      have hd2 : doOk w mv = true := by rw [← hI]; exact hd
      have hdr2 : doR w mv = doW w mv := by rw [doR, if_pos hd]
      refine ⟨by omega, by omega, by rw [hdr2]; exact good_doW hgw hm hd2, ?_⟩
      rw [hpe, playL_at hk0 (by omega), if_neg hne, ← hmv, if_pos hd2, hdr2]
    · (show Int.toNat _ < Int.toNat _); omega
  simp only [HS] at h4
  refine W_exit (tE (loopQ_e (inBlk_y (tN (sQ (rG (WO_loadMove tys Z Z (lt_of Z) Z Z Z Z Z Z (nZ Z (eZ Z (sT Z (nZ Z (eK 2 Z (oN (tN ?_))))))))))))))
  (first | (refine W_le (Le.nilBox (u := 6) (j := 0) 1 rfl rfl) ?_; refine W_norm rfl ?_; refine W_le (Le.nilBox (u := 6) (j := 1) 1 rfl rfl) ?_; refine W_norm rfl ?_; refine W_le (Le.nilBox (u := 6) (j := 2) 1 rfl rfl) ?_; refine W_norm rfl ?_; refine W_le (Le.nilBox (u := 6) (j := 3) 4 rfl rfl) ?_; refine W_norm rfl ?_; refine W_le (Le.nilBox (u := 6) (j := 4) 1 rfl rfl) ?_; refine W_norm rfl ?_) | skip)
  refine rT (eR ?_)
  · first
    | exact pw_yes hok (by rw [hpe, drop_end (by omega)]; rfl)
open Go.Eng
theorem specPlay_fun (room : List Int) (acts : List (List Act)) (picks : List Int) (hr : room.length ≤ 1048576) (ha : okL 1048576 (okL 1048576 (Act.ok 1048576)) acts) (hp : picks.length ≤ 1048576) : Fun Try.prog 8 [.t (T.ints room), .t (T.ActLs acts), .t (T.ints picks)] (tupD [(pwR room acts picks).1.rd, .t (.int (pwR room acts picks).2), .t (.bool (pwOk room acts picks))]) := by
 refine Fun.begin tys Try.func8 Z Z (N := 70) [(0, .t (T.ints room)), (1, .t (T.ActLs acts)), (2, .t (T.ints picks))] Z Z (fun w0 G F0 => ?_)
 refine sQ (rG (WO_alloc tys Z Z (lt_of Z) Z Z Z (nZ Z (eK 2 Z (oN (tN (sQ (rG (eK 2 Z (WO_callF Z Z (lt_of Z) Z Z Z Z Z (specNew_fun room acts hr ha) Z (eZ Z (WO_extract Z Z (lt_of Z) Z Z Z Z ?_))))))))))))
 first | refine WO_le (Le.adoptE (u := 20) 20 rfl (by first | exact lenN | exact rfl)) ?_ | skip
 refine nZ Z (WO_evF tys Z Z (lt_of Z) (d := .t _) Z (nZ Z (kZ [2,6,7,8,20,21] Z (WO_alloc tys Z Z (lt_of Z) Z Z Z (nZ Z (sT Z (nZ Z (eZ Z (oN (tN (sQ (sQ (rG (eK 3 Z ?_))))))))))))))
 refine WO_guard Z Z Z Z (lt_of Z) (fun h1 => ?_) (fun h1 => ?_)
 rotate_left
 ·
  simp only [HS] at h1
  refine gM Z (gM Z (eZ Z (kZ [2,6,7,8,9,28] Z (eZ Z (gM Z (gM Z (gM Z (eZ Z (oN (tN (W_condT Z (sQ (rG (WO_struct tys Z Z (lt_of Z) Z Z Z (by kernel_rfl) Z Z Z Z Z Z (sT Z ?_)))))))))))))))
  refine nZ Z (eK 2 Z (kZ [2,6,7,8,9] Z (oN (tN ?_))))
  (first | (refine W_tellT (u := 6) (j := 3) (p := fun y => y = T.Tasks w.tasks) rfl rfl (fun h => ⟨_, rfl, relTaskL hx h⟩) (fun y hy => ?_); subst hy; refine W_norm rfl ?_) | (refine W_le (Le.nilBox (u := 6) (j := 0) 1 rfl rfl) ?_; refine W_norm rfl ?_; refine W_le (Le.nilBox (u := 6) (j := 1) 1 rfl rfl) ?_; refine W_norm rfl ?_; refine W_le (Le.nilBox (u := 6) (j := 2) 1 rfl rfl) ?_; refine W_norm rfl ?_; refine W_le (Le.nilBox (u := 6) (j := 3) 4 rfl rfl) ?_; refine W_norm rfl ?_; refine W_le (Le.nilBox (u := 6) (j := 4) 1 rfl rfl) ?_; refine W_norm rfl ?_; refine W_le (Le.freezeB (u := 6) rfl rfl) ?_; refine W_norm rfl ?_) | skip)
  refine rT (tR (eR ?_))
  ·first
   | (refine pwr_no ?_; unfold pwOk; rw [h1]; rfl)
 simp only [HS] at h1
 refine eZ Z (gY Z (evE ?_))
 refine gY Z (eZ Z (kZ [2,6,7,8,9,24,27] Z (eK 2 Z ?_)))
 refine WO_guard Z Z Z Z (lt_of Z) (fun h2 => ?_) (fun h2 => ?_)
 rotate_left
 ·
  simp only [HS] at h2
  refine gM Z (gM Z (eZ Z (oN (tN (W_condT Z (sQ (rG (WO_struct tys Z Z (lt_of Z) Z Z Z (by kernel_rfl) Z Z Z Z Z Z (sT Z (nZ Z (eK 2 Z (kZ [2,6,7,8,9] Z (oN (tN ?_))))))))))))))
  (first | (refine W_tellT (u := 6) (j := 3) (p := fun y => y = T.Tasks w.tasks) rfl rfl (fun h => ⟨_, rfl, relTaskL hx h⟩) (fun y hy => ?_); subst hy; refine W_norm rfl ?_) | (refine W_le (Le.nilBox (u := 6) (j := 0) 1 rfl rfl) ?_; refine W_norm rfl ?_; refine W_le (Le.nilBox (u := 6) (j := 1) 1 rfl rfl) ?_; refine W_norm rfl ?_; refine W_le (Le.nilBox (u := 6) (j := 2) 1 rfl rfl) ?_; refine W_norm rfl ?_; refine W_le (Le.nilBox (u := 6) (j := 3) 4 rfl rfl) ?_; refine W_norm rfl ?_; refine W_le (Le.nilBox (u := 6) (j := 4) 1 rfl rfl) ?_; refine W_norm rfl ?_; refine W_le (Le.freezeB (u := 6) rfl rfl) ?_; refine W_norm rfl ?_) | skip)
  refine rT (tR (eR ?_))
  ·first
   | (refine pwr_no ?_; unfold pwOk; rw [show decide (picks.length ≤ 120) = false from decide_eq_false (by omega)]; simp; done)
 simp only [HS] at h2
 refine eZ Z (gY Z (callB ?_))
 refine ⟨_, l1All_fun _ _ _ (by omega), rfl, ?_⟩
 refine gY Z (eK 2 Z (oN (tN ?_)))
 refine W_cond Z (fun h3 => ?_) (fun h3 => ?_)
 ·
  simp only [HS] at h3
  refine sQ (rG (WO_struct tys Z Z (lt_of Z) Z Z Z (by kernel_rfl) Z Z Z Z Z Z (sT Z (nZ Z (eZ Z (kZ [2,6,7,8,9] Z (eZ Z (oN (tN ?_)))))))))
  (first | (refine W_tellT (u := 6) (j := 3) (p := fun y => y = T.Tasks w.tasks) rfl rfl (fun h => ⟨_, rfl, relTaskL hx h⟩) (fun y hy => ?_); subst hy; refine W_norm rfl ?_) | (refine W_le (Le.nilBox (u := 6) (j := 0) 1 rfl rfl) ?_; refine W_norm rfl ?_; refine W_le (Le.nilBox (u := 6) (j := 1) 1 rfl rfl) ?_; refine W_norm rfl ?_; refine W_le (Le.nilBox (u := 6) (j := 2) 1 rfl rfl) ?_; refine W_norm rfl ?_; refine W_le (Le.nilBox (u := 6) (j := 3) 4 rfl rfl) ?_; refine W_norm rfl ?_; refine W_le (Le.nilBox (u := 6) (j := 4) 1 rfl rfl) ?_; refine W_norm rfl ?_; refine W_le (Le.freezeB (u := 6) rfl rfl) ?_; refine W_norm rfl ?_) | skip)
  refine rT (tR (eR ?_))
  ·first
   | (refine pwr_no ?_; unfold pwOk; rw [h3]; simp; done)
 simp only [HS] at h3
 refine W_skip (tN (sQ (sQ ?_)))
 have hg : goodWorld (newW room acts) = true := by simp_all
 have hpl : picks.length ≤ 120 := by first | omega | (simp_all; done) | (simp_all; omega)
 have hpi : allIn picks 0 999 = true := by simp_all
 have hok : pwOk room acts picks = true := by rw [pwOk, hg, hpi]; simp [hpl]
 rw [show nwR room acts = newW room acts from by rw [nwR, if_pos hg]]
 refine rG (eZ Z (evE ?_))
 refine eZ Z (kZ [2,6,7,8,9,35,36,37] Z (oN (tN (W_block ?_))))
 refine lK (α := Int × World) [2, 6, 8, 9, 35, 36] [6] (fun x => [(37, .t (.int (x.1)))]) (fun x => [(9, .box [.t (T.ints (x.2).room), .t (intss (x.2).held), .t (T.bools (x.2).shut), .t (T.Tasks (x.2).tasks), .t (T.ints (x.2).trace)])]) (fun x => 0 ≤ (x.1) ∧ (x.1) ≤ picks.length ∧ goodWorld (x.2) = true ∧ playL (newW room acts) 0 picks = playL (x.2) (x.1) (picks.drop (x.1).toNat)) (fun x => Int.toNat (picks.length - (x.1))) (0, newW room acts) ?_ (fun x hx => ?_)
 ·exact ⟨by omega, by omega, hg, rfl⟩
 obtain ⟨k, w⟩ := x
 obtain ⟨hk0, hk1, hgw, hpe⟩ := hx
 dsimp only at hk0 hk1 hgw hpe ⊢
 refine nY Z (sQ (rG (eZ Z (oN (tN (sQ ?_))))))
 refine W_cond Z (fun h4 => ?_) (fun h4 => ?_)
 ·
  simp only [HS] at h4
  refine W_skip (tN (sQ (W_block (sQ ?_))))
  have hkp : 0 ≤ picks[k.toNat]'(by omega) := (allIn_at hpi _).1
  have hlf := movesOf_four (good_of hgw)
  refine rG (eZ Z (WO_idxT tys Z Z (lt_of Z) Z Z Z Z Z Z Z (by omega) _ (getT _ _ (by omega) (by omega)) (eK 3 Z (oN (tN (sQ (rG (eZ Z ?_))))))))
  try refine WO_le (Le.freeze (u := 42) rfl) ?_
  refine nZ Z (callB ?_)
  refine ⟨_, l15Moves_fun w (good_of hgw), rfl, ?_⟩
  refine WO_le (Le.freeze (u := 43) Z) (nZ Z (eZ Z (kZ [2,6,8,9,11,12,13,35,36,37,38,39,40,41,42,43] Z (oN (tN (sQ (sQ (rG (eZ Z (evE ?_))))))))))
  refine eZ Z (oN (tN ?_))
  refine W_cond Z (fun h5 => ?_) (fun h5 => ?_)
  ·
   simp only [HS] at h5
   refine sQ (rG (eZ Z ?_))
   try refine WO_le (Le.freeze (u := 47) rfl) ?_
   refine nZ Z (eZ Z (sT Z (nZ Z (eK 2 Z (oN (tN ?_))))))
   (first | (refine W_tellT (u := 6) (j := 3) (p := fun y => y = T.Tasks w.tasks) rfl rfl (fun h => ⟨_, rfl, relTaskL hx h⟩) (fun y hy => ?_); subst hy; refine W_norm rfl ?_) | (refine W_le (Le.nilBox (u := 6) (j := 0) 1 rfl rfl) ?_; refine W_norm rfl ?_; refine W_le (Le.nilBox (u := 6) (j := 1) 1 rfl rfl) ?_; refine W_norm rfl ?_; refine W_le (Le.nilBox (u := 6) (j := 2) 1 rfl rfl) ?_; refine W_norm rfl ?_; refine W_le (Le.nilBox (u := 6) (j := 3) 4 rfl rfl) ?_; refine W_norm rfl ?_; refine W_le (Le.nilBox (u := 6) (j := 4) 1 rfl rfl) ?_; refine W_norm rfl ?_; refine W_le (Le.freezeB (u := 6) rfl rfl) ?_; refine W_norm rfl ?_) | skip)
   refine rT (tR (bR (tR (loopQ_r (bR (tR (eR ?_)))))))
   ·first
    | exact pwr_yes hok (by rw [hpe, playL_at hk0 (by omega), if_pos (by omega)])
  simp only [HS] at h5
  refine W_skip (tN (sQ ?_))
  have hne : (movesOf w).length ≠ 0 := by simp_all
  have htm := tmod_in hkp hne
  obtain ⟨mv, hmv⟩ : ∃ mv, mv = pickM w (picks[k.toNat]'(by omega)) := ⟨_, rfl⟩
  have hmm : mv ∈ movesOf w := by rw [hmv]; exact pick_mem hkp hne
  have hm := moves_ok hmm
  have hgw2 := gw_iff.1 hgw
  refine nY Z ?_
  refine W_tellT (u := 9) (j := 3) (p := fun y => ∃ xs, All2 TActs xs (w.tasks.map Task.acts) ∧ y = .list 4 ((xs.zip w.tasks).map ttT)) rfl rfl (fun h => by obtain ⟨xs, h1, h2⟩ := tellTaskL (flat_good hgw) h; exact ⟨_, ⟨xs, h1, rfl⟩, h2⟩) (fun y hy => ?_)
  obtain ⟨xs, hx, rfl⟩ := hy
  refine nY Z (W_regionH [[14], [14], [14], [14], [14], [14], [14], [14], [14], [14], [14], [14], [], [], []] mixed (by kernel_rfl) (QH_G (QG_evZ tys Z Z (lt_of Z) Z Z (QG_nil (QH_G (QG_ev tys Z Z (lt_of Z) Z (QG_nil (QH_G (QG_ev tys Z Z (lt_of Z) Z (QG_nil (QH_G (QG_ev tys Z Z (lt_of Z) Z (QG_nil (QH_norm Z (QH_G ?_)))))))))))))))
  refine QG_evE tys Z Z (lt_of Z) Z (by first | exact lenM | exact Z) ?_
  refine QG_nil (QH_G (QG_rem Z Z (lt_of Z) Z Z Z (by omega) (QG_nil (QH_G (QG_idxT tys Z Z (lt_of Z) Z Z Z Z Z Z Z htm.1 _ (getT _ _ htm.1 htm.2) ?_)))))
  rw [show (movesOf w)[(Int.tmod (picks[k.toNat]'(by omega)) (movesOf w).length).toNat]'(by omega) = mv from by rw [hmv, pickM, at0_of htm.1 htm.2]]
  refine QG_nil (QH_G (QG_ev tys Z Z (lt_of Z) Z (QG_nil (QH_norm Z (QH_G (QG_callF Z Z (lt_of Z) Z Z Z Z Z (l15Do_fun w xs mv hgw hm (ok_good hgw (by decide)) hx) Z (QG_nil (QH_G (QG_ev tys Z Z (lt_of Z) Z (QG_nil (QH_G (QG_ev tys Z Z (lt_of Z) Z (QG_nil (QH_G (QG_ev tys Z Z (lt_of Z) Z ?_)))))))))))))))
  refine QG_nil (QH_norm Z (QH_G0 (QG_alloc tys Z Z (lt_of Z) Z Z Z Z (QG_nil (QH_store tys 10013 Z Z Z Z Z Z Z Z Z (Nat.le_of_ble_eq_true Z) (QH_G0 (QG_ev tys Z Z (lt_of Z) Z (QG_nil (QH_nil ?_)))))))))
  refine ⟨by kernel_rfl, ?_⟩
  refine nZ Z (oN (tN (sQ (sQ (rG (eK 2 Z (oN (tN ?_))))))))
  refine W_cond Z (fun h6 => ?_) (fun h6 => ?_)
  ·
   simp only [HS] at h6
   refine sQ (rG (eZ Z ?_))
   try refine WO_le (Le.freeze (u := 63) rfl) ?_
   refine nZ Z (eZ Z (sT Z (nZ Z (eK 2 Z (oN (tN ?_))))))
   (first | (refine W_tellT (u := 6) (j := 3) (p := fun y => y = T.Tasks w.tasks) rfl rfl (fun h => ⟨_, rfl, relTaskL hx h⟩) (fun y hy => ?_); subst hy; refine W_norm rfl ?_) | (refine W_le (Le.nilBox (u := 6) (j := 0) 1 rfl rfl) ?_; refine W_norm rfl ?_; refine W_le (Le.nilBox (u := 6) (j := 1) 1 rfl rfl) ?_; refine W_norm rfl ?_; refine W_le (Le.nilBox (u := 6) (j := 2) 1 rfl rfl) ?_; refine W_norm rfl ?_; refine W_le (Le.nilBox (u := 6) (j := 3) 4 rfl rfl) ?_; refine W_norm rfl ?_; refine W_le (Le.nilBox (u := 6) (j := 4) 1 rfl rfl) ?_; refine W_norm rfl ?_; refine W_le (Le.freezeB (u := 6) rfl rfl) ?_; refine W_norm rfl ?_) | skip)
   refine rT (tR (bR (tR (loopQ_r (bR (tR (eR ?_)))))))
   ·first
    | exact pwr_yes hok (by rw [hpe, playL_at hk0 (by omega), if_neg hne, ← hmv, if_neg (by simp_all)])
  simp only [HS] at h6
  refine W_skip (tN (rG (eZ Z ?_)))
  try refine WO_le (Le.freeze (u := 65) rfl) ?_
  refine nZ Z (sT Z (nZ Z (oN (bN (tN (nY Z ?_))))))
  refine W_tellT (u := 9) (j := 3) (p := fun y => y = T.Tasks (doW w mv).tasks) Z Z (fun h => ⟨_, rfl, relTaskL (by rw [doW_acts]; exact hx) h⟩) (fun y hy => ?_)
  subst hy
  refine nY Z (rG (evI ?_))
  refine eZ Z (oN ?_)
  refine lQ (_, doW w mv) ?_ ?_
  ·dsimp only
   have hd2 : doOk w mv = true := by simp_all
   refine ⟨by omega, by omega, good_doW hgw hm hd2, ?_⟩
   rw [hpe, playL_at hk0 (by omega), if_neg hne, ← hmv, if_pos hd2]
  ·(show Int.toNat _ < Int.toNat _); omega
 simp only [HS] at h4
 refine W_exit (tE (loopQ_e (inBlk_y (tN (sQ (rG (eZ Z ?_)))))))
 try refine WO_le (Le.freeze (u := 67) rfl) ?_
 refine nZ Z (eZ Z (evE ?_))
 refine sT Z (nZ Z (eK 2 Z (oN (tN ?_))))
 (first | (refine W_tellT (u := 6) (j := 3) (p := fun y => y = T.Tasks w.tasks) rfl rfl (fun h => ⟨_, rfl, relTaskL hx h⟩) (fun y hy => ?_); subst hy; refine W_norm rfl ?_) | (refine W_le (Le.nilBox (u := 6) (j := 0) 1 rfl rfl) ?_; refine W_norm rfl ?_; refine W_le (Le.nilBox (u := 6) (j := 1) 1 rfl rfl) ?_; refine W_norm rfl ?_; refine W_le (Le.nilBox (u := 6) (j := 2) 1 rfl rfl) ?_; refine W_norm rfl ?_; refine W_le (Le.nilBox (u := 6) (j := 3) 4 rfl rfl) ?_; refine W_norm rfl ?_; refine W_le (Le.nilBox (u := 6) (j := 4) 1 rfl rfl) ?_; refine W_norm rfl ?_; refine W_le (Le.freezeB (u := 6) rfl rfl) ?_; refine W_norm rfl ?_) | skip)
 refine rT (eR ?_)
 ·first
  | (rw [show (picks.length : Int) = k from by omega]; exact pwr_yes hok (by rw [hpe, drop_end (by omega)]; rfl))
theorem playL_good : ∀ (l : List Int) {w : World} {n : Int}, goodWorld w = true → (∀ p, p ∈ l → 0 ≤ p) → goodWorld (playL w n l).1 = true
 | [], w, n, h, _ => h
 | p :: l, w, n, h, hp => by
  rw [playL]
  split
  ·exact h
  ·rename_i hne
   split
   ·rename_i hd
    exact playL_good l (good_doW h (moves_ok (pick_mem (hp p (by simp)) hne)) hd) fun q hq => hp q (by simp [hq])
   ·exact h
theorem pwR_good (room : List Int) (acts : List (List Act)) (picks : List Int) : goodWorld (pwR room acts picks).1 = true ∨ (pwR room acts picks).1 = world0 := by
 unfold pwR
 split
 ·rename_i h
  unfold pwOk at h
  simp only [Bool.and_eq_true] at h
  exact .inl (playL_good picks h.1 fun p hp => by obtain ⟨i, hi, rfl⟩ := List.getElem_of_mem hp; exact (allIn_at h.2.2 hi).1)
 ·exact .inr rfl
open Go.Eng
def posS : List Task → Int
 | [] => 0
 | t :: l => t.pos + posS l
def panT : List Task → Int
 | [] => 0
 | t :: l => (if t.state = 2 then 1 else 0) + panT l
def panS : List Task → List Task → Int
 | t :: l, u :: m => (if u.state = 2 ∧ ¬ t.state = 2 then 1 else 0) + panS l m
 | _, _ => 0
theorem posS_set {t1 t : Task} : ∀ {l : List Task} {i : Nat}, l[i]? = some t → posS (l.set i t1) = posS l - t.pos + t1.pos
 | [], _, h => by simp at h
 | a :: l, 0, h => by simp at h; subst h; simp only [List.set_cons_zero, posS]; omega
 | a :: l, i + 1, h => by
  rw [List.set_cons_succ, posS, posS, posS_set (by simpa using h)]; omega
theorem panT_set {t1 t : Task} : ∀ {l : List Task} {i : Nat}, l[i]? = some t → panT (l.set i t1) = panT l - (if t.state = 2 then 1 else 0) + (if t1.state = 2 then 1 else 0)
 | [], _, h => by simp at h
 | a :: l, 0, h => by simp at h; subst h; simp only [List.set_cons_zero, panT]; omega
 | a :: l, i + 1, h => by
  rw [List.set_cons_succ, panT, panT, panT_set (by simpa using h)]; omega
theorem panS_self : ∀ l : List Task, panS l l = 0
 | [] => rfl
 | t :: l => by rw [panS, panS_self l]; simp
theorem panS_set {t1 t : Task} (ht : ¬ t.state = 2) : ∀ {l m : List Task} {i : Nat}, l[i]? = some t → m[i]? = some t → panS l (m.set i t1) = panS l m + (if t1.state = 2 then 1 else 0)
 | [], _, _, h, _ => by simp at h
 | _ :: _, [], _, _, h => by simp at h
 | a :: l, b :: m, 0, h, h' => by
  simp at h h'; subst h h'
  simp only [List.set_cons_zero, panS]
  simp [ht]
  omega
 | a :: l, b :: m, i + 1, h, h' => by
  rw [List.set_cons_succ, panS, panS, panS_set ht (by simpa using h) (by simpa using h')]; omega
inductive MoveT (l m : List Task) : Prop
 | one (i : Nat) (t t1 : Task) : l[i]? = some t → t.state = 0 → m = l.set i t1 → ((t1.pos = t.pos + 1 ∧ ¬ t1.state = 2) ∨ (t1.pos = t.pos ∧ t1.state = 2)) → MoveT l m
 | two (i j : Nat) (t u t1 u1 : Task) : ¬ j = i → l[i]? = some t → l[j]? = some u → t.state = 0 → u.state = 0 → m = (l.set j u1).set i t1 → t1.pos = t.pos + 1 → ¬ t1.state = 2 → u1.pos = u.pos + 1 → ¬ u1.state = 2 → MoveT l m
theorem advT_st {t : Task} (h : t.state = 0) : ¬ (advT t).state = 2 := by unfold advT; simp only; split <;> omega
theorem doW_move {w : World} {mv : List Int} (hg : goodWorld w = true) (hm : MvOk w mv) : MoveT w.tasks (doW w mv).tasks := by
 have hi0 := hm.i0
 have hi1 := hm.i1
 have hat : actOf w mv ∈ ways (tk w (at0 0 mv 0)) := by rw [actOf, at0_of hm.k0 hm.k1]; exact List.getElem_mem _
 have htm := tk_mem hi0 hi1
 obtain ⟨hk, hch, hn, hst, hp⟩ := goodAct_ways hg htm hat
 have htk : ∀ {w' : World} {I : Int}, 0 ≤ I → I < w'.tasks.length → w'.tasks[I.toNat]? = some (tk w' I) := fun {w' I} h0 h1 => by rw [tk, at0_of h0 h1, List.getElem?_eq_getElem (by omega)]
 have hget := htk hi0 hi1
 have adv : ∀ {w' : World}, w'.tasks = w.tasks → tk w' (at0 0 mv 0) = tk w (at0 0 mv 0) → MoveT w.tasks (advW w' (at0 0 mv 0)).tasks := fun {w'} h1 h2 => by
  refine .one (at0 0 mv 0).toNat (tk w (at0 0 mv 0)) (advT (tk w (at0 0 mv 0))) hget hst ?_ (.inl ⟨rfl, advT_st hst⟩)
  show w'.tasks.set _ (advT (tk w' _)) = _
  rw [h1, h2]
 have adv0 : ∀ {w' : World} {n : Int}, w'.tasks = w.tasks.set (at0 0 mv 0).toNat { tk w (at0 0 mv 0) with last := n } → MoveT w.tasks (advW w' (at0 0 mv 0)).tasks := fun {w' n} h1 => by
  refine .one (at0 0 mv 0).toNat (tk w (at0 0 mv 0)) (advT { tk w (at0 0 mv 0) with last := n }) hget hst ?_ (.inl ⟨rfl, advT_st hst⟩)
  show w'.tasks.set _ (advT (tk w' _)) = _
  have e : tk w' (at0 0 mv 0) = { tk w (at0 0 mv 0) with last := n } := by
   have e0 : w'.tasks[(at0 0 mv 0).toNat]? = some { tk w (at0 0 mv 0) with last := n } := by rw [h1]; exact List.getElem?_set_self (by omega)
   show (w'.tasks[(at0 0 mv 0).toNat]?).getD task0 = _
   rw [e0]; rfl
  rw [e, h1, List.set_set]
 unfold doW
 split
 ·exact adv rfl rfl
 ·split
  ·exact .one (at0 0 mv 0).toNat (tk w (at0 0 mv 0)) _ hget hst rfl (.inr ⟨rfl, rfl⟩)
  ·split
   ·exact adv rfl rfl
   ·split
    ·rename_i hs5
     obtain ⟨hj1, hj2, hj3⟩ := hm.j.resolve_left (by omega)
     have hjs : (tk w (at0 0 mv 2)).state = 0 := Classical.byContradiction fun hx => by unfold ways at hj3; rw [if_neg hx] at hj3; simp at hj3
     have e1 : tk (setT w (at0 0 mv 2) { tk w (at0 0 mv 2) with last := (actOf w mv).n }) (at0 0 mv 2) = { tk w (at0 0 mv 2) with last := (actOf w mv).n } := by rw [tk_set hj1.1 hj1.2 hj1.1, if_pos rfl]
     have l1 : ∀ (w : World) (i : Int) (t : Task), (setT w i t).tasks.length = w.tasks.length := fun w i t => List.length_set
     have e2 : tk (advW (setT w (at0 0 mv 2) { tk w (at0 0 mv 2) with last := (actOf w mv).n }) (at0 0 mv 2)) (at0 0 mv 0) = tk w (at0 0 mv 0) := by
      rw [advW, tk_set hj1.1 (by rw [l1]; exact hj1.2) hi0, if_neg hj2, tk_set hj1.1 hj1.2 hi0, if_neg hj2]
     refine .two (at0 0 mv 0).toNat (at0 0 mv 2).toNat (tk w (at0 0 mv 0)) (tk w (at0 0 mv 2)) (advT (tk w (at0 0 mv 0))) (advT { tk w (at0 0 mv 2) with last := (actOf w mv).n }) (by omega) hget (htk hj1.1 hj1.2) hst hjs ?_ Z (advT_st hst) Z (advT_st hjs)
     show (((w.tasks.set _ _).set _ (advT (tk _ _)))).set _ (advT (tk _ _)) = _
     rw [e1, e2, List.set_set]
    ·split
     ·exact adv rfl rfl
     ·split
      ·exact adv0 rfl
      ·exact adv0 rfl
theorem move_facts {l m : List Task} (h : MoveT l m) : 0 ≤ posS m - posS l ∧ posS m - posS l ≤ 2 ∧ 0 ≤ panS l m ∧ panS l m ≤ 1 ∧ 1 ≤ posS m - posS l + panS l m ∧ 1 ≤ (posS m + panT m) - (posS l + panT l) := by
 cases h with
 | one i t t1 h1 h2 h3 h4 =>
  subst h3
  rw [posS_set h1, panS_set (by omega) h1 h1, panS_self, panT_set h1]
  rcases h4 with ⟨a, b⟩ | ⟨a, b⟩
  ·simp [a, b, h2]; omega
  ·simp [a, b, h2]; omega
 | two i j t u t1 u1 hij h1 h2 h3 h4 h5 h6 h7 h8 h9 =>
  subst h5
  have h1' : (l.set j u1)[i]? = some t := by rw [List.getElem?_set_ne hij]; exact h1
  rw [posS_set h1', posS_set h2, panS_set (by omega) h1 h1', panS_set (by omega) h2 h2, panS_self, panT_set h1', panT_set h2]
  simp [h3, h4, h6, h7, h8, h9]
  omega
theorem posS_bd : ∀ {l : List Task}, (∀ t, t ∈ l → t.pos ≤ t.acts.length ∧ (t.state = 2 → t.pos < t.acts.length)) → posS l + panT l ≤ ((l.map fun t => (t.acts.length : Int)).sum)
 | [], _ => by simp [posS, panT]
 | t :: l, h => by
  have h1 := h t (by simp)
  have h2 := posS_bd (l := l) fun u hu => h u (by simp [hu])
  simp only [posS, panT, List.map_cons, List.sum_cons]
  split
  ·have := h1.2 (by assumption); omega
  ·omega
theorem good_posS {w : World} (hg : goodWorld w = true) : posS w.tasks + panT w.tasks ≤ (((w.tasks.map Task.acts).map fun l => (l.length : Int)).sum) := by
 rw [List.map_map]
 refine posS_bd fun t ht => ?_
 have h9 := (gw_iff.1 hg).ts t ht
 unfold goodTask at h9
 simp only [Bool.and_eq_true, decide_eq_true_eq] at h9
 obtain ⟨a, b, d, e, f⟩ := h9
 grind
theorem doW_trace (w : World) (mv : List Int) : (doW w mv).trace.length ≤ w.trace.length + 1 := by
 have a1 : ∀ (w : World) i t, (setT w i t).trace = w.trace := fun _ _ _ => rfl
 have a2 : ∀ (w : World) i, (advW w i).trace = w.trace := fun _ _ => rfl
 unfold doW
 split <;> first | (simp [a1, a2]; done) | skip
 split <;> first | (simp [a1, a2]; done) | skip
 split <;> first | (simp [a1, a2]; done) | skip
 split <;> first | (simp [a1, a2]; done) | skip
 split <;> first | (simp [a1, a2]; done) | skip
 split <;> (simp [a1, a2]; done)
theorem playL_facts : ∀ (l : List Int) {w : World} {n : Int}, goodWorld w = true → (∀ p, p ∈ l → 0 ≤ p) → (w.trace.length : Int) + l.length ≤ 120 →
  (playL w n l).2 - n ≤ (posS (playL w n l).1.tasks + panT (playL w n l).1.tasks) - (posS w.tasks + panT w.tasks) ∧ n ≤ (playL w n l).2 ∧ (playL w n l).2 ≤ n + l.length ∧
  ((playL w n l).2 < n + l.length → (movesOf (playL w n l).1).length = 0) ∧ (playL w n l).1.tasks.map Task.acts = w.tasks.map Task.acts ∧ playL w n (l.take ((playL w n l).2 - n).toNat) = playL w n l
 | [], w, n, hg, _, _ => by simp [playL]
 | p :: l, w, n, hg, hp, ht => by
  have hp0 := hp p (by simp)
  rw [List.length_cons] at ht
  rw [playL]
  split
  ·rename_i he
   refine ⟨by simp, by simp, by simp; omega, fun _ => he, rfl, ?_⟩
   simp [playL]
  ·rename_i hne
   have hmm := pick_mem hp0 hne
   have hm := moves_ok hmm
   have hmt := move_facts (doW_move hg hm)
   have htl : (doW w (pickM w p)).trace.length ≤ w.trace.length + 1 := doW_trace w _
   have hd : doOk w (pickM w p) = true := decide_eq_true (by omega)
   rw [if_pos hd]
   have ih := playL_facts l (n := n + 1) (good_doW hg hm hd) (fun q hq => hp q (by simp [hq])) (by omega)
   obtain ⟨a, b, c, d, e, f⟩ := ih
   refine ⟨by omega, by omega, by rw [List.length_cons]; omega, fun h => d (by rw [List.length_cons] at h; omega), e.trans (doW_acts w _), ?_⟩
   rw [show ((playL (doW w (pickM w p)) (n + 1) l).2 - n).toNat = ((playL (doW w (pickM w p)) (n + 1) l).2 - (n + 1)).toNat + 1 from by omega, List.take_succ_cons, playL, if_neg hne, if_pos hd, f]
open Go.Eng
abbrev Cu := Int × Int
def okCd (cd : List Int) : Prop := cd.length ≤ 1048576 ∧ ∀ b, b ∈ cd → 0 ≤ b ∧ b ≤ 255
section
variable (cd : List Int)
def nxB (c : Cu) : Int := if c.1 < cd.length then at0 0 cd c.1 else 0
def nxC (c : Cu) : Cu := (c.1 + 1, IntKind.u64.wrap (IntKind.u64.wrap (IntKind.u64.wrap (c.2 * 6364136223846793005) + nxB cd c) + 1442695040888963407))
def nxH (s : Int) : Int := IntKind.i64.wrap (IntKind.u64.wrap ((BitVec.ofInt IntKind.u64.bits (s.fdiv (2 ^ min (40 : Int).toNat IntKind.u64.bits)) &&& BitVec.ofInt IntKind.u64.bits 255).toNat : Nat))
def nxV (c : Cu) : Int := if c.1 + 1 ≤ cd.length then nxB cd c else nxH (nxC cd c).2
def pickV (n : Int) (c : Cu) : Int := if n ≤ 1 then 0 else if 200 < n then (nxV cd c * 256 + nxV cd (nxC cd c)).tmod n else (nxV cd c).tmod n
def pickC (n : Int) (c : Cu) : Cu := if n ≤ 1 then c else if 200 < n then nxC cd (nxC cd c) else nxC cd c
end
section
variable {cd : List Int} {c : Cu} {n : Int}
theorem nxH_in (s : Int) : 0 ≤ nxH s ∧ nxH s ≤ 255 := by
 have h : (BitVec.ofInt IntKind.u64.bits (s.fdiv (2 ^ min (40 : Int).toNat IntKind.u64.bits)) &&& BitVec.ofInt IntKind.u64.bits 255).toNat ≤ 255 := by
  rw [BitVec.toNat_and]
  exact Nat.le_trans Nat.and_le_right (by decide)
 unfold nxH
 generalize (BitVec.ofInt IntKind.u64.bits (s.fdiv (2 ^ min (40 : Int).toNat IntKind.u64.bits)) &&& BitVec.ofInt IntKind.u64.bits 255).toNat = m at h
 have e1 : IntKind.u64.wrap (m : Int) = m := by
  simp [IntKind.wrap, IntKind.bits, IntKind.signed]
  omega
 rw [e1]
 have e2 : IntKind.i64.wrap (m : Int) = m := wrap_id (by omega) (by omega)
 rw [e2]
 omega
theorem nxB_in (hc : okCd cd) (h0 : 0 ≤ c.1) : 0 ≤ nxB cd c ∧ nxB cd c ≤ 255 := by
 unfold nxB
 split
 ·rename_i h
  rw [at0_of h0 h]
  exact hc.2 _ (List.getElem_mem _)
 ·omega
theorem nxV_in (hc : okCd cd) (h0 : 0 ≤ c.1) : 0 ≤ nxV cd c ∧ nxV cd c ≤ 255 := by
 unfold nxV
 split
 ·exact nxB_in hc h0
 ·exact nxH_in _
theorem pickC_at : c.1 ≤ (pickC cd n c).1 ∧ (pickC cd n c).1 ≤ c.1 + 2 := by
 unfold pickC nxC
 split
 ·omega
 ·split <;> simp only <;> omega
theorem pickV_in (hc : okCd cd) (h0 : 0 ≤ c.1) : 0 ≤ pickV cd n c ∧ (1 ≤ n → pickV cd n c < n) ∧ pickV cd n c ≤ 65535 := by
 unfold pickV
 split
 ·omega
 ·have h1 := nxV_in (c := c) hc h0
  have h2 := nxV_in (c := nxC cd c) hc (show 0 ≤ c.1 + 1 by omega)
  have key : ∀ z : Int, 0 ≤ z → z ≤ 65535 → 0 ≤ z.tmod n ∧ (1 ≤ n → z.tmod n < n) ∧ z.tmod n ≤ 65535 := fun z hz hz2 => by
   rw [Int.tmod_eq_emod_of_nonneg hz]
   have a := Int.emod_nonneg z (show n ≠ 0 by omega)
   have b := Int.emod_lt_of_pos z (show 0 < n by omega)
   have d : z % n ≤ z := by
    by_cases h : z < n
    ·rw [Int.emod_eq_of_lt hz h]; exact Int.le_refl _
    ·omega
   omega
  split
  ·exact key _ (by omega) (by omega)
  ·exact key _ (by omega) (by omega)
end
open Go.Eng
def T.bytes (l : List Int) : T := .list 1 (l.map fun n => .v (.int .u8 n))
abbrev cuC (pv : Value) (c : Cu) : List D := [.t (.v pv), .t (.v (.int .i64 c.1)), .t (.v (.int .u64 c.2))]
theorem u64_small {n : Int} (h0 : 0 ≤ n) (h1 : n ≤ 255) : IntKind.u64.wrap n = n := by
 simp [IntKind.wrap, IntKind.bits, IntKind.signed]; omega
theorem i64_small {n : Int} (h0 : 0 ≤ n) (h1 : n ≤ 255) : IntKind.i64.wrap n = n := wrap_id (by omega) (by omega)
theorem next_fun (cd : List Int) (c : Cu) (bw : Nat) (pv : Value) (hcd : okCd cd) (h0 : 0 ≤ c.1) (h1 : c.1 ≤ 1073741824) : Proc Try.prog 93 [.t (.v (.pointer (some ⟨bw, 0, none⟩)))] ([pv]) ([T.bytes cd]) [.obox (.pointer (some ⟨bw, 0, none⟩)) (cuC pv c)] (.t (.int (nxV cd c))) [.obox (.pointer (some ⟨bw, 0, none⟩)) (cuC pv (nxC cd c))] := by
 have hcl := hcd.1
 have hB := nxB_in hcd h0
 refine Proc.intro tys Try.func93 Z Z (N := 62) [100] 99 ([(0, .t (.v (.pointer (some ⟨bw, 0, none⟩))))]) ([(100, .obox (.pointer (some ⟨bw, 0, none⟩)) (cuC pv c)), (99, .ro [pv] [T.bytes cd])]) Z Z Z Z (by decide) (by decide) Z (fun w0 G F0 => ?_)
 refine nY Z (W_le (Le.openNew (u := 100) 1100 Z Z Z Z Z) (nY Z (W_le (Le.named (t := 0) (u := 100) 1100 Z Z) (nY Z (sQ (rG (eZ Z (oN (tN (sQ (rG (eZ Z (oN (tN (sQ ?_)))))))))))))))
 refine sQ (W_regionD mixed (by kernel_rfl) (evQ ?_))
 refine QL_nil' rfl Z (lt_of Z) Z Z Z (evQ ?_)
 refine evQ ?_
 refine QL_norm Z (evQ ?_)
 refine QL_nil' rfl Z (lt_of Z) Z Z Z (evQ ?_)
 refine QL_untell tys 99 0 Z Z (lt_of Z) Z Z Z Z (evEQ ?_)
 refine evQ ?_
 refine QL_norm Z (QL_nil (tN ?_))
 refine W_joinN (α := Int) [0, 2] [100, 99, 1100] (fun x => [(3, .t (.int x))]) (fun x => []) (fun x => x = nxB cd c) ?_ (fun b hx => ?_)
 ·
  refine W_cond Z (fun h1 => ?_) (fun h1 => ?_)
  ·
   simp only [HS] at h1
   refine W_regionD mixed (by kernel_rfl) (evQ ?_)
   refine QL_nil' rfl Z (lt_of Z) Z Z Z (evQ ?_)
   refine QL_untell tys 99 0 Z Z (lt_of Z) Z Z Z Z (evQ ?_)
   refine QL_nil' rfl Z (lt_of Z) Z Z Z (QL_norm Z (evQ ?_))
   refine evQ ?_
   refine QL_idxT tys Z Z (lt_of Z) Z Z Z Z Z Z Z h0 _ (getT _ _ h0 (by simp_all)) ?_
   refine evQ ?_
   have hlt : c.1 < cd.length := by simp_all
   have hbe : nxB cd c = cd[c.1.toNat]'(by omega) := by rw [nxB, if_pos hlt, at0_of h0 hlt]
   refine QL_convId (td := .int .u8) (k := .i64) (m := nxB cd c) Z Z (lt_of Z) Z (by kernel_rfl) (by kernel_rfl) Z (by rw [← hbe]; exact i64_small hB.1 hB.2) ?_
   refine evQ ?_
   refine QL_norm Z (QL_nil ?_)
   refine joinQ_n _ (by (try dsimp only); repeat (first | exact Sub.nil' | refine Sub.cons' rfl ?_)) (by (try dsimp only); repeat (first | exact SubM.nil' | refine SubM.cons' rfl ?_)) ?_
   dsimp only
   all_goals first | rfl | (unfold nxB; rw [if_neg (by simp_all)])
  simp only [HS] at h1
  refine W_skip ?_
  refine joinQ_n _ (by (try dsimp only); repeat (first | exact Sub.nil' | refine Sub.cons' rfl ?_)) (by (try dsimp only); repeat (first | exact SubM.nil' | refine SubM.cons' rfl ?_)) ?_
  all_goals first | rfl | (unfold nxB; rw [if_neg (by simp_all)])
 have hb := hx
 refine tN (sQ (kY [0,2,3] Z (rG (eZ Z (WO_nil' rfl Z (lt_of Z) Z Z Z (eK 2 Z (evI ?_)))))))
 refine WO_nil' rfl Z (lt_of Z) Z Z Z (eZ Z (sT Z (nZ Z (oN (tN (sQ (kY [0,2,3] Z (rG (eK 2 Z (WO_nil' rfl Z (lt_of Z) Z Z Z (eK 2 Z (WO_binW Z Z (lt_of Z) Z Z Z binMul Z (eZ Z (WO_convId (td := .int .i64) (k := .u64) (m := b) Z Z (lt_of Z) Z (by kernel_rfl) (by kernel_rfl) Z (by subst hb; exact u64_small hB.1 hB.2) ?_))))))))))))))
 refine WO_binW Z Z (lt_of Z) Z Z Z binAdd Z (kZ [0,2,3,32,40] Z (WO_binW Z Z (lt_of Z) Z Z Z binAdd Z (WO_nil' rfl Z (lt_of Z) Z Z Z (eZ Z (sT Z (nZ Z (oN (tN (sQ (sQ (W_regionD mixed (by kernel_rfl) (evQ ?_))))))))))))
 refine QL_nil' rfl Z (lt_of Z) Z Z Z (QL_norm Z (evQ ?_))
 refine evQ ?_
 refine evQ ?_
 refine QL_nil' rfl Z (lt_of Z) Z Z Z (evQ ?_)
 refine QL_untell tys 99 0 Z Z (lt_of Z) Z Z Z Z (QL_norm Z (evEQ ?_))
 refine evQ ?_
 refine QL_nil (tN ?_)
 refine W_cond Z (fun h1 => ?_) (fun h1 => ?_)
 ·
  simp only [HS] at h1
  refine sQ (rG (eK 2 Z (oN (tN (W_le (Le.close (u := 100) 1100 Z Z Z) (nY Z (rT (tR ?_))))))))
  refine EndsP_of (ks := [_]) (.inr Z) (ret_okF Z) (by decide) Z (noR_spec Z) (by repeat (first | exact trivial | refine ⟨rfl, rfl, ?_⟩)) ?_ ?_
  ·subst hb
   first
   | (rw [nxV, if_pos (by simp_all)]; rfl)
  ·subst hb
   rfl
 simp only [HS] at h1
 refine W_skip (tN (sQ (rG (eZ Z (WO_nil' rfl Z (lt_of Z) Z Z Z (eK 2 Z (WO_binW Z Z (lt_of Z) Z Z Z (binShr (by decide)) Z (WO_binW Z Z (lt_of Z) Z Z Z binAnd Z (WO_conv (td := .int .u64) (k := .i64) Z Z (lt_of Z) Z (by kernel_rfl) (by kernel_rfl) Z (kZ [2,61] Z (eZ Z (oN (tN (W_le (Le.close (u := 100) 1100 Z Z Z) (nY Z ?_)))))))))))))))
 refine rT ?_
 refine EndsP_of (ks := [_]) (.inr Z) (ret_okF Z) (by decide) Z (noR_spec Z) (by repeat (first | exact trivial | refine ⟨rfl, rfl, ?_⟩)) ?_ ?_
 ·subst hb
  first
  | (rw [nxV, if_neg (by simp_all)]; rfl)
 ·subst hb
  rfl
theorem pick_fun (cd : List Int) (n : Int) (c : Cu) (bw : Nat) (pv : Value) (hcd : okCd cd) (h0 : 0 ≤ c.1) (h1 : c.1 ≤ 536870912) : Proc Try.prog 50 [.t (.v (.pointer (some ⟨bw, 0, none⟩))), .t (.int n)] ([pv]) ([T.bytes cd]) [.obox (.pointer (some ⟨bw, 0, none⟩)) (cuC pv c)] (.t (.int (pickV cd n c))) [.obox (.pointer (some ⟨bw, 0, none⟩)) (cuC pv (pickC cd n c))] := by
 have hx1 := nxV_in (c := c) hcd h0
 have hx2 := nxV_in (c := nxC cd c) hcd (show 0 ≤ c.1 + 1 by omega)
 refine Proc.intro tys Try.func50 Z Z (N := 20) [100] 99 ([(0, .t (.v (.pointer (some ⟨bw, 0, none⟩)))), (1, .t (.int n))]) ([(100, .obox (.pointer (some ⟨bw, 0, none⟩)) (cuC pv c)), (99, .ro [pv] [T.bytes cd])]) Z Z Z Z (by decide) (by decide) Z (fun w0 G F0 => ?_)
 refine nY Z (sQ (rG (eZ Z (oN (tN (sQ (sQ (rG (eK 2 Z (oN (tN ?_)))))))))))
 refine W_cond Z (fun h1 => ?_) (fun h1 => ?_)
 ·
  simp only [HS] at h1
  refine sQ (rG (eZ Z (oN (tN (rT (tR ?_))))))
  refine EndsP_of (ks := [_]) (.inr Z) (ret_okF Z) (by decide) Z (noR_spec Z) (by repeat (first | exact trivial | refine ⟨rfl, rfl, ?_⟩)) ?_ ?_
  ·first
   | (rw [pickV, if_pos (by omega)]; rfl)
  ·first
   | (rw [pickC, if_pos (by omega)]; done)
 simp only [HS] at h1
 refine W_skip (tN (sQ (rG (eZ Z ?_))))
 refine WO_callP (rid := 99) [100] Z Z (lt_of Z) Z Z (by repeat (first | exact ResP.done | refine ResP.pin0 1100 Z ?_ | refine ResP.t ?_ | refine ResP.nil 1 ?_ | refine ResP.nil' ?_ | refine ResP.own ?_ | refine ResP.sl Z Z (by first | omega | (simp; omega)) ?_ | refine ResP.aggT (by repeat (first | exact ResP.done | refine ResP.t ?_)) ?_)) Z (by repeat (first | exact trivial | refine ⟨rfl, rfl, ?_⟩)) (by decide) (next_fun cd c bw pv hcd h0 (by omega)) Z Z Z ?_
 refine nZ Z (eZ Z (oN (tN (sQ (sQ (rG (eK 2 Z (oN (tN ?_)))))))))
 refine W_cond Z (fun h2 => ?_) (fun h2 => ?_)
 ·
  simp only [HS] at h2
  refine kY [0,1,4,5] Z (rG (eZ Z (evI ?_)))
  refine eZ Z ?_
  refine WO_callP (rid := 99) [100] Z Z (lt_of Z) Z Z (by repeat (first | exact ResP.done | refine ResP.pin0 1100 Z ?_ | refine ResP.t ?_ | refine ResP.nil 1 ?_ | refine ResP.nil' ?_ | refine ResP.own ?_ | refine ResP.sl Z Z (by first | omega | (simp; omega)) ?_ | refine ResP.aggT (by repeat (first | exact ResP.done | refine ResP.t ?_)) ?_)) Z (by repeat (first | exact trivial | refine ⟨rfl, rfl, ?_⟩)) (by decide) (next_fun cd (nxC cd c) bw pv hcd (show 0 ≤ c.1 + 1 by omega) (show c.1 + 1 ≤ 1073741824 by omega)) Z Z Z ?_
  refine nZ Z (evI ?_)
  refine eZ Z (oN (tN (sQ (rG (eK 2 Z (WO_rem Z Z (lt_of Z) Z Z Z (by omega) (kZ [4,19] Z (eZ Z (oN (tN (rT ?_)))))))))))
  refine EndsP_of (ks := [_]) (.inr Z) (ret_okF Z) (by decide) Z (noR_spec Z) (by repeat (first | exact trivial | refine ⟨rfl, rfl, ?_⟩)) ?_ ?_
  ·first
   | (rw [pickV, if_neg (by omega), if_pos (by omega)]; rfl)
  ·first
   | (rw [pickC, if_neg (by omega), if_pos (by omega)]; done)
 simp only [HS] at h2
 refine W_skip (tN (sQ (kY [1,4,5] Z (rG (eK 2 Z (WO_rem Z Z (lt_of Z) Z Z Z (by omega) (eZ Z (oN (tN (rT ?_))))))))))
 refine EndsP_of (ks := [_]) (.inr Z) (ret_okF Z) (by decide) Z (noR_spec Z) (by repeat (first | exact trivial | refine ⟨rfl, rfl, ?_⟩)) ?_ ?_
 ·first
  | (rw [pickV, if_neg (by omega), if_neg (by omega)]; rfl)
 ·first
  | (rw [pickC, if_neg (by omega), if_neg (by omega)]; done)
theorem one_fun (cd : List Int) (n : Int) (c : Cu) (bw : Nat) (pv : Value) (hcd : okCd cd) (h0 : 0 ≤ c.1) (h1 : c.1 ≤ 536870912) : Proc Try.prog 49 [.t (.v (.pointer (some ⟨bw, 0, none⟩))), .t (.int n)] ([pv]) ([T.bytes cd]) [.obox (.pointer (some ⟨bw, 0, none⟩)) (cuC pv c)] (.t (.bool (decide (pickV cd n c = 0)))) [.obox (.pointer (some ⟨bw, 0, none⟩)) (cuC pv (pickC cd n c))] := by
 refine Proc.intro tys Try.func49 Z Z (N := 9) [100] 99 ([(0, .t (.v (.pointer (some ⟨bw, 0, none⟩)))), (1, .t (.int n))]) ([(100, .obox (.pointer (some ⟨bw, 0, none⟩)) (cuC pv c)), (99, .ro [pv] [T.bytes cd])]) Z Z Z Z (by decide) (by decide) Z (fun w0 G F0 => ?_)
 refine nY Z (sQ (rG (eZ Z (oN (tN (sQ (rG (eK 2 Z ?_))))))))
 refine WO_callP (rid := 99) [100] Z Z (lt_of Z) Z Z (by repeat (first | exact ResP.done | refine ResP.pin0 1100 Z ?_ | refine ResP.t ?_ | refine ResP.nil 1 ?_ | refine ResP.nil' ?_ | refine ResP.own ?_ | refine ResP.sl Z Z (by first | omega | (simp; omega)) ?_ | refine ResP.aggT (by repeat (first | exact ResP.done | refine ResP.t ?_)) ?_)) Z (by repeat (first | exact trivial | refine ⟨rfl, rfl, ?_⟩)) (by decide) (pick_fun cd n c bw pv hcd h0 h1) Z Z Z ?_
 refine nZ Z (eK 2 Z (oN (tN (rT ?_))))
 refine EndsP_of (ks := [_]) (.inr Z) (ret_okF Z) (by decide) Z (noR_spec Z) (by repeat (first | exact trivial | refine ⟨rfl, rfl, ?_⟩)) ?_ ?_
 ·rfl
 ·rfl
theorem among_fun (cd l : List Int) (c : Cu) (bw : Nat) (pv : Value) (hcd : okCd cd) (h0 : 0 ≤ c.1) (h1 : c.1 ≤ 536870912) (hl : 1 ≤ l.length) (hl2 : l.length ≤ 1073741824) : Proc Try.prog 70 [.t (.v (.pointer (some ⟨bw, 0, none⟩))), .t (T.ints l)] ([pv]) ([T.bytes cd]) [.obox (.pointer (some ⟨bw, 0, none⟩)) (cuC pv c)] (.t (.int (at0 0 l (pickV cd l.length c)))) [.obox (.pointer (some ⟨bw, 0, none⟩)) (cuC pv (pickC cd l.length c))] := by
 have hv := pickV_in (n := l.length) hcd h0
 have hv1 := hv.2.1 (by omega)
 refine Proc.intro tys Try.func70 Z Z (N := 12) [100] 99 ([(0, .t (.v (.pointer (some ⟨bw, 0, none⟩)))), (1, .t (T.ints l))]) ([(100, .obox (.pointer (some ⟨bw, 0, none⟩)) (cuC pv c)), (99, .ro [pv] [T.bytes cd])]) Z Z Z Z (by decide) (by decide) Z (fun w0 G F0 => ?_)
 refine nY Z (sQ (rG (eZ Z (oN (tN (sQ (rG (eK 3 Z (evE ?_)))))))))
 refine WO_callP (rid := 99) [100] Z Z (lt_of Z) Z Z (by repeat (first | exact ResP.done | refine ResP.pin0 1100 Z ?_ | refine ResP.t ?_ | refine ResP.nil 1 ?_ | refine ResP.nil' ?_ | refine ResP.own ?_ | refine ResP.sl Z Z (by first | omega | (simp; omega)) ?_ | refine ResP.aggT (by repeat (first | exact ResP.done | refine ResP.t ?_)) ?_)) Z (by repeat (first | exact trivial | refine ⟨rfl, rfl, ?_⟩)) (by decide) (pick_fun cd l.length c bw pv hcd h0 h1) Z Z Z ?_
 refine nZ Z (WO_idxT tys Z Z (lt_of Z) Z Z Z Z Z Z Z hv.1 _ (getT _ _ hv.1 hv1) (eK 2 Z (kZ [4] Z (oN (tN (rT ?_))))))
 refine EndsP_of (ks := [_]) (.inr Z) (ret_okF Z) (by decide) Z (noR_spec Z) (by repeat (first | exact trivial | refine ⟨rfl, rfl, ?_⟩)) ?_ ?_
 ·rw [at0_of hv.1 hv1]
  rfl
 ·rfl
def plA (cd : List Int) (chans : Int) (send : Bool) (c : Cu) : Act := if send then .mk 1 (pickV cd chans c) (1 + pickV cd 9 (pickC cd chans c)) [] else .mk 2 (pickV cd chans c) 0 []
def plC (cd : List Int) (chans : Int) (send : Bool) (c : Cu) : Cu := if send then pickC cd 9 (pickC cd chans c) else pickC cd chans c
theorem plC_at {cd : List Int} {chans : Int} {send : Bool} {c : Cu} : c.1 ≤ (plC cd chans send c).1 ∧ (plC cd chans send c).1 ≤ c.1 + 4 := by
 have h1 := pickC_at (cd := cd) (n := chans) (c := c)
 have h2 := pickC_at (cd := cd) (n := 9) (c := pickC cd chans c)
 unfold plC
 split <;> omega
theorem plainAct_fun' (cd : List Int) (chans : Int) (send : Bool) (c : Cu) (bw : Nat) (pv : Value) (hcd : okCd cd) (h0 : 0 ≤ c.1) (h1 : c.1 ≤ 268435456) : Proc Try.prog 99 [.t (.v (.pointer (some ⟨bw, 0, none⟩))), .t (.int chans), .t (.bool send)] ([pv]) ([T.bytes cd]) [.obox (.pointer (some ⟨bw, 0, none⟩)) (cuC pv c)] ((plA cd chans send c).dd) [.obox (.pointer (some ⟨bw, 0, none⟩)) (cuC pv (plC cd chans send c))] := by
 have hc1 := pickC_at (cd := cd) (n := chans) (c := c)
 have hv := pickV_in (n := 9) (c := pickC cd chans c) hcd (by omega)
 refine Proc.intro tys Try.func99 Z Z (N := 19) [100] 99 ([(0, .t (.v (.pointer (some ⟨bw, 0, none⟩)))), (1, .t (.int chans)), (2, .t (.bool send))]) ([(100, .obox (.pointer (some ⟨bw, 0, none⟩)) (cuC pv c)), (99, .ro [pv] [T.bytes cd])]) Z Z Z Z (by decide) (by decide) Z (fun w0 G F0 => ?_)
 refine nY Z (sQ (rG (WO_alloc tys Z Z (lt_of Z) Z Z Z (nZ Z (oN (tN (sQ (sQ (rG (eZ Z (oN (tN ?_))))))))))))
 refine W_cond Z (fun h1 => ?_) (fun h1 => ?_)
 ·
  refine sQ (rG (eK 2 Z ?_))
  refine WO_callP (rid := 99) [100] Z Z (lt_of Z) Z Z (by repeat (first | exact ResP.done | refine ResP.pin0 1100 Z ?_ | refine ResP.t ?_ | refine ResP.nil 1 ?_ | refine ResP.nil' ?_ | refine ResP.own ?_ | refine ResP.sl Z Z (by first | omega | (simp; omega)) ?_ | refine ResP.aggT (by repeat (first | exact ResP.done | refine ResP.t ?_)) ?_)) Z (by repeat (first | exact trivial | refine ⟨rfl, rfl, ?_⟩)) (by decide) (pick_fun cd chans c bw pv hcd h0 (by omega)) Z Z Z ?_
  refine nZ Z (eZ Z ?_)
  refine WO_callP (rid := 99) [100] Z Z (lt_of Z) Z Z (by repeat (first | exact ResP.done | refine ResP.pin0 1100 Z ?_ | refine ResP.t ?_ | refine ResP.nil 1 ?_ | refine ResP.nil' ?_ | refine ResP.own ?_ | refine ResP.sl Z Z (by first | omega | (simp; omega)) ?_ | refine ResP.aggT (by repeat (first | exact ResP.done | refine ResP.t ?_)) ?_)) Z (by repeat (first | exact trivial | refine ⟨rfl, rfl, ?_⟩)) (by decide) (pick_fun cd 9 (pickC cd chans c) bw pv hcd (by omega) (by omega)) Z Z Z ?_
  refine nZ Z (evI ?_)
  refine WO_struct tys Z Z (lt_of Z) Z Z Z (by kernel_rfl) Z Z Z Z Z Z (kZ [0,1,6,14] Z (sT Z (nZ Z (oN (tN ?_)))))
  (refine W_le (Le.nilBox (u := 6) (j := 3) 4 rfl rfl) ?_; refine W_norm rfl ?_)
  refine rT (tR ?_)
  refine EndsP_of (ks := [_]) (.inr Z) (ret_okF Z) (by decide) Z (noR_spec Z) (by repeat (first | exact trivial | refine ⟨rfl, rfl, ?_⟩)) ?_ ?_
  ·(rw [plA, if_pos (by assumption)]; rfl)
  ·(rw [plC, if_pos (by assumption)]; done)
 refine W_skip (tN (sQ (rG (eK 2 Z ?_))))
 refine WO_callP (rid := 99) [100] Z Z (lt_of Z) Z Z (by repeat (first | exact ResP.done | refine ResP.pin0 1100 Z ?_ | refine ResP.t ?_ | refine ResP.nil 1 ?_ | refine ResP.nil' ?_ | refine ResP.own ?_ | refine ResP.sl Z Z (by first | omega | (simp; omega)) ?_ | refine ResP.aggT (by repeat (first | exact ResP.done | refine ResP.t ?_)) ?_)) Z (by repeat (first | exact trivial | refine ⟨rfl, rfl, ?_⟩)) (by decide) (pick_fun cd chans c bw pv hcd h0 (by omega)) Z Z Z ?_
 refine nZ Z (WO_struct tys Z Z (lt_of Z) Z Z Z (by kernel_rfl) Z Z Z Z Z Z (sT Z (nZ Z (oN (tN ?_)))))
 (refine W_le (Le.nilBox (u := 6) (j := 3) 4 rfl rfl) ?_; refine W_norm rfl ?_)
 refine rT ?_
 refine EndsP_of (ks := [_]) (.inr Z) (ret_okF Z) (by decide) Z (noR_spec Z) (by repeat (first | exact trivial | refine ⟨rfl, rfl, ?_⟩)) ?_ ?_
 ·(rw [plA, if_neg (by simp_all)]; rfl)
 ·(rw [plC, if_neg (by simp_all)]; done)
open Go.Eng
def selL (cd : List Int) (chans : Int) : Nat → List Act → Cu → List Act × Cu
 | 0, l, c => (l, c)
 | k + 1, l, c => selL cd chans k (l ++ [plA cd chans (decide (pickV cd 2 c = 0)) (pickC cd 2 c)]) (plC cd chans (decide (pickV cd 2 c = 0)) (pickC cd 2 c))
def acA (cd : List Int) (chans : Int) (c : Cu) : Act × Cu :=
 if pickV cd 9 c = 0 ∨ pickV cd 9 c = 1 ∨ pickV cd 9 c = 2 then (plA cd chans true (pickC cd 9 c), plC cd chans true (pickC cd 9 c))
 else if pickV cd 9 c = 3 ∨ pickV cd 9 c = 4 then (plA cd chans false (pickC cd 9 c), plC cd chans false (pickC cd 9 c))
 else if pickV cd 9 c = 5 then (.mk 3 0 0 [], pickC cd 9 c)
 else if pickV cd 9 c = 6 ∨ pickV cd 9 c = 7 then
  (.mk 4 0 0 (selL cd chans (1 + pickV cd 3 (pickC cd 9 c)).toNat [] (pickC cd 3 (pickC cd 9 c))).1, (selL cd chans (1 + pickV cd 3 (pickC cd 9 c)).toNat [] (pickC cd 3 (pickC cd 9 c))).2)
 else if pickV cd 2 (pickC cd 9 c) = 0 then (.mk 3 0 0 [], pickC cd 2 (pickC cd 9 c))
 else (.mk 5 (pickV cd chans (pickC cd 2 (pickC cd 9 c))) 0 [], pickC cd chans (pickC cd 2 (pickC cd 9 c)))
theorem selL_at {cd : List Int} {chans : Int} : ∀ (k : Nat) (l : List Act) (c : Cu), c.1 ≤ (selL cd chans k l c).2.1 ∧ (selL cd chans k l c).2.1 ≤ c.1 + 6 * k ∧ (selL cd chans k l c).1.length = l.length + k
 | 0, l, c => by simp [selL]
 | k + 1, l, c => by
  have h1 := pickC_at (cd := cd) (n := 2) (c := c)
  have h2 := plC_at (cd := cd) (chans := chans) (send := decide (pickV cd 2 c = 0)) (c := pickC cd 2 c)
  have h3 := selL_at (cd := cd) (chans := chans) k (l ++ [plA cd chans (decide (pickV cd 2 c = 0)) (pickC cd 2 c)]) (plC cd chans (decide (pickV cd 2 c = 0)) (pickC cd 2 c))
  rw [selL]
  rw [List.length_append, List.length_cons, List.length_nil] at h3
  omega
theorem act_fun' (cd : List Int) (chans : Int) (c : Cu) (bw : Nat) (pv : Value) (hcd : okCd cd) (h0 : 0 ≤ c.1) (h1 : c.1 ≤ 134217728) : Proc Try.prog 71 [.t (.v (.pointer (some ⟨bw, 0, none⟩))), .t (.int chans)] ([pv]) ([T.bytes cd]) [.obox (.pointer (some ⟨bw, 0, none⟩)) (cuC pv c)] ((acA cd chans c).1.dd) [.obox (.pointer (some ⟨bw, 0, none⟩)) (cuC pv (acA cd chans c).2)] := by
 have hc1 := pickC_at (cd := cd) (n := 9) (c := c)
 have hc2 := pickC_at (cd := cd) (n := 2) (c := pickC cd 9 c)
 have hc3 := pickC_at (cd := cd) (n := 3) (c := pickC cd 9 c)
 have hv3 := pickV_in (n := 3) (c := pickC cd 9 c) hcd (by omega)
 have hv3' := hv3.2.1 (by omega)
 refine Proc.intro tys Try.func71 Z Z (N := 54) [100] 99 ([(0, .t (.v (.pointer (some ⟨bw, 0, none⟩)))), (1, .t (.int chans))]) ([(100, .obox (.pointer (some ⟨bw, 0, none⟩)) (cuC pv c)), (99, .ro [pv] [T.bytes cd])]) Z Z Z Z (by decide) (by decide) Z (fun w0 G F0 => ?_)
 refine nY Z (sQ (rG (WO_alloc tys Z Z (lt_of Z) Z Z Z (nZ Z (oN (tN (sQ (sQ (rG (eZ Z ?_))))))))))
 refine WO_callP (rid := 99) [100] Z Z (lt_of Z) Z Z (by repeat (first | exact ResP.done | refine ResP.pin0 1100 Z ?_ | refine ResP.t ?_ | refine ResP.nil 1 ?_ | refine ResP.nil' ?_ | refine ResP.own ?_ | refine ResP.sl Z Z (by first | omega | (simp; omega)) ?_ | refine ResP.aggT (by repeat (first | exact ResP.done | refine ResP.t ?_)) ?_)) Z (by repeat (first | exact trivial | refine ⟨rfl, rfl, ?_⟩)) (by decide) (pick_fun cd 9 c bw pv hcd h0 (by omega)) Z Z Z ?_
 refine nZ Z (oN (tN (W_block (sQ (sQ (rG (eK 2 Z (oN (tN ?_)))))))))
 refine W_joinN (α := Bool) [0, 1, 4, 8] [100, 99, 4] (fun x => [(9, .t (.bool x))]) (fun x => []) (fun x => x = decide (pickV cd 9 c = 0 ∨ pickV cd 9 c = 1 ∨ pickV cd 9 c = 2)) ?_ (fun b hx => ?_)
 ·
  refine W_cond Z (fun h1 => ?_) (fun h1 => ?_)
  ·
   simp only [HS] at h1
   refine W_skip ?_
   refine joinQ_n _ (by (try dsimp only); repeat (first | exact Sub.nil' | refine Sub.cons' rfl ?_)) (by (try dsimp only); repeat (first | exact SubM.nil' | refine SubM.cons' rfl ?_)) ?_
   all_goals first | (simp_all; done) | (symm; simp; omega) | (simp; omega)
  simp only [HS] at h1
  refine sQ (rG (eK 2 Z (oN (tN ?_))))
  refine W_cond Z (fun h2 => ?_) (fun h2 => ?_)
  ·
   simp only [HS] at h2
   refine W_skip ?_
   refine joinQ_n _ (by (try dsimp only); repeat (first | exact Sub.nil' | refine Sub.cons' rfl ?_)) (by (try dsimp only); repeat (first | exact SubM.nil' | refine SubM.cons' rfl ?_)) ?_
   all_goals first | (simp_all; done) | (symm; simp; omega) | (simp; omega)
  simp only [HS] at h2
  refine kY [0,1,4,8,9] Z (rG (eK 2 Z (oN ?_)))
  refine joinQ_n _ (by (try dsimp only); repeat (first | exact Sub.nil' | refine Sub.cons' rfl ?_)) (by (try dsimp only); repeat (first | exact SubM.nil' | refine SubM.cons' rfl ?_)) ?_
  all_goals first | (simp_all; done) | (symm; simp; omega) | (simp; omega)
 have hb1 := hx
 refine tN ?_
 refine W_cond Z (fun h1 => ?_) (fun h1 => ?_)
 ·
  refine sQ (kY [0,1,4] Z (rG (eK 2 Z ?_)))
  refine WO_callP (rid := 99) [100] Z Z (lt_of Z) Z Z (by repeat (first | exact ResP.done | refine ResP.pin0 1100 Z ?_ | refine ResP.t ?_ | refine ResP.nil 1 ?_ | refine ResP.nil' ?_ | refine ResP.own ?_ | refine ResP.sl Z Z (by first | omega | (simp; omega)) ?_ | refine ResP.aggT (by repeat (first | exact ResP.done | refine ResP.t ?_)) ?_)) Z (by repeat (first | exact trivial | refine ⟨rfl, rfl, ?_⟩)) (by decide) (plainAct_fun' cd chans true (pickC cd 9 c) bw pv hcd (by omega) (by omega)) Z Z Z ?_
  refine nZ Z (sT Z (nZ Z (oN (tN ?_))))
  skip
  refine rT (bR (tR ?_))
  refine EndsP_of (ks := [_]) (.inr Z) (ret_okF Z) (by decide) Z (noR_spec Z) (by repeat (first | exact trivial | refine ⟨rfl, rfl, ?_⟩)) ?_ ?_
  ·unfold acA
   repeat' split
   all_goals first | rfl | (rw [← hm4]; done) | (rw [← hm4]; rfl) | (exfalso; simp_all; done) | (exfalso; simp_all; omega)
  ·unfold acA
   repeat' split
   all_goals first | rfl | (rw [← hm4]; done) | (rw [← hm4]; rfl) | (exfalso; simp_all; done) | (exfalso; simp_all; omega)
 refine sQ (sQ (kY [0,1,4,8] Z (rG (eK 2 Z (oN (tN ?_))))))
 refine W_joinN (α := Bool) [0, 1, 4, 8] [100, 99, 4] (fun x => [(16, .t (.bool x))]) (fun x => []) (fun x => x = decide (pickV cd 9 c = 3 ∨ pickV cd 9 c = 4)) ?_ (fun b hx => ?_)
 ·
  refine W_cond Z (fun h2 => ?_) (fun h2 => ?_)
  ·
   simp only [HS] at h2
   refine W_skip ?_
   refine joinQ_n _ (by (try dsimp only); repeat (first | exact Sub.nil' | refine Sub.cons' rfl ?_)) (by (try dsimp only); repeat (first | exact SubM.nil' | refine SubM.cons' rfl ?_)) ?_
   all_goals first | (simp_all; done) | (symm; simp; omega) | (simp; omega)
  simp only [HS] at h2
  refine rG (eK 2 Z (oN ?_))
  refine joinQ_n _ (by (try dsimp only); repeat (first | exact Sub.nil' | refine Sub.cons' rfl ?_)) (by (try dsimp only); repeat (first | exact SubM.nil' | refine SubM.cons' rfl ?_)) ?_
  all_goals first | (simp_all; done) | (symm; simp; omega) | (simp; omega)
 have hb2 := hx
 refine tN ?_
 refine W_cond Z (fun h2 => ?_) (fun h2 => ?_)
 ·
  refine sQ (kY [0,1,4] Z (rG (eK 2 Z ?_)))
  refine WO_callP (rid := 99) [100] Z Z (lt_of Z) Z Z (by repeat (first | exact ResP.done | refine ResP.pin0 1100 Z ?_ | refine ResP.t ?_ | refine ResP.nil 1 ?_ | refine ResP.nil' ?_ | refine ResP.own ?_ | refine ResP.sl Z Z (by first | omega | (simp; omega)) ?_ | refine ResP.aggT (by repeat (first | exact ResP.done | refine ResP.t ?_)) ?_)) Z (by repeat (first | exact trivial | refine ⟨rfl, rfl, ?_⟩)) (by decide) (plainAct_fun' cd chans false (pickC cd 9 c) bw pv hcd (by omega) (by omega)) Z Z Z ?_
  refine nZ Z (sT Z (nZ Z (oN (tN ?_))))
  skip
  refine rT (bR (tR ?_))
  refine EndsP_of (ks := [_]) (.inr Z) (ret_okF Z) (by decide) Z (noR_spec Z) (by repeat (first | exact trivial | refine ⟨rfl, rfl, ?_⟩)) ?_ ?_
  ·unfold acA
   repeat' split
   all_goals first | rfl | (rw [← hm4]; done) | (rw [← hm4]; rfl) | (exfalso; simp_all; done) | (exfalso; simp_all; omega)
  ·unfold acA
   repeat' split
   all_goals first | rfl | (rw [← hm4]; done) | (rw [← hm4]; rfl) | (exfalso; simp_all; done) | (exfalso; simp_all; omega)
 refine sQ (kY [0,1,4,8] Z (rG (eK 2 Z (oN (tN ?_)))))
 refine W_cond Z (fun h3 => ?_) (fun h3 => ?_)
 ·
  simp only [HS] at h3
  refine sQ (rG (WO_struct tys Z Z (lt_of Z) Z Z Z (by kernel_rfl) Z Z Z Z Z Z (sT Z (nZ Z (oN (tN (W_le (Le.nilBox (u := 4) (j := 3) 4 Z Z) (nY Z (rT (bR (tR ?_)))))))))))
  refine EndsP_of (ks := [_]) (.inr Z) (ret_okF Z) (by decide) Z (noR_spec Z) (by repeat (first | exact trivial | refine ⟨rfl, rfl, ?_⟩)) ?_ ?_
  ·unfold acA
   repeat' split
   all_goals first | rfl | (rw [← hm4]; done) | (rw [← hm4]; rfl) | (exfalso; simp_all; done) | (exfalso; simp_all; omega)
  ·unfold acA
   repeat' split
   all_goals first | rfl | (rw [← hm4]; done) | (rw [← hm4]; rfl) | (exfalso; simp_all; done) | (exfalso; simp_all; omega)
 simp only [HS] at h3
 refine sQ (sQ (rG (eK 2 Z (oN (tN ?_)))))
 refine W_joinN (α := Bool) [0, 1, 4] [100, 99, 4] (fun x => [(25, .t (.bool x))]) (fun x => []) (fun x => x = decide (pickV cd 9 c = 6 ∨ pickV cd 9 c = 7)) ?_ (fun b hx => ?_)
 ·
  refine W_cond Z (fun h4 => ?_) (fun h4 => ?_)
  ·
   simp only [HS] at h4
   refine W_skip ?_
   refine joinQ_n _ (by (try dsimp only); repeat (first | exact Sub.nil' | refine Sub.cons' rfl ?_)) (by (try dsimp only); repeat (first | exact SubM.nil' | refine SubM.cons' rfl ?_)) ?_
   all_goals first | (simp_all; done) | (symm; simp; omega) | (simp; omega)
  simp only [HS] at h4
  refine rG (eK 2 Z (oN ?_))
  refine joinQ_n _ (by (try dsimp only); repeat (first | exact Sub.nil' | refine Sub.cons' rfl ?_)) (by (try dsimp only); repeat (first | exact SubM.nil' | refine SubM.cons' rfl ?_)) ?_
  all_goals first | (simp_all; done) | (symm; simp; omega) | (simp; omega)
 have hb3 := hx
 refine tN ?_
 refine W_cond Z (fun h4 => ?_) (fun h4 => ?_)
 ·
  refine sQ (kY [0,1,4] Z (rG (WO_struct tys Z Z (lt_of Z) Z Z Z (by kernel_rfl) Z Z Z Z Z Z (WO_alloc tys Z Z (lt_of Z) Z Z Z (nZ Z (sT Z (nZ Z (oN (tN (sQ (sQ (nY Z (W_le (Le.nilBox (u := 5) (j := 3) 4 Z Z) (nY Z (rG ?_)))))))))))))))
  refine eZ Z ?_
  refine WO_callP (rid := 99) [100] Z Z (lt_of Z) Z Z (by repeat (first | exact ResP.done | refine ResP.pin0 1100 Z ?_ | refine ResP.t ?_ | refine ResP.nil 1 ?_ | refine ResP.nil' ?_ | refine ResP.own ?_ | refine ResP.sl Z Z (by first | omega | (simp; omega)) ?_ | refine ResP.aggT (by repeat (first | exact ResP.done | refine ResP.t ?_)) ?_)) Z (by repeat (first | exact trivial | refine ⟨rfl, rfl, ?_⟩)) (by decide) (pick_fun cd 3 (pickC cd 9 c) bw pv hcd (by omega) (by omega)) Z Z Z ?_
  refine nZ Z (evI ?_)
  refine eZ Z (oN (tN (W_block ?_)))
  refine lK (α := Int × List Act × Cu) [0, 1, 4, 5] [99, 4] (fun x => [(6, .t (.int (x.1)))]) (fun x => [(100, .obox (.pointer (some ⟨bw, 0, none⟩)) (cuC pv (x.2.2))), (5, .box [.t (T.int 4), .t (T.int 0), .t (T.int 0), .own (.list 4 ((x.2.1).map Act.toT))])]) (fun x => 0 ≤ (x.1) ∧ (x.2.1).length + (x.1) ≤ 3 ∧ (pickC cd 9 c).1 ≤ (x.2.2).1 ∧ (x.2.2).1 ≤ c.1 + 30 - 6 * (x.1) ∧ selL cd chans (x.1).toNat (x.2.1) (x.2.2) = selL cd chans (1 + pickV cd 3 (pickC cd 9 c)).toNat [] (pickC cd 3 (pickC cd 9 c))) (fun x => Int.toNat ((x.1))) (1 + pickV cd 3 (pickC cd 9 c), [], pickC cd 3 (pickC cd 9 c)) ?_ (fun x hx => ?_)
  ·dsimp only
   exact ⟨by omega, by simp; omega, by omega, by omega, rfl⟩
  obtain ⟨m, cs, c'⟩ := x
  obtain ⟨hm0, hm1, hm2, hm3, hm4⟩ := hx
  dsimp only at hm0 hm1 hm2 hm3 hm4 ⊢
  refine nY Z (sQ (sQ (rG (eK 2 Z (oN (tN ?_))))))
  refine W_cond Z (fun h5 => ?_) (fun h5 => ?_)
  ·
   simp only [HS] at h5
   refine W_skip (tN (sQ (W_block ?_)))
   have hk2 := pickC_at (cd := cd) (n := 2) (c := c')
   have hk4 := plC_at (cd := cd) (chans := chans) (send := decide (pickV cd 2 c' = 0)) (c := pickC cd 2 c')
   refine W_regionHm 8 [[100], [100], [5, 100], [5, 100], [5], [5], [5], [5]] mixed Z (by kernel_rfl) (by kernel_rfl) (QH_G ?_)
   skip
   refine QG_ev tys Z Z (lt_of Z) Z (QG_nil (QH_loadOwn tys Z Z (lt_of Z) Z Z Z Z Z Z (QH_G (QG_ev tys Z Z (lt_of Z) Z (QG_nil (QH_G (QG_ev tys Z Z (lt_of Z) Z (QG_nil (QH_norm Z (QH_G (QG_ev tys Z Z (lt_of Z) Z (QG_nil ?_))))))))))))
   refine QH_callP (rid := 99) [100] Z Z (lt_of Z) Z Z (by repeat (first | exact ResP.done | refine ResP.pin0 1100 Z ?_ | refine ResP.t ?_ | refine ResP.nil 1 ?_ | refine ResP.nil' ?_ | refine ResP.own ?_ | refine ResP.sl Z Z (by first | omega | (simp; omega)) ?_ | refine ResP.aggT (by repeat (first | exact ResP.done | refine ResP.t ?_)) ?_)) Z (by repeat (first | exact trivial | refine ⟨rfl, rfl, ?_⟩)) (by decide) (one_fun cd 2 c' bw pv hcd (by omega) (by omega)) Z Z Z ?_
   refine QH_callP (rid := 99) [100] Z Z (lt_of Z) Z Z (by repeat (first | exact ResP.done | refine ResP.pin0 1100 Z ?_ | refine ResP.t ?_ | refine ResP.nil 1 ?_ | refine ResP.nil' ?_ | refine ResP.own ?_ | refine ResP.sl Z Z (by first | omega | (simp; omega)) ?_ | refine ResP.aggT (by repeat (first | exact ResP.done | refine ResP.t ?_)) ?_)) Z (by repeat (first | exact trivial | refine ⟨rfl, rfl, ?_⟩)) (by decide) (plainAct_fun' cd chans (decide (pickV cd 2 c' = 0)) (pickC cd 2 c') bw pv hcd (by omega) (by omega)) Z Z Z ?_
   refine QH_G ?_
   refine QG_buildS tys [(plA cd chans (decide (pickV cd 2 c' = 0)) (pickC cd 2 c')).tt] Z Z (lt_of Z) Z Z Z Z Z (lt_of Z) (by repeat (first | exact PartsOk.nil' | refine PartsOk.cons' rfl (by repeat (first | exact AbsL.nil' | refine AbsL.v' ?_ | refine AbsL.own' ?_ | refine AbsL.none' ?_)) Z ?_)) Z Z Z (by decide) ?_
   refine QG_nil (QH_norm Z (QH_nil ?_))
   refine ⟨by kernel_rfl, ?_⟩
   refine nZ Z (WO_le (Le.adoptE (u := 37) 137 Z Z) (nZ Z (WO_le (Le.adoptE (u := 43) 143 Z Z) (nZ Z (WO_append tys Z Z (lt_of Z) Z Z Z Z Z (.own Z (by first | omega | (simp only [List.length_append]; omega))) Z (.own Z (by first | decide | omega)) (by decide) (by simp; omega) (by decide) Z ?_)))))
   refine nZ Z (WO_le (Le.gather (u := 44) (id := 137) Z Z (by first | (simp; done) | (simp; omega) | omega)) ?_)
   refine nZ Z (eZ Z (sT Z (nZ Z (oN (bN (tN (nY Z (W_le (Le.eqK (id := 5) (k' := .box [.t (T.int 4), .t (T.int 0), .t (T.int 0), .own (.list 4 ((cs ++ [plA cd chans (decide (pickV cd 2 c' = 0)) (pickC cd 2 c')]).map Act.toT))]) Z (by simp [Act.toT_eq, List.take_of_length_le])) ?_))))))))
   refine nY Z (rG (eZ Z (evI ?_)))
   refine eZ Z (oN ?_)
   refine lQ (_, cs ++ [plA cd chans (decide (pickV cd 2 c' = 0)) (pickC cd 2 c')], _) ?_ ?_
   ·dsimp only
    have hm5 : m.toNat = (m - 1).toNat + 1 := by omega
    rw [hm5, selL] at hm4
    refine ⟨by omega, by simp; omega, by omega, by omega, ?_⟩
    exact hm4
   ·(show Int.toNat _ < Int.toNat _); omega
  simp only [HS] at h5
  refine W_exit (tE (loopQ_e (inBlk_y (tN (sQ (rG ?_))))))
  have hm6 : m.toNat = 0 := by omega
  rw [hm6, selL] at hm4
  refine WO_loadMove tys Z Z (lt_of Z) Z Z Z Z Z Z (nZ Z (sT Z (nZ Z (oN (tN ?_)))))
  skip
  refine rT (bR (tR ?_))
  refine EndsP_of (ks := [_]) (.inr Z) (ret_okF Z) (by decide) Z (noR_spec Z) (by repeat (first | exact trivial | refine ⟨rfl, rfl, ?_⟩)) ?_ ?_
  ·unfold acA
   repeat' split
   all_goals first | rfl | (rw [← hm4]; done) | (rw [← hm4]; rfl) | (exfalso; simp_all; done) | (exfalso; simp_all; omega)
  ·unfold acA
   repeat' split
   all_goals first | rfl | (rw [← hm4]; done) | (rw [← hm4]; rfl) | (exfalso; simp_all; done) | (exfalso; simp_all; omega)
 refine W_skip (bN (tN (sQ (sQ (kY [0,1,4] Z (rG (eZ Z ?_)))))))
 refine WO_callP (rid := 99) [100] Z Z (lt_of Z) Z Z (by repeat (first | exact ResP.done | refine ResP.pin0 1100 Z ?_ | refine ResP.t ?_ | refine ResP.nil 1 ?_ | refine ResP.nil' ?_ | refine ResP.own ?_ | refine ResP.sl Z Z (by first | omega | (simp; omega)) ?_ | refine ResP.aggT (by repeat (first | exact ResP.done | refine ResP.t ?_)) ?_)) Z (by repeat (first | exact trivial | refine ⟨rfl, rfl, ?_⟩)) (by decide) (one_fun cd 2 (pickC cd 9 c) bw pv hcd (by omega) (by omega)) Z Z Z ?_
 refine nZ Z (oN (tN ?_))
 refine W_cond Z (fun h5 => ?_) (fun h5 => ?_)
 ·
  simp only [HS] at h5
  refine sQ (rG (WO_struct tys Z Z (lt_of Z) Z Z Z (by kernel_rfl) Z Z Z Z Z Z (sT Z (nZ Z (oN (tN (W_le (Le.nilBox (u := 4) (j := 3) 4 Z Z) (nY Z (rT (tR ?_))))))))))
  refine EndsP_of (ks := [_]) (.inr Z) (ret_okF Z) (by decide) Z (noR_spec Z) (by repeat (first | exact trivial | refine ⟨rfl, rfl, ?_⟩)) ?_ ?_
  ·unfold acA
   repeat' split
   all_goals first | rfl | (rw [← hm4]; done) | (rw [← hm4]; rfl) | (exfalso; simp_all; done) | (exfalso; simp_all; omega)
  ·unfold acA
   repeat' split
   all_goals first | rfl | (rw [← hm4]; done) | (rw [← hm4]; rfl) | (exfalso; simp_all; done) | (exfalso; simp_all; omega)
 simp only [HS] at h5
 refine W_skip (tN (sQ (rG (eK 2 Z ?_))))
 refine WO_callP (rid := 99) [100] Z Z (lt_of Z) Z Z (by repeat (first | exact ResP.done | refine ResP.pin0 1100 Z ?_ | refine ResP.t ?_ | refine ResP.nil 1 ?_ | refine ResP.nil' ?_ | refine ResP.own ?_ | refine ResP.sl Z Z (by first | omega | (simp; omega)) ?_ | refine ResP.aggT (by repeat (first | exact ResP.done | refine ResP.t ?_)) ?_)) Z (by repeat (first | exact trivial | refine ⟨rfl, rfl, ?_⟩)) (by decide) (pick_fun cd chans (pickC cd 2 (pickC cd 9 c)) bw pv hcd (by omega) (by omega)) Z Z Z ?_
 refine nZ Z (WO_struct tys Z Z (lt_of Z) Z Z Z (by kernel_rfl) Z Z Z Z Z Z (sT Z (nZ Z (oN (tN (W_le (Le.nilBox (u := 4) (j := 3) 4 Z Z) (nY Z (rT ?_))))))))
 refine EndsP_of (ks := [_]) (.inr Z) (ret_okF Z) (by decide) Z (noR_spec Z) (by repeat (first | exact trivial | refine ⟨rfl, rfl, ?_⟩)) ?_ ?_
 ·unfold acA
  repeat' split
  all_goals first | rfl | (rw [← hm4]; done) | (rw [← hm4]; rfl) | (exfalso; simp_all; done) | (exfalso; simp_all; omega)
 ·unfold acA
  repeat' split
  all_goals first | rfl | (rw [← hm4]; done) | (rw [← hm4]; rfl) | (exfalso; simp_all; done) | (exfalso; simp_all; omega)
open Go.Eng
def roomL (cd : List Int) : Nat → List Int → Cu → List Int × Cu
 | 0, l, c => (l, c)
 | k + 1, l, c => roomL cd k (l ++ [at0 0 [0, 0, 1, 2] (pickV cd 4 c)]) (pickC cd 4 c)
def lineL (cd : List Int) (chans : Int) : Nat → List Act → Cu → List Act × Cu
 | 0, l, c => (l, c)
 | k + 1, l, c => lineL cd chans k (l ++ [(acA cd chans c).1]) (acA cd chans c).2
def linesL (cd : List Int) (chans : Int) : Nat → List (List Act) → Cu → List (List Act) × Cu
 | 0, l, c => (l, c)
 | k + 1, l, c => linesL cd chans k (l ++ [(lineL cd chans (pickV cd 5 c).toNat [] (pickC cd 5 c)).1]) (lineL cd chans (pickV cd 5 c).toNat [] (pickC cd 5 c)).2
def roomR (cd : List Int) (c : Cu) : List Int × Cu := roomL cd (1 + pickV cd 2 c).toNat [] (pickC cd 2 c)
def linesR (cd : List Int) (r : List Int × Cu) : List (List Act) × Cu := linesL cd r.1.length (2 + pickV cd 2 r.2).toNat [] (pickC cd 2 r.2)
def setChan (n : Int) : List Act → List Act
 | [] => []
 | a :: l => .mk a.kind n a.n a.cases :: l
def setKind (n : Int) : List Act → List Act
 | [] => []
 | a :: l => .mk n a.chan a.n a.cases :: l
def spoilR (cd : List Int) (room : List Int) (acts : List (List Act)) (c : Cu) : (List Int × List (List Act)) × Cu :=
 if 0 < (at0 [] acts 0).length then
  if pickV cd 40 c = 0 then ((room, acts.set 0 (setChan (at0 0 [-1, 3] (pickV cd 2 (pickC cd 40 c))) (at0 [] acts 0))), pickC cd 2 (pickC cd 40 c))
  else if pickV cd 40 c = 1 then ((room, acts.set 0 (setKind (pickV cd 7 (pickC cd 40 c)) (at0 [] acts 0))), pickC cd 7 (pickC cd 40 c))
  else if pickV cd 40 c = 2 then ((room.set 0 (at0 0 [-1, 3, 4] (pickV cd 3 (pickC cd 40 c))), acts), pickC cd 3 (pickC cd 40 c))
  else ((room, acts), pickC cd 40 c)
 else ((room, acts), c)
def sceneR (cd : List Int) (c : Cu) : (List Int × List (List Act)) × Cu := spoilR cd (roomR cd c).1 (linesR cd (roomR cd c)).1 (linesR cd (roomR cd c)).2
theorem acA_at {cd : List Int} {chans : Int} {c : Cu} (hcd : okCd cd) (h0 : 0 ≤ c.1) : c.1 ≤ (acA cd chans c).2.1 ∧ (acA cd chans c).2.1 ≤ c.1 + 30 := by
 have hc1 := pickC_at (cd := cd) (n := 9) (c := c)
 have hc2 := pickC_at (cd := cd) (n := 2) (c := pickC cd 9 c)
 have hc3 := pickC_at (cd := cd) (n := 3) (c := pickC cd 9 c)
 have hv3 := pickV_in (n := 3) (c := pickC cd 9 c) hcd (by omega)
 have hv3' := hv3.2.1 (by omega)
 have p1 := plC_at (cd := cd) (chans := chans) (send := true) (c := pickC cd 9 c)
 have p2 := plC_at (cd := cd) (chans := chans) (send := false) (c := pickC cd 9 c)
 have p3 := pickC_at (cd := cd) (n := chans) (c := pickC cd 2 (pickC cd 9 c))
 have p4 := selL_at (cd := cd) (chans := chans) (1 + pickV cd 3 (pickC cd 9 c)).toNat [] (pickC cd 3 (pickC cd 9 c))
 unfold acA
 repeat' split
 all_goals simp only
 all_goals omega
def okA3 (a : Act) : Prop := a.cases.length ≤ 3 ∧ ∀ b, b ∈ a.cases → b.cases = []
theorem plA_cases {cd : List Int} {chans : Int} {send : Bool} {c : Cu} : (plA cd chans send c).cases = [] := by
 unfold plA; split <;> rfl
theorem selL_ok {cd : List Int} {chans : Int} : ∀ (k : Nat) (l : List Act) (c : Cu), (∀ b, b ∈ l → b.cases = []) → ∀ b, b ∈ (selL cd chans k l c).1 → b.cases = []
 | 0, l, c, h => h
 | k + 1, l, c, h => by
  rw [selL]
  refine selL_ok k _ _ fun b hb => ?_
  rcases List.mem_append.1 hb with hb | hb
  ·exact h b hb
  ·rw [List.mem_singleton] at hb; subst hb; exact plA_cases
theorem roomL_len {cd : List Int} : ∀ (k : Nat) (l : List Int) (c : Cu), (roomL cd k l c).1.length = l.length + k
 | 0, l, c => rfl
 | k + 1, l, c => by rw [roomL, roomL_len k]; simp; omega
theorem roomR_len {cd : List Int} {c : Cu} (hcd : okCd cd) (h0 : 0 ≤ c.1) : 1 ≤ (roomR cd c).1.length := by
 have hv := pickV_in (n := 2) (c := c) hcd h0
 rw [roomR, roomL_len]
 have : (1 + pickV cd 2 c).toNat ≥ 1 := by omega
 simp; omega
theorem okA3_nil {a : Act} (h : a.cases = []) : okA3 a := by
 unfold okA3; rw [h]; exact ⟨Nat.zero_le _, fun b hb => by cases hb⟩
theorem acA_ok {cd : List Int} {chans : Int} {c : Cu} (hcd : okCd cd) (h0 : 0 ≤ c.1) : okA3 (acA cd chans c).1 := by
 have hc1 := pickC_at (cd := cd) (n := 9) (c := c)
 have hv3 := pickV_in (n := 3) (c := pickC cd 9 c) hcd (by omega)
 have hv3' := hv3.2.1 (by omega)
 have p4 := selL_at (cd := cd) (chans := chans) (1 + pickV cd 3 (pickC cd 9 c)).toNat [] (pickC cd 3 (pickC cd 9 c))
 have p5 := selL_ok (cd := cd) (chans := chans) (1 + pickV cd 3 (pickC cd 9 c)).toNat [] (pickC cd 3 (pickC cd 9 c)) (by simp)
 rw [List.length_nil] at p4
 unfold acA
 repeat' split
 all_goals first | (refine ⟨?_, p5⟩; show (selL cd chans _ _ _).1.length ≤ 3; omega) | exact okA3_nil plA_cases | exact okA3_nil rfl
theorem acts_cells2 (ls : List (List Act)) (z1 z2 : T) : ∀ x, x ∈ ((ls.map T.Acts).set 0 z1).set 0 z2 → (T.cells x).length = 1 ∨ x = z1 ∨ x = z2 := by
 intro x hx
 rcases List.mem_or_eq_of_mem_set hx with hx | rfl
 ·rcases List.mem_or_eq_of_mem_set hx with hx | rfl
  ·obtain ⟨l, _, rfl⟩ := List.mem_map.1 hx
   exact .inl rfl
  ·exact .inr (.inl rfl)
 ·exact .inr (.inr rfl)
theorem setChan_cells {a0 : Act} {lr : List Act} {v : Int} : [T.list 4 (((a0 :: lr).map Act.toT).set 0 (a0.tt.put 1 [T.int v]))] = [T.Acts (setChan v (a0 :: lr))] := by
 show _ = [T.list 4 (Act.toT (.mk a0.kind v a0.n a0.cases) :: lr.map Act.toT)]
 rw [List.map_cons, Act.toT_eq a0, Act.toT_eq (.mk a0.kind v a0.n a0.cases)]; rfl
theorem setKind_cells {a0 : Act} {lr : List Act} {v : Int} : [T.list 4 (((a0 :: lr).map Act.toT).set 0 (a0.tt.put 0 [T.int v]))] = [T.Acts (setKind v (a0 :: lr))] := by
 show _ = [T.list 4 (Act.toT (.mk v a0.chan a0.n a0.cases) :: lr.map Act.toT)]
 rw [List.map_cons, Act.toT_eq a0, Act.toT_eq (.mk v a0.chan a0.n a0.cases)]; rfl
theorem acts_same {ls : List (List Act)} {v : List Act} {z1 z2 z3 z4 : T} (h : T.cells z4 = [T.Acts v]) : ((ls.set 0 v).map T.Acts).flatMap T.cells = (((((ls.map T.Acts).set 0 z1).set 0 z2).set 0 z3).set 0 z4).flatMap T.cells := by
 rw [List.set_set, List.set_set, List.set_set, List.map_set]; exact flat_put h.symm _ _
theorem scene_fun (cd : List Int) (c : Cu) (bw : Nat) (pv : Value) (hcd : okCd cd) (h0 : 0 ≤ c.1) (h1 : c.1 ≤ 1048576) : Proc Try.prog 30 [.t (.v (.pointer (some ⟨bw, 0, none⟩)))] ([pv]) ([T.bytes cd]) [.obox (.pointer (some ⟨bw, 0, none⟩)) (cuC pv c)] (.tup [.own (T.ints (sceneR cd c).1.1), .own (.list 1 ((sceneR cd c).1.2.map T.Acts))]) [.obox (.pointer (some ⟨bw, 0, none⟩)) (cuC pv (sceneR cd c).2)] := by
 have hc2 := pickC_at (cd := cd) (n := 2) (c := c)
 have hv2 := pickV_in (n := 2) (c := c) hcd (by omega)
 have hv2' := hv2.2.1 (by omega)
 refine Proc.intro tys Try.func30 Z Z (N := 82) [100] 99 ([(0, .t (.v (.pointer (some ⟨bw, 0, none⟩))))]) ([(100, .obox (.pointer (some ⟨bw, 0, none⟩)) (cuC pv c)), (99, .ro [pv] [T.bytes cd])]) Z Z Z Z (by decide) (by decide) Z (fun w0 G F0 => ?_)
 refine nY Z (sQ (rG (eK 2 Z (oN (tN (sQ (rG (eZ Z (WO_le (Le.nilOwn (u := 4) 1 Z) (nZ Z (WO_le (Le.adoptE (u := 4) 104 Z Z) (nZ Z (oN (tN (sQ ?_)))))))))))))))
 refine sQ (rG (eZ Z ?_))
 refine WO_callP (rid := 99) [100] Z Z (lt_of Z) Z Z (by repeat (first | exact ResP.done | refine ResP.pin0 1100 Z ?_ | refine ResP.t ?_ | refine ResP.nil 1 ?_ | refine ResP.nil' ?_ | refine ResP.own ?_ | refine ResP.sl Z Z (by first | omega | (simp; omega)) ?_ | refine ResP.aggT (by repeat (first | exact ResP.done | refine ResP.t ?_)) ?_)) Z (by repeat (first | exact trivial | refine ⟨rfl, rfl, ?_⟩)) (by decide) (pick_fun cd 2 c bw pv hcd h0 (by omega)) Z Z Z ?_
 refine nZ Z (evI ?_)
 refine eZ Z (oN (tN (W_block ?_)))
 refine lK (α := Int × List Int × List T × Nat × Cu) [0] [99] (fun x => [(5, .t (.int (x.1))), (4, .sl 104 0 (x.2.2.2.1))]) (fun x => [(100, .obox (.pointer (some ⟨bw, 0, none⟩)) (cuC pv (x.2.2.2.2))), (104, .L 1 (x.2.2.1))]) (fun x => 0 ≤ (x.1) ∧ (x.2.1).length + (x.1) ≤ 2 ∧ (x.2.2.2.1) = (x.2.2.1).length ∧ (x.2.2.1) = (x.2.1).map T.int ∧ roomL cd (x.1).toNat (x.2.1) (x.2.2.2.2) = roomR cd c ∧ c.1 ≤ (x.2.2.2.2).1 ∧ (x.2.2.2.2).1 ≤ c.1 + 10 - 2 * (x.1)) (fun x => Int.toNat ((x.1))) (1 + pickV cd 2 c, [], [], 0, pickC cd 2 c) ?_ (fun x hx => ?_)
 ·dsimp only
  exact ⟨by omega, by simp; omega, rfl, rfl, rfl, by omega, by omega⟩
 obtain ⟨k, rs, ys, n, c'⟩ := x
 obtain ⟨hk0, hk1, hn, hys, hre, hca, hcb⟩ := hx
 dsimp only at hk0 hk1 hn hys hre hca hcb ⊢
 refine nY Z (sQ (sQ (rG (eK 2 Z (oN (tN ?_))))))
 refine W_cond Z (fun h1 => ?_) (fun h1 => ?_)
 ·
  simp only [HS] at h1
  refine W_skip (tN (sQ (W_block ?_)))
  have hk4 := pickC_at (cd := cd) (n := (([0, 0, 1, 2] : List Int).length : Int)) (c := c')
  refine rG (eK 2 Z ?_)
  refine WO_buildSlice tys [T.int 0, T.int 0, T.int 1, T.int 2] Z Z (lt_of Z) Z Z Z Z Z (lt_of Z) (by repeat (first | exact PartsOk.nil' | refine PartsOk.cons' rfl (by repeat (first | exact AbsL.nil' | refine AbsL.v' ?_ | refine AbsL.own' ?_ | refine AbsL.none' ?_)) Z ?_)) (by first | exact List.nodup_nil | exact nodup1 _ | decide | exact nodupB_sound Z) Z (by decide) ?_
  refine nZ Z (WO_le (Le.gather (u := 19) (id := 19) Z Z (by first | (simp; done) | (simp; omega) | omega)) ?_)
  refine nZ Z ?_
  refine WO_callP (rid := 99) [100] Z Z (lt_of Z) Z Z (by repeat (first | exact ResP.done | refine ResP.pin0 1100 Z ?_ | refine ResP.t ?_ | refine ResP.nil 1 ?_ | refine ResP.nil' ?_ | refine ResP.own ?_ | refine ResP.sl Z Z (by first | omega | (simp; omega)) ?_ | refine ResP.aggT (by repeat (first | exact ResP.done | refine ResP.t ?_)) ?_)) Z (by repeat (first | exact trivial | refine ⟨rfl, rfl, ?_⟩)) (by decide) (among_fun cd [0, 0, 1, 2] c' bw pv hcd (by omega) (by omega) (by decide) (by decide)) Z Z Z ?_
  refine nZ Z ?_
  refine WO_buildSlice tys [T.int (at0 0 [0, 0, 1, 2] (pickV cd 4 c'))] Z Z (lt_of Z) Z Z Z Z Z (lt_of Z) (by repeat (first | exact PartsOk.nil' | refine PartsOk.cons' rfl (by repeat (first | exact AbsL.nil' | refine AbsL.v' ?_ | refine AbsL.own' ?_ | refine AbsL.none' ?_)) Z ?_)) (by first | exact List.nodup_nil | exact nodup1 _ | decide | exact nodupB_sound Z) Z (by decide) ?_
  refine nZ Z (WO_append tys Z Z (lt_of Z) Z Z Z Z Z (.own Z (by first | omega | (simp only [List.length_append]; omega))) Z (.own Z (by first | decide | omega)) (by decide) (by simp only [List.length_take, List.length_cons, List.length_nil]; rw [hys, List.length_map]; omega) (by decide) Z ?_)
  refine nZ Z (eZ Z (kZ [0,4,5,13,14,17,18,19,20,21,22] Z (oN (bN (tN (rG (eZ Z (evI ?_))))))))
  refine eZ Z (oN ?_)
  refine lQ (_, rs ++ [at0 0 [0, 0, 1, 2] (pickV cd 4 c')], _, _, _) ?_ ?_
  ·dsimp only
   subst hn
   have hk5 : k.toNat = (k - 1).toNat + 1 := by omega
   rw [hk5, roomL] at hre
   refine ⟨by omega, by simp; omega, by simp, ?_, hre, by omega, by omega⟩
   rw [List.take_length, hys, List.map_append]
   rfl
  ·(show Int.toNat _ < Int.toNat _); omega
 simp only [HS] at h1
 refine W_exit (tE (loopQ_e (inBlk_y (tN (sQ (rG (eZ Z (WO_le (Le.nilOwn (u := 6) 1 Z) (nZ Z (WO_le (Le.adoptE (u := 6) 106 Z Z) (nZ Z (oN (tN (sQ (sQ ?_)))))))))))))))
 have hk6 : k.toNat = 0 := by omega
 rw [hk6, roomL] at hre
 have hrs : 1 ≤ rs.length := by have e := congrArg (fun z => z.1.length) hre; dsimp only at e; rw [e]; exact roomR_len hcd h0
 subst hn hys
 rw [List.length_map]
 refine nY Z ?_
 have hkp := pickC_at (cd := cd) (n := 2) (c := c')
 have hkv := pickV_in (n := 2) (c := c') hcd (by omega)
 have hkv' := hkv.2.1 (by omega)
 refine rG (eZ Z ?_)
 refine WO_callP (rid := 99) [100] Z Z (lt_of Z) Z Z (by repeat (first | exact ResP.done | refine ResP.pin0 1100 Z ?_ | refine ResP.t ?_ | refine ResP.nil 1 ?_ | refine ResP.nil' ?_ | refine ResP.own ?_ | refine ResP.sl Z Z (by first | omega | (simp; omega)) ?_ | refine ResP.aggT (by repeat (first | exact ResP.done | refine ResP.t ?_)) ?_)) Z (by repeat (first | exact trivial | refine ⟨rfl, rfl, ?_⟩)) (by decide) (pick_fun cd 2 c' bw pv hcd (by omega) (by omega)) Z Z Z ?_
 refine nZ Z (evI ?_)
 refine eZ Z (oN (tN (W_block ?_)))
 refine lK (α := Int × List (List Act) × List T × Nat × Cu) [0, 4] [99, 104] (fun x => [(7, .t (.int (x.1))), (6, .sl 106 0 (x.2.2.2.1))]) (fun x => [(100, .obox (.pointer (some ⟨bw, 0, none⟩)) (cuC pv (x.2.2.2.2))), (106, .L 1 (x.2.2.1))]) (fun x => 0 ≤ (x.1) ∧ (x.2.1).length + (x.1) = 2 + pickV cd 2 c' ∧ (x.2.2.2.1) = (x.2.2.1).length ∧ (x.2.2.1) = (x.2.1).map T.Acts ∧ linesL cd rs.length (x.1).toNat (x.2.1) (x.2.2.2.2) = linesR cd (rs, c') ∧ (∀ l, l ∈ (x.2.1) → l.length ≤ 4 ∧ ∀ a, a ∈ l → okA3 a) ∧ c'.1 ≤ (x.2.2.2.2).1 ∧ (x.2.2.2.2).1 ≤ c'.1 + 2 + 130 * (3 - (x.1))) (fun x => Int.toNat ((x.1))) (2 + pickV cd 2 c', [], [], 0, pickC cd 2 c') ?_ (fun x hx => ?_)
 ·dsimp only
  exact ⟨by omega, by simp, rfl, rfl, rfl, by simp, by omega, by omega⟩
 obtain ⟨k2, ls, zs, n2, c2⟩ := x
 obtain ⟨hq0, hq1, hn2, hzs, hle, hok, hcc, hcd2⟩ := hx
 dsimp only at hq0 hq1 hn2 hzs hle hok hcc hcd2 ⊢
 refine nY Z (sQ (sQ (rG (eK 2 Z (oN (tN ?_))))))
 refine W_cond Z (fun h2 => ?_) (fun h2 => ?_)
 ·
  simp only [HS] at h2
  refine W_skip (tN (sQ (W_block (sQ (rG (eZ Z (WO_le (Le.nilOwn (u := 8) 4 Z) (nZ Z (WO_le (Le.adoptE (u := 8) 108 Z Z) (nZ Z (oN (tN (sQ (sQ ?_))))))))))))))
  have hlp := pickC_at (cd := cd) (n := 5) (c := c2)
  have hlv := pickV_in (n := 5) (c := c2) hcd (by omega)
  have hlv' := hlv.2.1 (by omega)
  refine rG (eZ Z ?_)
  refine WO_callP (rid := 99) [100] Z Z (lt_of Z) Z Z (by repeat (first | exact ResP.done | refine ResP.pin0 1100 Z ?_ | refine ResP.t ?_ | refine ResP.nil 1 ?_ | refine ResP.nil' ?_ | refine ResP.own ?_ | refine ResP.sl Z Z (by first | omega | (simp; omega)) ?_ | refine ResP.aggT (by repeat (first | exact ResP.done | refine ResP.t ?_)) ?_)) Z (by repeat (first | exact trivial | refine ⟨rfl, rfl, ?_⟩)) (by decide) (pick_fun cd 5 c2 bw pv hcd (by omega) (by omega)) Z Z Z ?_
  refine nZ Z (eZ Z (oN (tN (W_block ?_))))
  refine lK (α := Int × List Act × List T × Nat × Cu) [0, 4, 6, 7] [99, 104, 106] (fun x => [(9, .t (.int (x.1))), (8, .sl 108 0 (x.2.2.2.1))]) (fun x => [(100, .obox (.pointer (some ⟨bw, 0, none⟩)) (cuC pv (x.2.2.2.2))), (108, .L 4 (x.2.2.1))]) (fun x => 0 ≤ (x.1) ∧ (x.2.1).length + (x.1) ≤ 4 ∧ (x.2.2.2.1) = (x.2.2.1).length ∧ (x.2.2.1) = (x.2.1).map Act.toT ∧ lineL cd rs.length (x.1).toNat (x.2.1) (x.2.2.2.2) = lineL cd rs.length (pickV cd 5 c2).toNat [] (pickC cd 5 c2) ∧ (∀ a, a ∈ (x.2.1) → okA3 a) ∧ c2.1 ≤ (x.2.2.2.2).1 ∧ (x.2.2.2.2).1 ≤ c2.1 + 2 + 30 * (4 - (x.1))) (fun x => Int.toNat ((x.1))) (pickV cd 5 c2, [], [], 0, pickC cd 5 c2) ?_ (fun x hx => ?_)
  ·dsimp only
   exact ⟨by omega, by simp; omega, rfl, rfl, rfl, by simp, by omega, by omega⟩
  obtain ⟨k3, l, ws, n3, c3⟩ := x
  obtain ⟨hp0, hp1, hn3, hws, hle3, hok3, hca3, hcb3⟩ := hx
  dsimp only at hp0 hp1 hn3 hws hle3 hok3 hca3 hcb3 ⊢
  refine nY Z (sQ (sQ (rG (eK 2 Z (oN (tN ?_))))))
  refine W_cond Z (fun h3 => ?_) (fun h3 => ?_)
  ·
   simp only [HS] at h3
   refine W_skip (tN (sQ (W_block ?_)))
   have hac := acA_at (cd := cd) (chans := (rs.length : Int)) (c := c3) hcd (by omega)
   have hao := acA_ok (cd := cd) (chans := (rs.length : Int)) (c := c3) hcd (by omega)
   refine rG (eK 3 Z (evE ?_))
   refine WO_callP (rid := 99) [100] Z Z (lt_of Z) Z Z (by repeat (first | exact ResP.done | refine ResP.pin0 1100 Z ?_ | refine ResP.t ?_ | refine ResP.nil 1 ?_ | refine ResP.nil' ?_ | refine ResP.own ?_ | refine ResP.sl Z Z (by first | omega | (simp; omega)) ?_ | refine ResP.aggT (by repeat (first | exact ResP.done | refine ResP.t ?_)) ?_)) Z (by repeat (first | exact trivial | refine ⟨rfl, rfl, ?_⟩)) (by decide) (act_fun' cd rs.length c3 bw pv hcd (by omega) (by omega)) Z Z Z ?_
   refine nZ Z ?_
   refine WO_buildSlice tys [(acA cd rs.length c3).1.tt] Z Z (lt_of Z) Z Z Z Z Z (lt_of Z) (by repeat (first | exact PartsOk.nil' | refine PartsOk.cons' rfl (by repeat (first | exact AbsL.nil' | refine AbsL.v' ?_ | refine AbsL.own' ?_ | refine AbsL.none' ?_)) Z ?_)) (by first | exact List.nodup_nil | exact nodup1 _ | decide | exact nodupB_sound Z) Z (by decide) ?_
   refine nZ Z (WO_append tys Z Z (lt_of Z) Z Z Z Z Z (.own Z (by first | omega | (simp only [List.length_append]; omega))) Z (.own Z (by first | decide | omega)) (by decide) (by simp only [List.length_take, List.length_cons, List.length_nil]; rw [hws, List.length_map]; omega) (by decide) Z ?_)
   refine nZ Z (kZ [0,4,6,7,8,9,32,33,36,37,38,39,40,41,42] Z (eZ Z (oN (bN (tN (rG (eZ Z (evI ?_))))))))
   refine eZ Z (oN ?_)
   refine lQ (_, l ++ [(acA cd rs.length c3).1], _, _, _) ?_ ?_
   ·dsimp only
    subst hn3
    have hk9 : k3.toNat = (k3 - 1).toNat + 1 := by omega
    rw [hk9, lineL] at hle3
    refine ⟨by omega, by simp; omega, by simp, ?_, hle3, ?_, by omega, by omega⟩
    ·rw [List.take_length, hws, List.map_append, List.map_cons, Act.toT_eq]
     rfl
    ·intro a ha
     rcases List.mem_append.1 ha with h | h
     ·exact hok3 a h
     ·rw [List.mem_singleton] at h; subst h; exact hao
   ·(show Int.toNat _ < Int.toNat _); omega
  simp only [HS] at h3
  refine W_exit (tE (loopQ_e (inBlk_y (tN ?_))))
  have hk7 : k3.toNat = 0 := by omega
  rw [hk7, lineL] at hle3
  have hnw : n3 = l.length := by rw [hn3, hws, List.length_map]
  refine rG (eK 2 Z (WO_le (Le.gather (u := 44) (id := 108) Z Z (by first | (simp; done) | (simp; omega) | omega)) ?_))
  refine nZ Z ?_
  refine WO_buildSlice tys [.list 4 (ws.take n3)] Z Z (lt_of Z) Z Z Z Z Z (lt_of Z) (by repeat (first | exact PartsOk.nil' | refine PartsOk.cons' rfl (by repeat (first | exact AbsL.nil' | refine AbsL.v' ?_ | refine AbsL.own' ?_ | refine AbsL.none' ?_)) Z ?_)) (by first | exact List.nodup_nil | exact nodup1 _ | decide | exact nodupB_sound Z) Z (by decide) ?_
  refine nZ Z (WO_append tys Z Z (lt_of Z) Z Z Z Z Z (.own Z (by first | omega | (simp only [List.length_append]; omega))) Z (.own Z (by first | decide | omega)) (by decide) (by simp only [List.length_take, List.length_cons, List.length_nil]; rw [hzs, List.length_map]; omega) (by decide) Z ?_)
  refine nZ Z (eZ Z (oN (bN (tN (kY [0,4,6,7,8,9,32,33,43,44,45,46] Z (rG (eZ Z (evI ?_))))))))
  refine eZ Z (oN ?_)
  refine lQ (_, ls ++ [l], _, _, _) ?_ ?_
  ·dsimp only
   subst hn2 hn3
   have hk8 : k2.toNat = (k2 - 1).toNat + 1 := by omega
   rw [hk8, linesL, ← hle3] at hle
   refine ⟨by omega, by simp; omega, by simp, ?_, hle, ?_, by omega, by omega⟩
   ·rw [hzs, List.map_append, hws]
    simp only [List.take_length]
    rfl
   ·intro l' hl'
    rcases List.mem_append.1 hl' with h | h
    ·exact hok l' h
    ·rw [List.mem_singleton] at h; subst h; exact ⟨by omega, hok3⟩
  ·(show Int.toNat _ < Int.toNat _); omega
 simp only [HS] at h2
 refine W_exit (tE (loopQ_e (inBlk_y (tN (sQ (sQ ?_))))))
 have hk2 : k2.toNat = 0 := by omega
 rw [hk2, linesL] at hle
 subst hn2 hzs
 rw [List.length_map]
 obtain ⟨l0, hl0⟩ : ∃ l0, l0 = ls[0]'(by omega) := ⟨_, rfl⟩
 have hz0 : (ls.map T.Acts)[0]? = some (T.Acts l0) := by rw [hl0, List.getElem?_map, List.getElem?_eq_getElem (by omega)]; rfl
 have ha0 : at0 [] ls 0 = l0 := by rw [at0_of (by omega) (by omega), hl0]; rfl
 have hset0 : (ls.map T.Acts).set 0 (T.Acts l0) = ls.map T.Acts := set_same hz0
 refine nY Z ?_
 refine W_takeL (id := 106) (i := 0) (off := 0) 107 Z hz0 Z Z Z (fun ad cp => ?_)
 refine nY Z ?_
 have hqp := pickC_at (cd := cd) (n := 40) (c := c2)
 have hsc : sceneR cd c = spoilR cd rs ls c2 := by unfold sceneR; rw [← hre]; dsimp only; rw [← hle]
 have hl04 := (hok l0 (by rw [hl0]; exact List.getElem_mem _)).1
 refine rG (eZ Z (WO_idxS tys Z Z (lt_of Z) Z Z Z Z Z Z Z Z (by omega) (by omega) ?_))
 refine WO_loadL tys Z Z (lt_of Z) Z Z Z Z (List.getElem?_set_self (by rw [List.length_map]; omega)) Z ?_
 refine WO_lenV Z Z (lt_of Z) Z ⟨86, by kernel_rfl⟩ rfl (eZ Z (oN (tN ?_)))
 refine W_cond Z (fun h3 => ?_) (fun h3 => ?_)
 ·
  simp only [HS] at h3
  refine sQ ?_
  have hlt : 0 < l0.length := by simp_all
  refine kY [0,4,6] Z (rG (eZ Z ?_))
  refine WO_callP (rid := 99) [100] Z Z (lt_of Z) Z Z (by repeat (first | exact ResP.done | refine ResP.pin0 1100 Z ?_ | refine ResP.t ?_ | refine ResP.nil 1 ?_ | refine ResP.nil' ?_ | refine ResP.own ?_ | refine ResP.sl Z Z (by first | omega | (simp; omega)) ?_ | refine ResP.aggT (by repeat (first | exact ResP.done | refine ResP.t ?_)) ?_)) Z (by repeat (first | exact trivial | refine ⟨rfl, rfl, ?_⟩)) (by decide) (pick_fun cd 40 c2 bw pv hcd (by omega) (by omega)) Z Z Z ?_
  refine nZ Z (oN (tN (W_block (sQ (rG (eK 2 Z (oN (tN ?_))))))))
  refine W_cond Z (fun h4 => ?_) (fun h4 => ?_)
  ·
   simp only [HS] at h4
   have hl0n : l0 ≠ [] := by intro e; rw [e] at hlt; simp at hlt
   obtain ⟨a0, lr, rfl⟩ : ∃ a0 lr, l0 = a0 :: lr := by cases l0 with | nil => exact absurd rfl hl0n | cons a l => exact ⟨a, l, rfl⟩
   refine nY Z ?_
   refine W_le (Le.putBack (id := 106) (idq := 107) (i := 0) (off := 0) (T.Acts (a0 :: lr)) Z Z (List.getElem?_set_self (by rw [List.length_map]; omega)) Z Z Z) ?_
   refine nY Z ?_
   refine W_openL (id := 106) (i := 0) (off := 0) (z := T.Acts (a0 :: lr)) 109 1109 110 Z (fun x hx => by rcases acts_cells2 _ _ _ x hx with h | rfl | rfl <;> first | exact h | rfl) (List.getElem?_set_self (by rw [List.length_set, List.length_map]; omega)) Z (by simp) Z Z Z Z Z Z (fun b cap hcap => ?_)
   refine nY Z (W_regionHm 6 [[100], [100], [100], [], [], []] mixed Z (by kernel_rfl) (by kernel_rfl) (QH_G (QG_ev tys Z Z (lt_of Z) Z (QG_nil (QH_G (QG_idxS tys Z Z (lt_of Z) Z Z Z Z Z Z Z Z (by omega) (by omega) (QG_nil (QH_G ?_))))))))
   refine QG_loadLS tys 1109 Z Z (lt_of Z) Z Z Z Z (List.getElem?_set_self (by rw [List.length_set, List.length_set, List.length_map]; omega)) Z Z hcap ?_
   refine QG_nil (QH_G0 (QG_ev tys Z Z (lt_of Z) Z (QG_nil (QH_norm Z (QH_G0 ?_)))))
   refine QG_buildS tys [T.int (-1), T.int 3] Z Z (lt_of Z) Z Z Z Z Z (lt_of Z) (by repeat (first | exact PartsOk.nil' | refine PartsOk.cons' rfl (by repeat (first | exact AbsL.nil' | refine AbsL.v' ?_ | refine AbsL.own' ?_ | refine AbsL.none' ?_)) Z ?_)) Z Z Z (by decide) ?_
   refine QG_nil ?_
   refine QH_callP (rid := 99) [100] Z Z (lt_of Z) Z Z (by repeat (first | exact ResP.done | refine ResP.pin0 1100 Z ?_ | refine ResP.t ?_ | refine ResP.nil 1 ?_ | refine ResP.nil' ?_ | refine ResP.own ?_ | refine ResP.sl Z Z (by first | omega | (simp; omega)) ?_ | refine ResP.aggT (by repeat (first | exact ResP.done | refine ResP.t ?_)) ?_)) Z (by repeat (first | exact trivial | refine ⟨rfl, rfl, ?_⟩)) (by decide) (among_fun cd [-1, 3] (pickC cd 40 c2) bw pv hcd (by omega) (by omega) (by decide) (by decide)) Z Z Z ?_
   refine QH_nil ?_
   refine ⟨by kernel_rfl, ?_⟩
   refine nZ Z (WO_idxS tys Z Z (lt_of Z) Z Z Z Z Z Z Z Z (by omega) (by simp) ?_)
   refine eZ Z (WO_storeL tys [T.int (at0 0 [-1, 3] (pickV cd 2 (pickC cd 40 c2)))] Z Z Z Z Z Z (z := a0.tt) (by rw [List.map_cons, Act.toT_eq]; rfl) Z (AbsL.v' AbsL.nil') Z (by decide) (Nat.le_of_ble_eq_true Z) ?_)
   refine nZ Z (oN (bN (tN (sQ (rG (eK 4 Z (oN (tN ?_))))))))
   (refine W_le (Le.claimL (id := 106) (id2 := 109) (pid := 1109) (i := 0) (off := 0) rfl rfl rfl (List.getElem?_set_self (by rw [List.length_set, List.length_set, List.length_map]; omega)) rfl (by rw [List.length_set]) rfl) ?_; refine W_norm rfl ?_; refine W_le (Le.sameL (id := 106) (ys := (ls.set 0 (setChan (at0 0 [-1, 3] (pickV cd 2 (pickC cd 40 c2))) (a0 :: lr))).map T.Acts) rfl (acts_same setChan_cells) (by simp) (fun x hx => by obtain ⟨y, _, rfl⟩ := List.mem_map.1 hx; rfl)) ?_; refine W_norm rfl ?_)
   refine W_le (Le.gather (u := 2) (id := 104) Z Z (by first | (simp; done) | (simp; omega))) ?_
   refine nY Z (W_le (Le.gather (u := 3) (id := 106) Z Z (by first | (simp; done) | (simp; omega))) ?_)
   refine nY Z (rT ?_)
   refine EndsP_of (ks := [_]) (.inr Z) (ret_okF Z) (by decide) Z (noR_spec Z) (by repeat (first | exact trivial | refine ⟨rfl, rfl, ?_⟩)) ?_ ?_
   ·rw [hsc]
    unfold spoilR
    rw [ha0]
    repeat' split
    all_goals first | rfl | (simp [List.take_of_length_le, List.set_set, hset0, T.ints, List.map_set]; done) | (simp [List.take_of_length_le, List.set_set, hset0, T.ints, List.map_set]; rfl) | (simp [List.take_of_length_le, List.set_set, hset0]; done) | (simp [List.take_of_length_le, List.set_set, hset0, List.map_set]; done) | (exfalso; omega) | (exfalso; simp_all; done) | (exfalso; simp_all; omega)
   ·rw [hsc]
    unfold spoilR
    rw [ha0]
    repeat' split
    all_goals first | rfl | (simp [List.take_of_length_le, List.set_set, hset0, T.ints, List.map_set]; done) | (simp [List.take_of_length_le, List.set_set, hset0, T.ints, List.map_set]; rfl) | (simp [List.take_of_length_le, List.set_set, hset0]; done) | (simp [List.take_of_length_le, List.set_set, hset0, List.map_set]; done) | (exfalso; omega) | (exfalso; simp_all; done) | (exfalso; simp_all; omega)
  simp only [HS] at h4
  refine sQ (rG (eK 2 Z (oN (tN ?_))))
  refine W_cond Z (fun h5 => ?_) (fun h5 => ?_)
  ·
   simp only [HS] at h5
   have hl0n : l0 ≠ [] := by intro e; rw [e] at hlt; simp at hlt
   obtain ⟨a0, lr, rfl⟩ : ∃ a0 lr, l0 = a0 :: lr := by cases l0 with | nil => exact absurd rfl hl0n | cons a l => exact ⟨a, l, rfl⟩
   refine nY Z ?_
   refine W_le (Le.putBack (id := 106) (idq := 107) (i := 0) (off := 0) (T.Acts (a0 :: lr)) Z Z (List.getElem?_set_self (by rw [List.length_map]; omega)) Z Z Z) ?_
   refine nY Z ?_
   refine W_openL (id := 106) (i := 0) (off := 0) (z := T.Acts (a0 :: lr)) 109 1109 110 Z (fun x hx => by rcases acts_cells2 _ _ _ x hx with h | rfl | rfl <;> first | exact h | rfl) (List.getElem?_set_self (by rw [List.length_set, List.length_map]; omega)) Z (by simp) Z Z Z Z Z Z (fun b cap hcap => ?_)
   refine nY Z (W_regionHm 5 [[100], [100], [100], [], []] mixed Z (by kernel_rfl) (by kernel_rfl) (QH_G (QG_ev tys Z Z (lt_of Z) Z (QG_nil (QH_G (QG_idxS tys Z Z (lt_of Z) Z Z Z Z Z Z Z Z (by omega) (by omega) (QG_nil (QH_G ?_))))))))
   refine QG_loadLS tys 1109 Z Z (lt_of Z) Z Z Z Z (List.getElem?_set_self (by rw [List.length_set, List.length_set, List.length_map]; omega)) Z Z hcap ?_
   refine QG_nil (QH_G0 (QG_ev tys Z Z (lt_of Z) Z (QG_nil (QH_norm Z ?_))))
   refine QH_callP (rid := 99) [100] Z Z (lt_of Z) Z Z (by repeat (first | exact ResP.done | refine ResP.pin0 1100 Z ?_ | refine ResP.t ?_ | refine ResP.nil 1 ?_ | refine ResP.nil' ?_ | refine ResP.own ?_ | refine ResP.sl Z Z (by first | omega | (simp; omega)) ?_ | refine ResP.aggT (by repeat (first | exact ResP.done | refine ResP.t ?_)) ?_)) Z (by repeat (first | exact trivial | refine ⟨rfl, rfl, ?_⟩)) (by decide) (pick_fun cd 7 (pickC cd 40 c2) bw pv hcd (by omega) (by omega)) Z Z Z ?_
   refine QH_nil ?_
   refine ⟨by kernel_rfl, ?_⟩
   refine nZ Z (WO_idxS tys Z Z (lt_of Z) Z Z Z Z Z Z Z Z (by omega) (by simp) ?_)
   refine eZ Z (WO_storeL tys [T.int (pickV cd 7 (pickC cd 40 c2))] Z Z Z Z Z Z (z := a0.tt) (by rw [List.map_cons, Act.toT_eq]; rfl) Z (AbsL.v' AbsL.nil') Z (by decide) (Nat.le_of_ble_eq_true Z) ?_)
   refine nZ Z (oN (bN (tN (sQ (rG (eK 4 Z (oN (tN ?_))))))))
   (refine W_le (Le.claimL (id := 106) (id2 := 109) (pid := 1109) (i := 0) (off := 0) rfl rfl rfl (List.getElem?_set_self (by rw [List.length_set, List.length_set, List.length_map]; omega)) rfl (by rw [List.length_set]) rfl) ?_; refine W_norm rfl ?_; refine W_le (Le.sameL (id := 106) (ys := (ls.set 0 (setKind (pickV cd 7 (pickC cd 40 c2)) (a0 :: lr))).map T.Acts) rfl (acts_same setKind_cells) (by simp) (fun x hx => by obtain ⟨y, _, rfl⟩ := List.mem_map.1 hx; rfl)) ?_; refine W_norm rfl ?_)
   refine W_le (Le.gather (u := 2) (id := 104) Z Z (by first | (simp; done) | (simp; omega))) ?_
   refine nY Z (W_le (Le.gather (u := 3) (id := 106) Z Z (by first | (simp; done) | (simp; omega))) ?_)
   refine nY Z (rT ?_)
   refine EndsP_of (ks := [_]) (.inr Z) (ret_okF Z) (by decide) Z (noR_spec Z) (by repeat (first | exact trivial | refine ⟨rfl, rfl, ?_⟩)) ?_ ?_
   ·rw [hsc]
    unfold spoilR
    rw [ha0]
    repeat' split
    all_goals first | rfl | (simp [List.take_of_length_le, List.set_set, hset0, T.ints, List.map_set]; done) | (simp [List.take_of_length_le, List.set_set, hset0, T.ints, List.map_set]; rfl) | (simp [List.take_of_length_le, List.set_set, hset0]; done) | (simp [List.take_of_length_le, List.set_set, hset0, List.map_set]; done) | (exfalso; omega) | (exfalso; simp_all; done) | (exfalso; simp_all; omega)
   ·rw [hsc]
    unfold spoilR
    rw [ha0]
    repeat' split
    all_goals first | rfl | (simp [List.take_of_length_le, List.set_set, hset0, T.ints, List.map_set]; done) | (simp [List.take_of_length_le, List.set_set, hset0, T.ints, List.map_set]; rfl) | (simp [List.take_of_length_le, List.set_set, hset0]; done) | (simp [List.take_of_length_le, List.set_set, hset0, List.map_set]; done) | (exfalso; omega) | (exfalso; simp_all; done) | (exfalso; simp_all; omega)
  simp only [HS] at h5
  refine sQ (rG (eK 2 Z (oN (tN ?_))))
  refine W_cond Z (fun h6 => ?_) (fun h6 => ?_)
  ·
   simp only [HS] at h6
   have hrs1 : 1 ≤ rs.length := hrs
   refine kY [0,4,6] Z (rG (eK 2 Z ?_))
   refine WO_buildSlice tys [T.int (-1), T.int 3, T.int 4] Z Z (lt_of Z) Z Z Z Z Z (lt_of Z) (by repeat (first | exact PartsOk.nil' | refine PartsOk.cons' rfl (by repeat (first | exact AbsL.nil' | refine AbsL.v' ?_ | refine AbsL.own' ?_ | refine AbsL.none' ?_)) Z ?_)) (by first | exact List.nodup_nil | exact nodup1 _ | decide | exact nodupB_sound Z) Z (by decide) ?_
   refine nZ Z (WO_le (Le.gather (u := 77) (id := 77) Z Z (by first | (simp; done) | (simp; omega) | omega)) ?_)
   refine nZ Z ?_
   refine WO_callP (rid := 99) [100] Z Z (lt_of Z) Z Z (by repeat (first | exact ResP.done | refine ResP.pin0 1100 Z ?_ | refine ResP.t ?_ | refine ResP.nil 1 ?_ | refine ResP.nil' ?_ | refine ResP.own ?_ | refine ResP.sl Z Z (by first | omega | (simp; omega)) ?_ | refine ResP.aggT (by repeat (first | exact ResP.done | refine ResP.t ?_)) ?_)) Z (by repeat (first | exact trivial | refine ⟨rfl, rfl, ?_⟩)) (by decide) (among_fun cd [-1, 3, 4] (pickC cd 40 c2) bw pv hcd (by omega) (by omega) (by decide) (by decide)) Z Z Z ?_
   refine nZ Z (WO_idxS tys Z Z (lt_of Z) Z Z Z Z Z Z Z Z (by omega) (by omega) (WO_storeE tys (T.int (at0 0 [-1, 3, 4] (pickV cd 3 (pickC cd 40 c2)))) Z Z Z Z Z Z (Nat.zero_add _) (by rw [List.length_map]; exact hrs1) Z (AbsL.v' AbsL.nil') Z Z Z ?_))
   refine nZ Z (oN (bN (tN (sQ (rG (eK 3 Z (kZ [2,81] Z (eZ Z (oN (tN ?_))))))))))
   (refine W_le (Le.putBack (id := 106) (idq := 107) (i := 0) (off := 0) (T.Acts l0) rfl rfl (List.getElem?_set_self (by rw [List.length_map]; omega)) rfl rfl rfl) ?_; refine W_norm rfl ?_)
   refine W_le (Le.gather (u := 2) (id := 104) Z Z (by first | (simp; done) | (simp; omega))) ?_
   refine nY Z (W_le (Le.gather (u := 3) (id := 106) Z Z (by first | (simp; done) | (simp; omega))) ?_)
   refine nY Z (rT ?_)
   refine EndsP_of (ks := [_]) (.inr Z) (ret_okF Z) (by decide) Z (noR_spec Z) (by repeat (first | exact trivial | refine ⟨rfl, rfl, ?_⟩)) ?_ ?_
   ·rw [hsc]
    unfold spoilR
    rw [ha0]
    repeat' split
    all_goals first | rfl | (simp [List.take_of_length_le, List.set_set, hset0, T.ints, List.map_set]; done) | (simp [List.take_of_length_le, List.set_set, hset0, T.ints, List.map_set]; rfl) | (simp [List.take_of_length_le, List.set_set, hset0]; done) | (simp [List.take_of_length_le, List.set_set, hset0, List.map_set]; done) | (exfalso; omega) | (exfalso; simp_all; done) | (exfalso; simp_all; omega)
   ·rw [hsc]
    unfold spoilR
    rw [ha0]
    repeat' split
    all_goals first | rfl | (simp [List.take_of_length_le, List.set_set, hset0, T.ints, List.map_set]; done) | (simp [List.take_of_length_le, List.set_set, hset0, T.ints, List.map_set]; rfl) | (simp [List.take_of_length_le, List.set_set, hset0]; done) | (simp [List.take_of_length_le, List.set_set, hset0, List.map_set]; done) | (exfalso; omega) | (exfalso; simp_all; done) | (exfalso; simp_all; omega)
  simp only [HS] at h6
  refine W_skip (bN (tN (sQ (kY [4,6] Z (rG (eK 4 Z (oN (tN ?_))))))))
  (refine W_le (Le.putBack (id := 106) (idq := 107) (i := 0) (off := 0) (T.Acts l0) rfl rfl (List.getElem?_set_self (by rw [List.length_map]; omega)) rfl rfl rfl) ?_; refine W_norm rfl ?_)
  refine W_le (Le.gather (u := 2) (id := 104) Z Z (by first | (simp; done) | (simp; omega))) ?_
  refine nY Z (W_le (Le.gather (u := 3) (id := 106) Z Z (by first | (simp; done) | (simp; omega))) ?_)
  refine nY Z (rT ?_)
  refine EndsP_of (ks := [_]) (.inr Z) (ret_okF Z) (by decide) Z (noR_spec Z) (by repeat (first | exact trivial | refine ⟨rfl, rfl, ?_⟩)) ?_ ?_
  ·rw [hsc]
   unfold spoilR
   rw [ha0]
   repeat' split
   all_goals first | rfl | (simp [List.take_of_length_le, List.set_set, hset0, T.ints, List.map_set]; done) | (simp [List.take_of_length_le, List.set_set, hset0, T.ints, List.map_set]; rfl) | (simp [List.take_of_length_le, List.set_set, hset0]; done) | (simp [List.take_of_length_le, List.set_set, hset0, List.map_set]; done) | (exfalso; omega) | (exfalso; simp_all; done) | (exfalso; simp_all; omega)
  ·rw [hsc]
   unfold spoilR
   rw [ha0]
   repeat' split
   all_goals first | rfl | (simp [List.take_of_length_le, List.set_set, hset0, T.ints, List.map_set]; done) | (simp [List.take_of_length_le, List.set_set, hset0, T.ints, List.map_set]; rfl) | (simp [List.take_of_length_le, List.set_set, hset0]; done) | (simp [List.take_of_length_le, List.set_set, hset0, List.map_set]; done) | (exfalso; omega) | (exfalso; simp_all; done) | (exfalso; simp_all; omega)
 simp only [HS] at h3
 refine W_skip (tN (sQ (kY [4,6] Z (rG (eK 4 Z (oN (tN ?_)))))))
 (refine W_le (Le.putBack (id := 106) (idq := 107) (i := 0) (off := 0) (T.Acts l0) rfl rfl (List.getElem?_set_self (by rw [List.length_map]; omega)) rfl rfl rfl) ?_; refine W_norm rfl ?_)
 refine W_le (Le.gather (u := 2) (id := 104) Z Z (by first | (simp; done) | (simp; omega))) ?_
 refine nY Z (W_le (Le.gather (u := 3) (id := 106) Z Z (by first | (simp; done) | (simp; omega))) ?_)
 refine nY Z (rT ?_)
 refine EndsP_of (ks := [_]) (.inr Z) (ret_okF Z) (by decide) Z (noR_spec Z) (by repeat (first | exact trivial | refine ⟨rfl, rfl, ?_⟩)) ?_ ?_
 ·rw [hsc]
  unfold spoilR
  rw [ha0]
  repeat' split
  all_goals first | rfl | (simp [List.take_of_length_le, List.set_set, hset0, T.ints, List.map_set]; done) | (simp [List.take_of_length_le, List.set_set, hset0, T.ints, List.map_set]; rfl) | (simp [List.take_of_length_le, List.set_set, hset0]; done) | (simp [List.take_of_length_le, List.set_set, hset0, List.map_set]; done) | (exfalso; omega) | (exfalso; simp_all; done) | (exfalso; simp_all; omega)
 ·rw [hsc]
  unfold spoilR
  rw [ha0]
  repeat' split
  all_goals first | rfl | (simp [List.take_of_length_le, List.set_set, hset0, T.ints, List.map_set]; done) | (simp [List.take_of_length_le, List.set_set, hset0, T.ints, List.map_set]; rfl) | (simp [List.take_of_length_le, List.set_set, hset0]; done) | (simp [List.take_of_length_le, List.set_set, hset0, List.map_set]; done) | (exfalso; omega) | (exfalso; simp_all; done) | (exfalso; simp_all; omega)
end Go.Proofs.Ytpgodgmgfhbngaa
