/- Walks and laws of the claim. -/
import Derived.Test.YtpgodgmgfhbngaaNc
import Derived.Test.YtpgodgmgfhbngaaMe
set_option linter.unusedVariables false
set_option linter.unusedSimpArgs false
set_option maxRecDepth 10000
set_option maxHeartbeats 4000000
namespace Go.Proofs.Ytpgodgmgfhbngaa
open Go.Eng
open Go.Eng
section
variable {hdr : List (Option Addr × Nat)} {xs : List T} {W1 : World} {I : Int} {i : Nat} {h : Option Addr × Nat} {x : T} {t1 t2 : Task}
theorem zipX (hc : (hdr.zip (xs.zip W1.tasks))[i]? = some (h, x, t1)) : (hdr.zip (xs.zip W1.tasks)).set i (h, x, t2) = hdr.zip (xs.zip (W1.tasks.set i t2)) := by
 rw [zip_set hc]
 have h2 : (xs.zip W1.tasks)[i]? = some (x, t1) := by
  have := (List.getElem?_zip_eq_some.1 hc).2
  exact this
 rw [zip_set h2]
theorem xadv_fin (hie : i = I.toNat) (hc : (hdr.zip (xs.zip W1.tasks))[i]? = some (h, x, t1)) (ht : tk W1 I = t1) : (hdr.zip (xs.zip W1.tasks)).set i (h, x, advT t1) = hdr.zip (xs.zip (advW W1 I).tasks) := by
 rw [zipX hc, hie, ← ht]; rfl
theorem xset_fin (hie : i = I.toNat) (hc : (hdr.zip (xs.zip W1.tasks))[i]? = some (h, x, t1)) : (hdr.zip (xs.zip W1.tasks)).set i (h, x, t2) = hdr.zip (xs.zip (setT W1 I t2).tasks) := by
 rw [zipX hc, hie]; rfl
theorem xtk0_fin (hie : i = I.toNat) (h0 : 0 ≤ I) (h1 : I < W1.tasks.length) (hc : (hdr.zip (xs.zip W1.tasks))[i]? = some (h, x, t1)) : ((hdr.zip (xs.zip W1.tasks)).set i (h, x, t2)).set i (h, x, advT t2) = hdr.zip (xs.zip (advW (setT W1 I t2) I).tasks) := by
 rw [List.set_set, zipX hc]
 have e1 : tk (setT W1 I t2) I = t2 := (tk_set h0 h1 h0).trans (if_pos rfl)
 show _ = hdr.zip (xs.zip ((W1.tasks.set I.toNat _).set I.toNat (advT (tk _ _))))
 rw [e1, List.set_set, hie]
theorem xtk2_fin {J n : Int} {j : Nat} {hj : Option Addr × Nat} {y : T} {u : Task} (hie : i = I.toNat) (hje : j = J.toNat) (h0 : 0 ≤ I) (h1 : I < W1.tasks.length) (j0 : 0 ≤ J) (j1 : J < W1.tasks.length) (hIJ : ¬ I = J) (hcj : (hdr.zip (xs.zip W1.tasks))[j]? = some (hj, y, u)) (hc : (hdr.zip (xs.zip W1.tasks))[i]? = some (h, x, t1)) (htI : tk W1 I = t1) :
  (((hdr.zip (xs.zip W1.tasks)).set j (hj, y, { u with last := n })).set j (hj, y, advT { u with last := n })).set i (h, x, advT t1) = hdr.zip (xs.zip (advW (advW (setT W1 J { u with last := n }) J) I).tasks) := by
 have hij : ¬ j = i := by omega
 have l1 : ∀ (w : World) (i : Int) (t : Task), (setT w i t).tasks.length = w.tasks.length := fun w i t => List.length_set
 have e1 : tk (setT W1 J { u with last := n }) J = { u with last := n } := (tk_set j0 j1 j0).trans (if_pos rfl)
 have e2 : tk (advW (setT W1 J { u with last := n }) J) I = t1 := by
  rw [advW, tk_set j0 (by rw [l1]; exact j1) h0, if_neg hIJ, tk_set j0 j1 h0, if_neg hIJ]; exact htI
 have hc' : (hdr.zip (xs.zip (W1.tasks.set j (advT { u with last := n }))))[i]? = some (h, x, t1) := by
  rw [← zipX hcj, List.getElem?_set_ne hij]; exact hc
 rw [List.set_set, zipX hcj, zipX (W1 := { W1 with tasks := W1.tasks.set j (advT { u with last := n }) }) hc']
 show _ = hdr.zip (xs.zip ((((W1.tasks.set J.toNat _).set J.toNat (advT (tk (setT W1 J { u with last := n }) J)))).set I.toNat (advT (tk (advW (setT W1 J { u with last := n }) J) I))))
 rw [e1, e2, List.set_set, hie, hje]
end
abbrev rdW (w : World) (xs : List T) : D := .agg [.t (T.ints w.room), .t (intss w.held), .t (T.bools w.shut), .t (.list 4 ((xs.zip w.tasks).map ttT)), .t (T.ints w.trace)]
theorem do_fin {w : World} {xs : List T} {R H S Tr : List T} {b c : Bool} (h1 : R = w.room.map T.int) (h2 : H = w.held.map T.ints) (h3 : S = w.shut.map T.bool) (h4 : Tr = w.trace.map T.int) (h5 : b = c) :
  [D.agg [.t (.list 1 R), .t (.list 1 H), .t (.list 1 S), .t (.list 4 ((xs.zip w.tasks).map ttT)), .t (.list 1 Tr)], D.t (T.v (.bool b))] = [rdW w xs, D.t (T.bool c)] := by
 rw [h1, h2, h3, h4, h5]; rfl
theorem xcs_rb {b sz : Nat} {C : List TX} {hdr : List (Option Addr × Nat)} {l : List (T × Task)} (hl : hdr.length = l.length) (h : C = hdr.zip l) : Blk.raw b sz (xcsW C) (xcsT C) = rb false b sz (xcsW (hdr.zip l)) ((l.map ttT).flatMap T.cells) := by
 rw [h, xcsT_zip hl]; rfl
theorem doW_eq (w : World) (mv : List Int) : doW w mv = if (actOf w mv).kind = 3 then advW { w with trace := w.trace ++ [(tk w (at0 0 mv 0)).last] } (at0 0 mv 0)
 else if ((actOf w mv).kind = 5 ∨ (actOf w mv).kind = 1) ∧ at0 false w.shut (actOf w mv).chan = true then setT w (at0 0 mv 0) { tk w (at0 0 mv 0) with state := 2 }
 else if (actOf w mv).kind = 5 then advW { w with shut := w.shut.set (actOf w mv).chan.toNat true } (at0 0 mv 0)
 else if (actOf w mv).kind = 1 ∧ 0 ≤ at0 0 mv 2 then advW (advW (setT w (at0 0 mv 2) { tk w (at0 0 mv 2) with last := (actOf w mv).n }) (at0 0 mv 2)) (at0 0 mv 0)
 else if (actOf w mv).kind = 1 then advW { w with held := w.held.set (actOf w mv).chan.toNat (at0 [] w.held (actOf w mv).chan ++ [(actOf w mv).n]) } (at0 0 mv 0)
 else if 0 < (at0 [] w.held (actOf w mv).chan).length then
  advW { setT w (at0 0 mv 0) { tk w (at0 0 mv 0) with last := at0 0 (at0 [] w.held (actOf w mv).chan) 0 } with held := w.held.set (actOf w mv).chan.toNat ((at0 [] w.held (actOf w mv).chan).drop 1) } (at0 0 mv 0)
 else advW (setT w (at0 0 mv 0) { tk w (at0 0 mv 0) with last := 0 }) (at0 0 mv 0) := rfl
theorem tacts_zip {xs : List T} {l : List Task} (h : All2 TActs xs (l.map Task.acts)) {p : T × Task} (hp : p ∈ xs.zip l) : TActs p.1 p.2.acts := by
 obtain ⟨i, hi, rfl⟩ := List.getElem_of_mem hp
 rw [List.length_zip] at hi
 have h1 := h.at (i := i) (by omega) (by rw [List.length_map]; omega)
 rw [List.getElem_map] at h1
 rw [List.getElem_zip]
 exact h1
theorem l15Do_fun (w : World) (xs : List T) (mv : List Int) (hg : goodWorld w = true) (hm : MvOk w mv) (hw : w.ok 1048576) (hx : All2 TActs xs (w.tasks.map Task.acts)) : Fun Try.prog 40 [.t (ttW w xs), .t (T.ints mv)] (tupD [rdW (doW w mv) xs, .t (.bool (doOk w mv))]) := by
  have hgo := good_of hg
  have hgw := gw_iff.1 hg
  have hi0 := hm.i0
  have hi1 := hm.i1
  have hml := hm.len
  have hmi : mv[(0 : Int).toNat]'(by rw [hml]; decide) = at0 0 mv 0 := (at0_of (l := mv) (by omega) (by omega)).symm
  have hmk : mv[(1 : Int).toNat]'(by rw [hml]; decide) = at0 0 mv 1 := (at0_of (l := mv) (by omega) (by omega)).symm
  have hmj : mv[(2 : Int).toNat]'(by rw [hml]; decide) = at0 0 mv 2 := (at0_of (l := mv) (by omega) (by omega)).symm
  have hk0 := hm.k0
  have hxl : xs.length = w.tasks.length := by have := hx.len; rw [List.length_map] at this; exact this
  have hzz : (xs.zip w.tasks).length = w.tasks.length := by rw [List.length_zip]; omega
  obtain ⟨i, hie⟩ : ∃ i, i = (at0 0 mv 0).toNat := ⟨_, rfl⟩
  have hit : i < w.tasks.length := by omega
  obtain ⟨t, ht⟩ : ∃ t, t = w.tasks[i]'hit := ⟨_, rfl⟩
  have htI : tk w (at0 0 mv 0) = t := by rw [tk, at0_of hi0 hi1, ht]; simp only [hie]
  have htm : t ∈ w.tasks := by rw [ht]; exact List.getElem_mem _
  have hk1 : at0 0 mv 1 < (ways t).length := by have := hm.k1; rw [htI] at this; exact this
  obtain ⟨A, hA⟩ : ∃ A, A = (ways t)[(at0 0 mv 1).toNat]'(by omega) := ⟨_, rfl⟩
  have hAo : actOf w mv = A := by rw [actOf, htI, at0_of hk0 hk1, hA]
  have hAw : A ∈ ways t := by rw [hA]; exact List.getElem_mem _
  obtain ⟨hAk, ⟨hAc0, hAc1⟩, hAn, hts, htp⟩ := goodAct_ways hg htm hAw
  have hpp := hgo.pos _ htm
  have htr := hgw.trace
  have hheld := hgw.held
  have hshut := hgw.shut
  have hrm := hgw.room
  have htl := hgw.tasks
  have hta : t.acts.length ≤ 6 := hpp.2.2
  have hwl := (hgo.ways t htm).1
  have hsc : at0 false w.shut A.chan = w.shut[A.chan.toNat]'(by omega) := at0_of hAc0 (by omega)
  have hhc : at0 [] w.held A.chan = w.held[A.chan.toNat]'(by omega) := at0_of hAc0 (by omega)
  obtain ⟨hl, hle⟩ : ∃ hl, hl = w.held[A.chan.toNat]'(by omega) := ⟨_, rfl⟩
  have hz : (w.held.map T.ints)[A.chan.toNat]? = some (T.ints hl) := by rw [hle, List.getElem?_map, List.getElem?_eq_getElem (by omega)]; rfl
  have hlx : hl.length ≤ 3 := by
   have e1 := gw_hold hgw hAc0 hAc1
   rw [hhc, ← hle] at e1
   have e2 := hgw.rooms
   rw [allIn, List.all_eq_true] at e2
   have e3 := e2 _ (List.getElem_mem (l := w.room) (n := A.chan.toNat) (by omega))
   rw [at0_of hAc0 hAc1] at e1
   simp only [decide_eq_true_eq] at e3
   omega
  have hset : (w.held.map T.ints).set A.chan.toNat (T.ints hl) = w.held.map T.ints := set_same hz
  have hdW := doW_eq w mv
  rw [hAo, hsc, hhc, ← hle, htI] at hdW
  refine Fun.begin tys Try.func40 Z Z (N := 143) [(0, .t (ttW w xs)), (1, .t (T.ints mv))] Z Z (fun w0 G F0 => ?_)
  refine sQ (rG (WO_box Z Z (lt_of Z) Z Z (nZ Z (WO_alloc tys Z Z (lt_of Z) Z Z Z (nZ Z (eZ Z (oN (tN (sQ (rG (eZ Z ?_)))))))))))
  try refine WO_le (Le.freeze (u := 11) rfl) ?_
  refine nZ Z (callB ?_)
  refine ⟨_, ownW_fun w xs hw hx, rfl, ?_⟩
  refine WO_alloc tys Z Z (lt_of Z) Z Z Z (nZ Z (sT Z (nZ Z (oN (tN (sQ (W_le (Le.adoptBox (u := 6) (j := 1) (id := 104) Z Z Z) (nY Z (W_le (Le.adoptBox (u := 6) (j := 2) (id := 105) Z Z Z) (nY Z (W_le (Le.adoptBox (u := 6) (j := 4) (id := 106) Z Z Z) (nY Z (W_WO ?_)))))))))))))
  refine WO_exposeBox (u := 6) (idp := 133) (j := 3) Z Z Z (fun v => ?_)
  refine nZ Z ?_
  refine WO_explode (id := 133) (j := 0) (id2 := 101) (n := 4) (u := v) (xs := (xs.zip w.tasks).map ttT) Z Z Z Z Z (fun e ad bt cap ws hu hb he hlc hcm hn => ?_)
  obtain rfl : e = false := by
   cases e with
   | false => rfl
   | true =>
    have := congrArg List.length (he rfl)
    rw [List.length_map, hzz, List.length_nil] at this
    omega
  obtain rfl : ad = some ⟨bt, 0, none⟩ := hb rfl
  subst hu
  refine nZ Z ?_
  refine WO_ofRaw (id := 101) Z (fun _ _ => own_xcs (fun p hp => tacts_zip hx hp)) (fun htc => ?_)
  obtain ⟨hdr, hh, rfl⟩ := htc
  rw [hzz] at hh
  refine WO_le (Le.eqK (id := 101) (k' := .raw bt (cap * 4) (xcsW (hdr.zip (xs.zip w.tasks))) (xcsT (hdr.zip (xs.zip w.tasks)))) Z (by rw [← xcsT_zip (hh.trans hzz.symm)])) ?_
  refine nZ Z ?_
  have hlc' : w.tasks.length ≤ cap := by rw [List.length_map, hzz] at hlc; exact hlc
  rw [List.length_map, hzz]
  refine oN ?_
  obtain ⟨h, hh1⟩ : ∃ h, h = hdr[i]'(by omega) := ⟨_, rfl⟩
  obtain ⟨x, hx1⟩ : ∃ x, x = xs[i]'(by omega) := ⟨_, rfl⟩
  have hxa : TActs x t.acts := by
   have := hx.at (i := i) (by omega) (by rw [List.length_map]; omega)
   rw [List.getElem_map, ← ht, ← hx1] at this
   exact this
  have hc : (hdr.zip (xs.zip w.tasks))[i]? = some (h, x, t) := by rw [hh1, hx1, ht, zip_some (by omega) (by omega)]; simp
  refine kY [1,4,5,6] Z (W_regionD mixed (by kernel_rfl) (evQ ?_))
  refine evQ ?_
  refine evQ ?_
  refine QL_idxT tys Z Z (lt_of Z) Z Z Z Z Z Z Z (by omega) _ (getT _ _ (by omega) (by omega)) (evQ ?_)
  rw [hmi]
  refine QL_idxV tys Z Z (lt_of Z) Z Z Z Z Z Z (by omega) (by omega) (QL_norm Z (evQ ?_))
  refine QL_nil (tN (sQ ?_))
  rw [← hie]
  refine nY Z (W_of_WR mixed ?_)
  refine WR_view 8 [.t (T.int A.kind), .t (T.int A.chan), .t (T.int A.n), .top] [19, 20, 21, 22, 23, 24, 25, 26, 27, 8] [(7, .rp t.tt 0), (1, .t (T.ints mv))] (by kernel_rfl) ⟨ViewL.rawP (id := 101) (n := 4) t.tt Z (fun hr => relTask hxa (by rw [xcsT, ccs_cut (fun _ => rfl) hc] at hr; exact hr)), ViewL.of (.t .done), trivial⟩ rfl Z (fun w1 => ?_) ?_
  ·
    refine WR_Gm 10 Z (by kernel_rfl) (by kernel_rfl) (QG_ev tys Z Z (lt_of Z) Z (QG_nil' rfl Z (lt_of Z) Z Z Z (QG_ev tys Z Z (lt_of Z) Z (QG_callF Z Z (lt_of Z) Z Z Z Z Z (l15Ways_fun t hpp.1 hpp.2.1) Z (QG_ev tys Z Z (lt_of Z) Z (QG_norm Z (QG_idxT tys Z Z (lt_of Z) Z Z Z Z Z Z Z (by omega) _ (getT _ _ (by omega) (by omega)) (QG_ev tys Z Z (lt_of Z) Z ?_))))))))
    rw [hmk]
    refine QG_idxT tys Z Z (lt_of Z) Z Z Z Z Z Z Z (by omega) _ (getAct _ (by omega) (by omega)) ?_
    rw [← hA]
    refine QG_ev tys Z Z (lt_of Z) Z (QG_alloc tys Z Z (lt_of Z) Z Z Z Z (QG_nil ?_))
    refine ⟨by kernel_rfl, ?_⟩
    refine nZ Z (sT Z (nZ Z (oN ?_)))
    exact ⟨rfl, rfl, _, rfl, rfl⟩
  refine tN (sQ (nY Z ?_))
  refine W_takeL (id := 104) (i := A.chan.toNat) (off := 0) 107 Z hz Z Z Z (fun ad9 cp9 => ?_)
  refine nY Z (rG (eK 4 Z (WO_idxS tys Z Z (lt_of Z) Z Z Z Z Z Z Z Z hAc0 (by first | (rw [List.length_map]; omega) | (rw [List.length_set, List.length_map]; omega)) ?_)))
  refine WO_loadL tys Z Z (lt_of Z) Z Z Z Z (by rw [Nat.zero_add]; exact List.getElem?_set_self (by rw [List.length_map]; omega)) Z ?_
  refine eZ Z (oN (tN (sQ (W_block (sQ (kY [1,4,5,6,7,8,9] Z (rG (eK 4 Z (oN (tN ?_))))))))))
  refine W_cond Z (fun h1 => ?_) (fun h1 => ?_)
  ·
    simp only [HS] at h1
    refine nY Z (W_le (Le.gatherBox (u := 6) (j := 4) (id := 106) Z Z Z (Nat.le_refl _) Z) (nY Z ?_))
    rw [if_pos (by assumption)] at hdW
    have hC1 := hc
    have hp1 : 0 ≤ t.pos ∧ t.pos ≤ 1048576 := by omega
    have hl1 : t.acts.length ≤ 1048576 := by omega
    have hfin : (hdr.zip (xs.zip w.tasks)).set i (h, x, advT t) = hdr.zip (xs.zip (doW w mv).tasks) := by rw [hdW]; exact xadv_fin (W1 := { w with trace := w.trace ++ [t.last] }) hie hc htI
    refine W_regionH [[], [], [6], [6], [6], [6], [6], [], [], []] mixed (by kernel_rfl) (QH_G0 (QG_ev tys Z Z (lt_of Z) Z (QG_nil (QH_loadOwn tys Z Z (lt_of Z) Z Z Z Z Z Z (QH_G (QG_ev tys Z Z (lt_of Z) Z (QG_nil (QH_G (QG_nil' rfl Z (lt_of Z) Z Z Z (QG_nil (QH_norm Z (QH_G (QG_fieldV tys Z Z (lt_of Z) Z Z Z Z Z (QG_nil (QH_G ?_)))))))))))))))
    refine QG_loadU (id := 101) (u := .int .i64 t.last) tys Z Z (lt_of Z) Z Z Z Z Z (xcT_at hc (by decide)) (xcW_at hc (by decide)) (QG_nil (QH_G ?_))
    refine QG_buildS tys [T.int t.last] Z Z (lt_of Z) Z Z Z Z Z (lt_of Z) (by repeat (first | exact PartsOk.nil' | refine PartsOk.cons' rfl (by repeat (first | exact AbsL.nil' | refine AbsL.v' ?_ | refine AbsL.own' ?_ | refine AbsL.none' ?_)) Z ?_)) Z Z Z (by decide) ?_
    refine QG_nil (QH_G0 (QG_appendO tys Z Z (lt_of Z) Z Z Z Z Z Z Z Z Z ((fun x hx => by rw [List.mem_singleton] at hx; subst hx; exact ⟨rfl, fun z hz => ⟨_, by simpa [T.cells] using hz⟩⟩)) (by simp; omega) (by decide) Z ?_))
    refine QG_nil (QH_norm Z (QH_G0 (QG_ev tys Z Z (lt_of Z) Z (QG_nil (QH_storeM tys Z Z Z Z Z Z Z Z Z (Nat.le_of_ble_eq_true Z) (QH_nil ?_))))))
    refine ⟨by kernel_rfl, ?_⟩
    refine nZ Z (oN (bN (tN (sQ (W_le (Le.roNil 99) (nY Z (rG (eZ Z ?_))))))))
    refine WO_callP (rid := 99) [101] Z Z (lt_of Z) Z Z (by repeat (first | exact ResP.done | refine ResP.pin0 1101 Z ?_ | refine ResP.t ?_ | refine ResP.nil 1 ?_ | refine ResP.nil' ?_ | refine ResP.own ?_ | refine ResP.sl Z Z (by first | omega | (simp; omega)) ?_ | refine ResP.aggT (by repeat (first | exact ResP.done | refine ResP.t ?_)) ?_)) Z (by repeat (first | exact trivial | refine ⟨rfl, rfl, ?_⟩)) (by decide) (goX_fun bt (cap * 4) i _ h x _ hC1 hp1 hl1) Z Z Z ?_
    refine nZ Z (oN (tN (sQ (nY Z ?_))))
    (refine W_le (Le.putBack (id := 104) (idq := 107) (i := A.chan.toNat) (off := 0) (T.ints hl) rfl rfl (List.getElem?_set_self (by rw [List.length_map]; omega)) rfl rfl rfl) ?_; refine W_norm rfl ?_)
    (refine W_le (Le.gatherBox (u := 6) (j := 1) (id := 104) rfl rfl rfl (by first | exact Nat.le_refl _ | simp) rfl) ?_; refine W_norm rfl ?_)
    (refine W_le (Le.gatherBox (u := 6) (j := 2) (id := 105) rfl rfl rfl (by first | exact Nat.le_refl _ | simp) rfl) ?_; refine W_norm rfl ?_)
    skip
    refine W_le (Le.eqK (id := 101) (k' := rb false bt (cap * 4) (xcsW (hdr.zip (xs.zip (doW w mv).tasks))) (((xs.zip (doW w mv).tasks).map ttT).flatMap T.cells)) Z (xcs_rb (by rw [List.length_zip, doW_len]; omega) hfin)) ?_
    refine nY Z (W_le (Le.implode (id := 133) (id2 := 101) (j := 0) (n := 4) (e := false) (b := bt) (cap := cap) (ad := some ⟨bt, 0, none⟩) (len := w.tasks.length) (u := .slice (some ⟨bt, 0, none⟩) w.tasks.length cap) (ws := xcsW (hdr.zip (xs.zip (doW w mv).tasks))) (ys := (xs.zip (doW w mv).tasks).map ttT) Z Z Z Z Z Z (fun _ => rfl) (fun h => by cases h) (by rw [List.length_map, List.length_zip, doW_len]; omega) hlc' hcm ttT_cells Z) ?_)
    refine nY Z (W_le (Le.claimBox (u := 6) (idp := 133) (j := 3) Z Z Z Z) (nY Z (W_le (Le.freezeB (u := 6) Z Z) (nY Z (W_regionH [[], [4], [4], [4], [4], [], []] mixed (by kernel_rfl) (QH_G0 (QG_evZ tys Z Z (lt_of Z) Z Z (QG_nil (QH_G (QG_ev tys Z Z (lt_of Z) Z (QG_nil (QH_G (QG_ev tys Z Z (lt_of Z) Z (QG_nil (QH_G ?_)))))))))))))))
    refine QG_evE tys Z Z (lt_of Z) Z (by first | exact lenM | exact Z) ?_
    refine QG_nil (QH_norm Z (QH_G (QG_ev tys Z Z (lt_of Z) Z (QG_nil (QH_store tys 10005 Z Z Z Z Z Z Z Z Z (Nat.le_of_ble_eq_true Z) (QH_G0 (QG_ev tys Z Z (lt_of Z) Z (QG_nil (QH_nil ?_)))))))))
    refine ⟨by kernel_rfl, ?_⟩
    refine nZ Z (oN (tN (rT (eR ?_))))
    · refine do_fin ?_ ?_ ?_ ?_ ?_
      all_goals try unfold doOk
      all_goals rw [hdW]
      all_goals first | rfl | (simp [advW, setT, List.set_set, hset, List.map_set, List.take_of_length_le]; done) | (simp [advW, setT]; omega) | (simp [advW, setT]; exact decide_eq_true (by omega)) | (simp [advW, setT]; exact decide_eq_decide.2 (by omega))
  simp only [HS] at h1
  refine sQ ?_
  refine W_joinN (α := Bool) [1, 4, 5, 6, 7, 8, 9] [4, 6, 8, 101, 104, 105, 106, 107, 133] (fun x => [(50, .t (.bool x))]) (fun x => []) (fun x => x = decide ((A.kind = 5 ∨ A.kind = 1) ∧ w.shut[A.chan.toNat]'(by omega) = true)) ?_ (fun bb hx => ?_)
  ·
    refine rG (eK 4 Z ?_)
    refine WO_guard Z Z Z Z (lt_of Z) (fun h2 => ?_) (fun h2 => ?_)
    rotate_left
    ·
      simp only [HS] at h2
      refine gM Z (kZ [1,4,5,6,7,8,9,54,56] Z (gM Z (eK 2 Z (gY Z (eZ Z (gY Z (eZ Z (gY Z (eZ Z (gY Z (eZ Z (gY Z (WO_idxS tys Z Z (lt_of Z) Z Z Z Z Z Z Z Z hAc0 (by first | (rw [List.length_map]; omega) | (rw [List.length_set, List.length_map]; omega)) ?_)))))))))))))
      refine gY Z (WO_loadL tys Z Z (lt_of Z) Z Z Z Z (getT0 _ _ (by omega) (by omega)) Z (kZ [1,4,5,6,7,8,9,59,65] Z (eK 2 Z (oN ?_))))
      refine joinQ_n _ (by (try dsimp only); repeat (first | exact Sub.nil' | refine Sub.cons' rfl ?_)) (by (try dsimp only); repeat (first | exact SubM.nil' | refine SubM.cons' rfl ?_)) ?_
      exact (by simp_all)
    simp only [HS] at h2
    refine eZ Z (gY Z (eZ Z (kZ [1,4,5,6,7,8,9,54,56] Z (gY Z (eK 3 Z ?_)))))
    refine WO_guard Z Z Z Z (lt_of Z) (fun h3 => ?_) (fun h3 => ?_)
    rotate_left
    ·
      simp only [HS] at h3
      refine gM Z (gM Z (gM Z (gM Z (gM Z (eZ Z (kZ [1,4,5,6,7,8,9,66] Z (eZ Z (oN ?_))))))))
      refine joinQ_n _ (by (try dsimp only); repeat (first | exact Sub.nil' | refine Sub.cons' rfl ?_)) (by (try dsimp only); repeat (first | exact SubM.nil' | refine SubM.cons' rfl ?_)) ?_
      exact (by simp_all)
    simp only [HS] at h3
    refine eZ Z (gY Z (eZ Z (gY Z (eZ Z (gY Z (eZ Z (gY Z (WO_idxS tys Z Z (lt_of Z) Z Z Z Z Z Z Z Z hAc0 (by first | (rw [List.length_map]; omega) | (rw [List.length_set, List.length_map]; omega)) ?_))))))))
    refine gY Z (WO_loadL tys Z Z (lt_of Z) Z Z Z Z (getT0 _ _ (by omega) (by omega)) Z (kZ [1,4,5,6,7,8,9,59,65] Z (eK 2 Z (oN ?_))))
    refine joinQ_n _ (by (try dsimp only); repeat (first | exact Sub.nil' | refine Sub.cons' rfl ?_)) (by (try dsimp only); repeat (first | exact SubM.nil' | refine SubM.cons' rfl ?_)) ?_
    exact (by simp_all)
  have hbb := hx
  refine tN ?_
  refine W_cond Z (fun h2 => ?_) (fun h2 => ?_)
  ·
    refine sQ (nY Z ?_)
    have hcd := of_decide_eq_true (hbb.symm.trans (by assumption))
    rw [if_neg (by assumption), if_pos hcd] at hdW
    have hfin : (hdr.zip (xs.zip w.tasks)).set i (h, x, { t with state := 2 }) = hdr.zip (xs.zip (doW w mv).tasks) := by rw [hdW]; exact xset_fin (W1 := w) hie hc
    refine kY [4,5,6,7] Z (rG (eZ Z (WO_nil' rfl Z (lt_of Z) Z Z Z (WO_fieldV tys Z Z (lt_of Z) Z Z Z Z Z (WO_storeV (id := 101) (u0 := .int .i64 t.state) (u := .int .i64 2) tys Z Z Z Z Z Z Z (xcT_at hc (by decide)) Z Z Z (nZ Z (WO_le (Le.eqK (id := 101) Z (xcs_to (c' := (h, x, { t with state := 2 })) hc (by decide) Z Z)) (nZ Z (oN (tN (sQ (nY Z ?_))))))))))))
    (refine W_le (Le.putBack (id := 104) (idq := 107) (i := A.chan.toNat) (off := 0) (T.ints hl) rfl rfl (List.getElem?_set_self (by rw [List.length_map]; omega)) rfl rfl rfl) ?_; refine W_norm rfl ?_)
    (refine W_le (Le.gatherBox (u := 6) (j := 1) (id := 104) rfl rfl rfl (by first | exact Nat.le_refl _ | simp) rfl) ?_; refine W_norm rfl ?_)
    (refine W_le (Le.gatherBox (u := 6) (j := 2) (id := 105) rfl rfl rfl (by first | exact Nat.le_refl _ | simp) rfl) ?_; refine W_norm rfl ?_)
    (refine W_le (Le.gatherBox (u := 6) (j := 4) (id := 106) rfl rfl rfl (by first | exact Nat.le_refl _ | simp) rfl) ?_; refine W_norm rfl ?_)
    refine W_le (Le.eqK (id := 101) (k' := rb false bt (cap * 4) (xcsW (hdr.zip (xs.zip (doW w mv).tasks))) (((xs.zip (doW w mv).tasks).map ttT).flatMap T.cells)) Z (xcs_rb (by rw [List.length_zip, doW_len]; omega) hfin)) ?_
    refine nY Z (W_le (Le.implode (id := 133) (id2 := 101) (j := 0) (n := 4) (e := false) (b := bt) (cap := cap) (ad := some ⟨bt, 0, none⟩) (len := w.tasks.length) (u := .slice (some ⟨bt, 0, none⟩) w.tasks.length cap) (ws := xcsW (hdr.zip (xs.zip (doW w mv).tasks))) (ys := (xs.zip (doW w mv).tasks).map ttT) Z Z Z Z Z Z (fun _ => rfl) (fun h => by cases h) (by rw [List.length_map, List.length_zip, doW_len]; omega) hlc' hcm ttT_cells Z) ?_)
    refine nY Z (W_le (Le.claimBox (u := 6) (idp := 133) (j := 3) Z Z Z Z) (nY Z (W_le (Le.freezeB (u := 6) Z Z) (nY Z (rG (eZ Z ?_))))))
    try refine WO_le (Le.freeze (u := 70) rfl) ?_
    refine nZ Z (sT Z (nZ Z (eZ Z (oN (tN (rT (bR (tR (eR ?_)))))))))
    · refine do_fin ?_ ?_ ?_ ?_ ?_
      all_goals try unfold doOk
      all_goals rw [hdW]
      all_goals first | rfl | (simp [advW, setT, List.set_set, hset, List.map_set, List.take_of_length_le]; done) | (simp [advW, setT]; omega) | (simp [advW, setT]; exact decide_eq_true (by omega)) | (simp [advW, setT]; exact decide_eq_decide.2 (by omega))
  refine sQ (nY Z ?_)
  have hcd := of_decide_eq_false (hbb.symm.trans (by assumption))
  rw [if_neg (by assumption), if_neg hcd] at hdW
  refine kY [1,4,5,6,7,8,9] Z (rG (eK 4 Z (oN (tN ?_))))
  refine W_cond Z (fun h3 => ?_) (fun h3 => ?_)
  ·
    simp only [HS] at h3
    refine nY Z ?_
    rw [if_pos (by assumption)] at hdW
    have hC1 := hc
    have hp1 : 0 ≤ t.pos ∧ t.pos ≤ 1048576 := by omega
    have hl1 : t.acts.length ≤ 1048576 := by omega
    have hfin : (hdr.zip (xs.zip w.tasks)).set i (h, x, advT t) = hdr.zip (xs.zip (doW w mv).tasks) := by rw [hdW]; exact xadv_fin (W1 := { w with shut := w.shut.set A.chan.toNat true }) hie hc htI
    refine rG (eK 4 Z (WO_idxS tys Z Z (lt_of Z) Z Z Z Z Z Z Z Z hAc0 (by first | (rw [List.length_map]; omega) | (rw [List.length_set, List.length_map]; omega)) ?_))
    refine kZ [4,5,6,7,79] Z (WO_storeE tys (T.bool true) Z Z Z Z Z Z (Nat.zero_add _) (by rw [List.length_map]; omega) Z (AbsL.v' AbsL.nil') Z Z Z ?_)
    refine nZ Z (oN (bN (tN (sQ (W_le (Le.roNil 99) (nY Z (rG (eZ Z ?_))))))))
    refine WO_callP (rid := 99) [101] Z Z (lt_of Z) Z Z (by repeat (first | exact ResP.done | refine ResP.pin0 1101 Z ?_ | refine ResP.t ?_ | refine ResP.nil 1 ?_ | refine ResP.nil' ?_ | refine ResP.own ?_ | refine ResP.sl Z Z (by first | omega | (simp; omega)) ?_ | refine ResP.aggT (by repeat (first | exact ResP.done | refine ResP.t ?_)) ?_)) Z (by repeat (first | exact trivial | refine ⟨rfl, rfl, ?_⟩)) (by decide) (goX_fun bt (cap * 4) i _ h x _ hC1 hp1 hl1) Z Z Z ?_
    refine nZ Z (oN (tN (sQ (nY Z ?_))))
    (refine W_le (Le.putBack (id := 104) (idq := 107) (i := A.chan.toNat) (off := 0) (T.ints hl) rfl rfl (List.getElem?_set_self (by rw [List.length_map]; omega)) rfl rfl rfl) ?_; refine W_norm rfl ?_)
    (refine W_le (Le.gatherBox (u := 6) (j := 1) (id := 104) rfl rfl rfl (by first | exact Nat.le_refl _ | simp) rfl) ?_; refine W_norm rfl ?_)
    (refine W_le (Le.gatherBox (u := 6) (j := 2) (id := 105) rfl rfl rfl (by first | exact Nat.le_refl _ | simp) rfl) ?_; refine W_norm rfl ?_)
    (refine W_le (Le.gatherBox (u := 6) (j := 4) (id := 106) rfl rfl rfl (by first | exact Nat.le_refl _ | simp) rfl) ?_; refine W_norm rfl ?_)
    refine W_le (Le.eqK (id := 101) (k' := rb false bt (cap * 4) (xcsW (hdr.zip (xs.zip (doW w mv).tasks))) (((xs.zip (doW w mv).tasks).map ttT).flatMap T.cells)) Z (xcs_rb (by rw [List.length_zip, doW_len]; omega) hfin)) ?_
    refine nY Z (W_le (Le.implode (id := 133) (id2 := 101) (j := 0) (n := 4) (e := false) (b := bt) (cap := cap) (ad := some ⟨bt, 0, none⟩) (len := w.tasks.length) (u := .slice (some ⟨bt, 0, none⟩) w.tasks.length cap) (ws := xcsW (hdr.zip (xs.zip (doW w mv).tasks))) (ys := (xs.zip (doW w mv).tasks).map ttT) Z Z Z Z Z Z (fun _ => rfl) (fun h => by cases h) (by rw [List.length_map, List.length_zip, doW_len]; omega) hlc' hcm ttT_cells Z) ?_)
    refine nY Z (W_le (Le.claimBox (u := 6) (idp := 133) (j := 3) Z Z Z Z) (nY Z (W_le (Le.freezeB (u := 6) Z Z) (nY Z (W_regionH [[], [4], [4], [4], [4], [], []] mixed (by kernel_rfl) (QH_G0 (QG_evZ tys Z Z (lt_of Z) Z Z (QG_nil (QH_G (QG_ev tys Z Z (lt_of Z) Z (QG_nil (QH_G (QG_ev tys Z Z (lt_of Z) Z (QG_nil (QH_G ?_)))))))))))))))
    refine QG_evE tys Z Z (lt_of Z) Z (by first | exact lenM | exact Z) ?_
    refine QG_nil (QH_norm Z (QH_G (QG_ev tys Z Z (lt_of Z) Z (QG_nil (QH_store tys 10005 Z Z Z Z Z Z Z Z Z (Nat.le_of_ble_eq_true Z) (QH_G0 (QG_ev tys Z Z (lt_of Z) Z (QG_nil (QH_nil ?_)))))))))
    refine ⟨by kernel_rfl, ?_⟩
    refine nZ Z (oN (tN (rT (eR ?_))))
    · refine do_fin ?_ ?_ ?_ ?_ ?_
      all_goals try unfold doOk
      all_goals rw [hdW]
      all_goals first | rfl | (simp [advW, setT, List.set_set, hset, List.map_set, List.take_of_length_le]; done) | (simp [advW, setT]; omega) | (simp [advW, setT]; exact decide_eq_true (by omega)) | (simp [advW, setT]; exact decide_eq_decide.2 (by omega))
  simp only [HS] at h3
  refine sQ ?_
  refine W_joinN (α := Bool) [1, 4, 5, 6, 7, 8, 9] [4, 6, 8, 101, 104, 105, 106, 107, 133] (fun x => [(80, .t (.bool x))]) (fun x => []) (fun x => x = decide (A.kind = 1 ∧ 0 ≤ at0 0 mv 2)) ?_ (fun bb hx => ?_)
  ·
    refine rG (eK 4 Z ?_)
    refine WO_guard Z Z Z Z (lt_of Z) (fun h4 => ?_) (fun h4 => ?_)
    rotate_left
    ·
      simp only [HS] at h4
      refine gM Z (kZ [1,4,5,6,7,8,9,84,86] Z (gM Z (gM Z (eK 2 Z (oN ?_)))))
      refine joinQ_n _ (by (try dsimp only); repeat (first | exact Sub.nil' | refine Sub.cons' rfl ?_)) (by (try dsimp only); repeat (first | exact SubM.nil' | refine SubM.cons' rfl ?_)) ?_
      exact (by simp_all)
    simp only [HS] at h4
    refine eZ Z (gY Z (WO_idxT tys Z Z (lt_of Z) Z Z Z Z Z Z Z (by omega) _ (getT _ _ (by omega) (by omega)) (kZ [1,4,5,6,7,8,9,84,86] Z (gY Z (eZ Z (gY Z (eK 3 Z (oN ?_))))))))
    refine joinQ_n _ (by (try dsimp only); repeat (first | exact Sub.nil' | refine Sub.cons' rfl ?_)) (by (try dsimp only); repeat (first | exact SubM.nil' | refine SubM.cons' rfl ?_)) ?_
    exact (by simp_all)
  have hbb := hx
  refine tN ?_
  refine W_cond Z (fun h4 => ?_) (fun h4 => ?_)
  ·
    refine sQ (nY Z ?_)
    have hcd := of_decide_eq_true (hbb.symm.trans (by assumption))
    obtain ⟨hk1', hJ0⟩ := hcd
    obtain ⟨⟨_, hJ1⟩, hIJ, hJw⟩ := hm.j.resolve_left (by omega)
    obtain ⟨j, hje⟩ : ∃ j, j = (at0 0 mv 2).toNat := ⟨_, rfl⟩
    have hjt : j < w.tasks.length := by omega
    have hij : ¬ j = i := by omega
    obtain ⟨u, hu⟩ : ∃ u, u = w.tasks[j]'hjt := ⟨_, rfl⟩
    obtain ⟨hj, hhj⟩ : ∃ hj, hj = hdr[j]'(by omega) := ⟨_, rfl⟩
    obtain ⟨y, hy1⟩ : ∃ y, y = xs[j]'(by omega) := ⟨_, rfl⟩
    have hcj : (hdr.zip (xs.zip w.tasks))[j]? = some (hj, y, u) := by rw [hhj, hy1, hu, zip_some (by omega) (by omega)]; simp
    have hum : u ∈ w.tasks := by rw [hu]; exact List.getElem_mem _
    have huJ : tk w (at0 0 mv 2) = u := by rw [tk, at0_of hJ0 hJ1, hu]; simp only [hje]
    have hup := hgo.pos _ hum
    have hus : u.state = 0 := Classical.byContradiction fun hx => by rw [huJ] at hJw; unfold ways at hJw; rw [if_neg hx] at hJw; simp at hJw
    have hup1 := hup.2.1 hus
    rw [if_neg (by omega), if_pos ⟨hk1', hJ0⟩, huJ] at hdW
    have hC2 : ((hdr.zip (xs.zip w.tasks)).set j (hj, y, { u with last := A.n }))[j]? = some (hj, y, { u with last := A.n }) := xc_mid hcj
    have hp2 : 0 ≤ u.pos ∧ u.pos ≤ 1048576 := by omega
    have hl2 : u.acts.length ≤ 1048576 := by omega
    have hp1 : 0 ≤ t.pos ∧ t.pos ≤ 1048576 := by omega
    have hl1 : t.acts.length ≤ 1048576 := by omega
    have hC1 : (((hdr.zip (xs.zip w.tasks)).set j (hj, y, { u with last := A.n })).set j (hj, y, advT { u with last := A.n }))[i]? = some (h, x, t) := by rw [List.getElem?_set_ne hij, List.getElem?_set_ne hij]; exact hc
    have hfin : (((hdr.zip (xs.zip w.tasks)).set j (hj, y, { u with last := A.n })).set j (hj, y, advT { u with last := A.n })).set i (h, x, advT t) = hdr.zip (xs.zip (doW w mv).tasks) := by rw [hdW]; exact xtk2_fin hie hje hi0 hi1 hJ0 hJ1 hIJ hcj hc htI
    refine kY [1,4,5,6,7,8] Z (W_regionD mixed (by kernel_rfl) (evQ ?_))
    refine evQ ?_
    refine evQ ?_
    refine QL_idxT tys Z Z (lt_of Z) Z Z Z Z Z Z Z (by omega) _ (getT _ _ (by omega) (by omega)) (evQ ?_)
    rw [hmj]
    refine QL_idxV tys Z Z (lt_of Z) Z Z Z Z Z Z (by omega) (by omega) (QL_norm Z (evQ ?_))
    refine QL_nil (tN (sQ (nY Z ?_)))
    rw [← hje]
    refine rG (eK 3 Z (WO_nil' rfl Z (lt_of Z) Z Z Z (WO_fieldV tys Z Z (lt_of Z) Z Z Z Z Z (WO_storeV (id := 101) (u0 := .int .i64 u.last) (u := .int .i64 A.n) tys Z Z Z Z Z Z Z (xcT_at hcj (by decide)) Z Z Z (nZ Z (WO_le (Le.eqK (id := 101) Z (xcs_to (c' := (hj, y, { u with last := A.n })) hcj (by decide) Z Z)) (nZ Z (oN (tN (W_le (Le.roNil 99) (nY Z (kY [4,5,6,7,10] Z (rG (eZ Z ?_))))))))))))))
    refine WO_callP (rid := 99) [101] Z Z (lt_of Z) Z Z (by repeat (first | exact ResP.done | refine ResP.pin0 1101 Z ?_ | refine ResP.t ?_ | refine ResP.nil 1 ?_ | refine ResP.nil' ?_ | refine ResP.own ?_ | refine ResP.sl Z Z (by first | omega | (simp; omega)) ?_ | refine ResP.aggT (by repeat (first | exact ResP.done | refine ResP.t ?_)) ?_)) Z (by repeat (first | exact trivial | refine ⟨rfl, rfl, ?_⟩)) (by decide) (goX_fun bt (cap * 4) j _ hj y _ hC2 hp2 hl2) Z Z Z ?_
    refine nZ Z (oN (bN (tN (sQ (W_le (Le.roNil 99) (nY Z (rG (eZ Z ?_))))))))
    refine WO_callP (rid := 99) [101] Z Z (lt_of Z) Z Z (by repeat (first | exact ResP.done | refine ResP.pin0 1101 Z ?_ | refine ResP.t ?_ | refine ResP.nil 1 ?_ | refine ResP.nil' ?_ | refine ResP.own ?_ | refine ResP.sl Z Z (by first | omega | (simp; omega)) ?_ | refine ResP.aggT (by repeat (first | exact ResP.done | refine ResP.t ?_)) ?_)) Z (by repeat (first | exact trivial | refine ⟨rfl, rfl, ?_⟩)) (by decide) (goX_fun bt (cap * 4) i _ h x _ hC1 hp1 hl1) Z Z Z ?_
    refine nZ Z (oN (tN (sQ (nY Z ?_))))
    (refine W_le (Le.putBack (id := 104) (idq := 107) (i := A.chan.toNat) (off := 0) (T.ints hl) rfl rfl (List.getElem?_set_self (by rw [List.length_map]; omega)) rfl rfl rfl) ?_; refine W_norm rfl ?_)
    (refine W_le (Le.gatherBox (u := 6) (j := 1) (id := 104) rfl rfl rfl (by first | exact Nat.le_refl _ | simp) rfl) ?_; refine W_norm rfl ?_)
    (refine W_le (Le.gatherBox (u := 6) (j := 2) (id := 105) rfl rfl rfl (by first | exact Nat.le_refl _ | simp) rfl) ?_; refine W_norm rfl ?_)
    (refine W_le (Le.gatherBox (u := 6) (j := 4) (id := 106) rfl rfl rfl (by first | exact Nat.le_refl _ | simp) rfl) ?_; refine W_norm rfl ?_)
    refine W_le (Le.eqK (id := 101) (k' := rb false bt (cap * 4) (xcsW (hdr.zip (xs.zip (doW w mv).tasks))) (((xs.zip (doW w mv).tasks).map ttT).flatMap T.cells)) Z (xcs_rb (by rw [List.length_zip, doW_len]; omega) hfin)) ?_
    refine nY Z (W_le (Le.implode (id := 133) (id2 := 101) (j := 0) (n := 4) (e := false) (b := bt) (cap := cap) (ad := some ⟨bt, 0, none⟩) (len := w.tasks.length) (u := .slice (some ⟨bt, 0, none⟩) w.tasks.length cap) (ws := xcsW (hdr.zip (xs.zip (doW w mv).tasks))) (ys := (xs.zip (doW w mv).tasks).map ttT) Z Z Z Z Z Z (fun _ => rfl) (fun h => by cases h) (by rw [List.length_map, List.length_zip, doW_len]; omega) hlc' hcm ttT_cells Z) ?_)
    refine nY Z (W_le (Le.claimBox (u := 6) (idp := 133) (j := 3) Z Z Z Z) (nY Z (W_le (Le.freezeB (u := 6) Z Z) (nY Z (W_regionH [[], [4], [4], [4], [4], [], []] mixed (by kernel_rfl) (QH_G0 (QG_evZ tys Z Z (lt_of Z) Z Z (QG_nil (QH_G (QG_ev tys Z Z (lt_of Z) Z (QG_nil (QH_G (QG_ev tys Z Z (lt_of Z) Z (QG_nil (QH_G ?_)))))))))))))))
    refine QG_evE tys Z Z (lt_of Z) Z (by first | exact lenM | exact Z) ?_
    refine QG_nil (QH_norm Z (QH_G (QG_ev tys Z Z (lt_of Z) Z (QG_nil (QH_store tys 10005 Z Z Z Z Z Z Z Z Z (Nat.le_of_ble_eq_true Z) (QH_G0 (QG_ev tys Z Z (lt_of Z) Z (QG_nil (QH_nil ?_)))))))))
    refine ⟨by kernel_rfl, ?_⟩
    refine nZ Z (oN (tN (rT (eR ?_))))
    · refine do_fin ?_ ?_ ?_ ?_ ?_
      all_goals try unfold doOk
      all_goals rw [hdW]
      all_goals first | rfl | (simp [advW, setT, List.set_set, hset, List.map_set, List.take_of_length_le]; done) | (simp [advW, setT]; omega) | (simp [advW, setT]; exact decide_eq_true (by omega)) | (simp [advW, setT]; exact decide_eq_decide.2 (by omega))
  refine sQ (nY Z ?_)
  have hcd := of_decide_eq_false (hbb.symm.trans (by assumption))
  rw [if_neg (by assumption), if_neg hcd] at hdW
  refine kY [4,5,6,7,8,9] Z (rG (eK 4 Z (oN (tN ?_))))
  refine W_cond Z (fun h5 => ?_) (fun h5 => ?_)
  ·
    simp only [HS] at h5
    refine nY Z ?_
    rw [if_pos (by assumption)] at hdW
    have hC1 := hc
    have hp1 : 0 ≤ t.pos ∧ t.pos ≤ 1048576 := by omega
    have hl1 : t.acts.length ≤ 1048576 := by omega
    have hfin : (hdr.zip (xs.zip w.tasks)).set i (h, x, advT t) = hdr.zip (xs.zip (doW w mv).tasks) := by rw [hdW]; exact xadv_fin (W1 := { w with held := w.held.set A.chan.toNat (hl ++ [A.n]) }) hie hc htI
    refine W_le (Le.ownBack (t := 9) (id := 107) Z Z) (nY Z (W_le (Le.adoptE (u := 9) 107 Z Z) (nY Z (W_regionGm 10 mixed Z (by kernel_rfl) (by kernel_rfl) (QG_ev tys Z Z (lt_of Z) Z (QG_ev tys Z Z (lt_of Z) Z (QG_norm Z (QG_ev tys Z Z (lt_of Z) Z (QG_ev tys Z Z (lt_of Z) Z (QG_ev tys Z Z (lt_of Z) Z (QG_call Z Z (lt_of Z) Z Z (resl_drop (id := 107) Z (by show 0 + (List.map T.int hl).length = hl.length; rw [List.length_map]; omega) Z) (l1OwnW_fun (hl.drop 0) (by rw [List.length_drop]; omega)) Z ?_)))))))))))
    refine QG_ev tys Z Z (lt_of Z) Z (QG_ev tys Z Z (lt_of Z) Z (QG_norm Z ?_))
    refine QG_buildS tys [T.int A.n] Z Z (lt_of Z) Z Z Z Z Z (lt_of Z) (by repeat (first | exact PartsOk.nil' | refine PartsOk.cons' rfl (by repeat (first | exact AbsL.nil' | refine AbsL.v' ?_ | refine AbsL.own' ?_ | refine AbsL.none' ?_)) Z ?_)) Z Z Z (by decide) ?_
    refine QG_appendO tys Z Z (lt_of Z) Z Z Z Z Z Z Z Z Z ((fun x hx => by rw [List.mem_singleton] at hx; subst hx; exact ⟨rfl, fun z hz => ⟨_, by simpa [T.cells] using hz⟩⟩)) (by simp; omega) (by decide) Z ?_
    refine QG_nil ?_
    refine ⟨by kernel_rfl, ?_⟩
    refine nZ Z (WO_idxS tys Z Z (lt_of Z) Z Z Z Z Z Z Z Z hAc0 (by first | (rw [List.length_map]; omega) | (rw [List.length_set, List.length_map]; omega)) ?_)
    refine WO_storeE tys (T.ints (hl ++ [A.n])) Z Z Z Z Z Z (Nat.zero_add _) (by rw [List.length_set, List.length_map]; omega) Z (by rw [show T.cells (T.ints (hl ++ [A.n])) = [.list 1 ((hl.drop 0).map T.int ++ [T.int A.n])] from by rw [List.drop_zero]; show [T.list 1 _] = _; rw [List.map_append]; rfl]; exact AbsL.own' AbsL.nil') Z Z Z ?_
    refine nZ Z (oN (bN (tN (sQ (W_le (Le.roNil 99) (nY Z (rG (eZ Z ?_))))))))
    refine WO_callP (rid := 99) [101] Z Z (lt_of Z) Z Z (by repeat (first | exact ResP.done | refine ResP.pin0 1101 Z ?_ | refine ResP.t ?_ | refine ResP.nil 1 ?_ | refine ResP.nil' ?_ | refine ResP.own ?_ | refine ResP.sl Z Z (by first | omega | (simp; omega)) ?_ | refine ResP.aggT (by repeat (first | exact ResP.done | refine ResP.t ?_)) ?_)) Z (by repeat (first | exact trivial | refine ⟨rfl, rfl, ?_⟩)) (by decide) (goX_fun bt (cap * 4) i _ h x _ hC1 hp1 hl1) Z Z Z ?_
    refine nZ Z (oN (tN (sQ (nY Z ?_))))
    skip
    (refine W_le (Le.gatherBox (u := 6) (j := 1) (id := 104) rfl rfl rfl (by first | exact Nat.le_refl _ | simp) rfl) ?_; refine W_norm rfl ?_)
    (refine W_le (Le.gatherBox (u := 6) (j := 2) (id := 105) rfl rfl rfl (by first | exact Nat.le_refl _ | simp) rfl) ?_; refine W_norm rfl ?_)
    (refine W_le (Le.gatherBox (u := 6) (j := 4) (id := 106) rfl rfl rfl (by first | exact Nat.le_refl _ | simp) rfl) ?_; refine W_norm rfl ?_)
    refine W_le (Le.eqK (id := 101) (k' := rb false bt (cap * 4) (xcsW (hdr.zip (xs.zip (doW w mv).tasks))) (((xs.zip (doW w mv).tasks).map ttT).flatMap T.cells)) Z (xcs_rb (by rw [List.length_zip, doW_len]; omega) hfin)) ?_
    refine nY Z (W_le (Le.implode (id := 133) (id2 := 101) (j := 0) (n := 4) (e := false) (b := bt) (cap := cap) (ad := some ⟨bt, 0, none⟩) (len := w.tasks.length) (u := .slice (some ⟨bt, 0, none⟩) w.tasks.length cap) (ws := xcsW (hdr.zip (xs.zip (doW w mv).tasks))) (ys := (xs.zip (doW w mv).tasks).map ttT) Z Z Z Z Z Z (fun _ => rfl) (fun h => by cases h) (by rw [List.length_map, List.length_zip, doW_len]; omega) hlc' hcm ttT_cells Z) ?_)
    refine nY Z (W_le (Le.claimBox (u := 6) (idp := 133) (j := 3) Z Z Z Z) (nY Z (W_le (Le.freezeB (u := 6) Z Z) (nY Z (W_regionH [[], [4], [4], [4], [4], [], []] mixed (by kernel_rfl) (QH_G0 (QG_evZ tys Z Z (lt_of Z) Z Z (QG_nil (QH_G (QG_ev tys Z Z (lt_of Z) Z (QG_nil (QH_G (QG_ev tys Z Z (lt_of Z) Z (QG_nil (QH_G ?_)))))))))))))))
    refine QG_evE tys Z Z (lt_of Z) Z (by first | exact lenM | exact Z) ?_
    refine QG_nil (QH_norm Z (QH_G (QG_ev tys Z Z (lt_of Z) Z (QG_nil (QH_store tys 10005 Z Z Z Z Z Z Z Z Z (Nat.le_of_ble_eq_true Z) (QH_G0 (QG_ev tys Z Z (lt_of Z) Z (QG_nil (QH_nil ?_)))))))))
    refine ⟨by kernel_rfl, ?_⟩
    refine nZ Z (oN (tN (rT (eR ?_))))
    · refine do_fin ?_ ?_ ?_ ?_ ?_
      all_goals try unfold doOk
      all_goals rw [hdW]
      all_goals first | rfl | (simp [advW, setT, List.set_set, hset, List.map_set, List.take_of_length_le]; done) | (simp [advW, setT]; omega) | (simp [advW, setT]; exact decide_eq_true (by omega)) | (simp [advW, setT]; exact decide_eq_decide.2 (by omega))
  simp only [HS] at h5
  refine sQ (nY Z ?_)
  rw [if_neg (by assumption)] at hdW
  refine rG (eZ Z (WO_lenV Z Z (lt_of Z) Z ⟨3, by kernel_rfl⟩ rfl (eK 2 Z (oN (tN ?_)))))
  refine W_cond Z (fun h6 => ?_) (fun h6 => ?_)
  ·
    simp only [HS] at h6
    refine sQ (nY Z ?_)
    have hlp : 0 < hl.length := by simp_all
    rw [if_pos hlp, show at0 0 hl 0 = hl[0] from at0_of (l := hl) (i := 0) (by omega) (by omega)] at hdW
    refine W_le (Le.ownBack (t := 9) (id := 107) Z Z) (nY Z (W_le (Le.adoptE (u := 9) 107 Z Z) (nY Z ?_)))
    have hp1 : 0 ≤ t.pos ∧ t.pos ≤ 1048576 := by omega
    have hl1 : t.acts.length ≤ 1048576 := by omega
    have hC1 : ((hdr.zip (xs.zip w.tasks)).set i (h, x, { t with last := hl[0] }))[i]? = some (h, x, { t with last := hl[0] }) := xc_mid hc
    have hfin : ((hdr.zip (xs.zip w.tasks)).set i (h, x, { t with last := hl[0] })).set i (h, x, advT { t with last := hl[0] }) = hdr.zip (xs.zip (doW w mv).tasks) := by rw [hdW]; exact xtk0_fin hie hi0 hi1 hc
    refine kY [4,5,6,7,8,9] Z (rG (eK 2 Z (WO_idxS tys Z Z (lt_of Z) Z Z Z Z Z Z Z Z (by omega) (by rw [List.length_map]; omega) ?_)))
    refine WO_loadL tys Z Z (lt_of Z) Z Z Z Z (getT0 _ _ (by omega) (by omega)) Z (WO_nil' rfl Z (lt_of Z) Z Z Z (WO_fieldV tys Z Z (lt_of Z) Z Z Z Z Z (WO_storeV (id := 101) (u0 := .int .i64 t.last) (u := .int .i64 hl[0]) tys Z Z Z Z Z Z Z (xcT_at hc (by decide)) Z Z Z (nZ Z (WO_le (Le.eqK (id := 101) Z (xcs_to (c' := (h, x, { t with last := hl[0] })) hc (by decide) Z Z)) (nZ Z (oN (tN (kY [4,5,6,7,8,9] Z (W_regionGm 7 mixed Z (by kernel_rfl) (by kernel_rfl) (QG_ev tys Z Z (lt_of Z) Z (QG_ev tys Z Z (lt_of Z) Z (QG_ev tys Z Z (lt_of Z) Z (QG_ev tys Z Z (lt_of Z) Z (QG_ev tys Z Z (lt_of Z) Z ?_)))))))))))))))
    refine QG_sliceS tys Z Z (lt_of Z) Z Z Z Z Z Z Z Z Z (by omega) (by rw [List.length_map]; omega) (by rw [List.length_map]; omega) ?_
    refine QG_norm Z (QG_call Z Z (lt_of Z) Z Z (resl_drop (id := 107) Z (by show 1 + (((List.map T.int hl).length : Int).toNat - 1) = hl.length; rw [List.length_map]; omega) Z) (l1OwnW_fun (hl.drop 1) (by rw [List.length_drop]; omega)) Z ?_)
    refine QG_nil ?_
    refine ⟨by kernel_rfl, ?_⟩
    refine nZ Z (WO_idxS tys Z Z (lt_of Z) Z Z Z Z Z Z Z Z hAc0 (by first | (rw [List.length_map]; omega) | (rw [List.length_set, List.length_map]; omega)) ?_)
    refine WO_storeE tys (T.ints (hl.drop 1)) Z Z Z Z Z Z (Nat.zero_add _) (by rw [List.length_set, List.length_map]; omega) Z (AbsL.own' AbsL.nil') Z Z Z ?_
    refine nZ Z (oN (bN (tN (sQ (W_le (Le.roNil 99) (nY Z (rG (eZ Z ?_))))))))
    refine WO_callP (rid := 99) [101] Z Z (lt_of Z) Z Z (by repeat (first | exact ResP.done | refine ResP.pin0 1101 Z ?_ | refine ResP.t ?_ | refine ResP.nil 1 ?_ | refine ResP.nil' ?_ | refine ResP.own ?_ | refine ResP.sl Z Z (by first | omega | (simp; omega)) ?_ | refine ResP.aggT (by repeat (first | exact ResP.done | refine ResP.t ?_)) ?_)) Z (by repeat (first | exact trivial | refine ⟨rfl, rfl, ?_⟩)) (by decide) (goX_fun bt (cap * 4) i _ h x _ hC1 hp1 hl1) Z Z Z ?_
    refine nZ Z (oN (tN (sQ (nY Z ?_))))
    skip
    (refine W_le (Le.gatherBox (u := 6) (j := 1) (id := 104) rfl rfl rfl (by first | exact Nat.le_refl _ | simp) rfl) ?_; refine W_norm rfl ?_)
    (refine W_le (Le.gatherBox (u := 6) (j := 2) (id := 105) rfl rfl rfl (by first | exact Nat.le_refl _ | simp) rfl) ?_; refine W_norm rfl ?_)
    (refine W_le (Le.gatherBox (u := 6) (j := 4) (id := 106) rfl rfl rfl (by first | exact Nat.le_refl _ | simp) rfl) ?_; refine W_norm rfl ?_)
    refine W_le (Le.eqK (id := 101) (k' := rb false bt (cap * 4) (xcsW (hdr.zip (xs.zip (doW w mv).tasks))) (((xs.zip (doW w mv).tasks).map ttT).flatMap T.cells)) Z (xcs_rb (by rw [List.length_zip, doW_len]; omega) hfin)) ?_
    refine nY Z (W_le (Le.implode (id := 133) (id2 := 101) (j := 0) (n := 4) (e := false) (b := bt) (cap := cap) (ad := some ⟨bt, 0, none⟩) (len := w.tasks.length) (u := .slice (some ⟨bt, 0, none⟩) w.tasks.length cap) (ws := xcsW (hdr.zip (xs.zip (doW w mv).tasks))) (ys := (xs.zip (doW w mv).tasks).map ttT) Z Z Z Z Z Z (fun _ => rfl) (fun h => by cases h) (by rw [List.length_map, List.length_zip, doW_len]; omega) hlc' hcm ttT_cells Z) ?_)
    refine nY Z (W_le (Le.claimBox (u := 6) (idp := 133) (j := 3) Z Z Z Z) (nY Z (W_le (Le.freezeB (u := 6) Z Z) (nY Z (W_regionH [[], [4], [4], [4], [4], [], []] mixed (by kernel_rfl) (QH_G0 (QG_evZ tys Z Z (lt_of Z) Z Z (QG_nil (QH_G (QG_ev tys Z Z (lt_of Z) Z (QG_nil (QH_G (QG_ev tys Z Z (lt_of Z) Z (QG_nil (QH_G ?_)))))))))))))))
    refine QG_evE tys Z Z (lt_of Z) Z (by first | exact lenM | exact Z) ?_
    refine QG_nil (QH_norm Z (QH_G (QG_ev tys Z Z (lt_of Z) Z (QG_nil (QH_store tys 10005 Z Z Z Z Z Z Z Z Z (Nat.le_of_ble_eq_true Z) (QH_G0 (QG_ev tys Z Z (lt_of Z) Z (QG_nil (QH_nil ?_)))))))))
    refine ⟨by kernel_rfl, ?_⟩
    refine nZ Z (oN (tN (rT (eR ?_))))
    · refine do_fin ?_ ?_ ?_ ?_ ?_
      all_goals try unfold doOk
      all_goals rw [hdW]
      all_goals first | rfl | (simp [advW, setT, List.set_set, hset, List.map_set, List.take_of_length_le]; done) | (simp [advW, setT]; omega) | (simp [advW, setT]; exact decide_eq_true (by omega)) | (simp [advW, setT]; exact decide_eq_decide.2 (by omega))
  simp only [HS] at h6
  refine nY Z ?_
  have hlp : ¬ 0 < hl.length := by simp_all
  rw [if_neg hlp] at hdW
  have hp1 : 0 ≤ t.pos ∧ t.pos ≤ 1048576 := by omega
  have hl1 : t.acts.length ≤ 1048576 := by omega
  have hC1 : ((hdr.zip (xs.zip w.tasks)).set i (h, x, { t with last := 0 }))[i]? = some (h, x, { t with last := 0 }) := xc_mid hc
  have hfin : ((hdr.zip (xs.zip w.tasks)).set i (h, x, { t with last := 0 })).set i (h, x, advT { t with last := 0 }) = hdr.zip (xs.zip (doW w mv).tasks) := by rw [hdW]; exact xtk0_fin hie hi0 hi1 hc
  refine kY [4,5,6,7] Z (rG (eZ Z (WO_nil' rfl Z (lt_of Z) Z Z Z (WO_fieldV tys Z Z (lt_of Z) Z Z Z Z Z (WO_storeV (id := 101) (u0 := .int .i64 t.last) (u := .int .i64 0) tys Z Z Z Z Z Z Z (xcT_at hc (by decide)) Z Z Z (nZ Z (WO_le (Le.eqK (id := 101) Z (xcs_to (c' := (h, x, { t with last := 0 })) hc (by decide) Z Z)) (nZ Z (oN (bN (tN (sQ (W_le (Le.roNil 99) (nY Z (rG ?_)))))))))))))))
  refine eZ Z ?_
  refine WO_callP (rid := 99) [101] Z Z (lt_of Z) Z Z (by repeat (first | exact ResP.done | refine ResP.pin0 1101 Z ?_ | refine ResP.t ?_ | refine ResP.nil 1 ?_ | refine ResP.nil' ?_ | refine ResP.own ?_ | refine ResP.sl Z Z (by first | omega | (simp; omega)) ?_ | refine ResP.aggT (by repeat (first | exact ResP.done | refine ResP.t ?_)) ?_)) Z (by repeat (first | exact trivial | refine ⟨rfl, rfl, ?_⟩)) (by decide) (goX_fun bt (cap * 4) i _ h x _ hC1 hp1 hl1) Z Z Z ?_
  refine nZ Z (oN (tN (sQ (nY Z ?_))))
  (refine W_le (Le.putBack (id := 104) (idq := 107) (i := A.chan.toNat) (off := 0) (T.ints hl) rfl rfl (List.getElem?_set_self (by rw [List.length_map]; omega)) rfl rfl rfl) ?_; refine W_norm rfl ?_)
  (refine W_le (Le.gatherBox (u := 6) (j := 1) (id := 104) rfl rfl rfl (by first | exact Nat.le_refl _ | simp) rfl) ?_; refine W_norm rfl ?_)
  (refine W_le (Le.gatherBox (u := 6) (j := 2) (id := 105) rfl rfl rfl (by first | exact Nat.le_refl _ | simp) rfl) ?_; refine W_norm rfl ?_)
  (refine W_le (Le.gatherBox (u := 6) (j := 4) (id := 106) rfl rfl rfl (by first | exact Nat.le_refl _ | simp) rfl) ?_; refine W_norm rfl ?_)
  refine W_le (Le.eqK (id := 101) (k' := rb false bt (cap * 4) (xcsW (hdr.zip (xs.zip (doW w mv).tasks))) (((xs.zip (doW w mv).tasks).map ttT).flatMap T.cells)) Z (xcs_rb (by rw [List.length_zip, doW_len]; omega) hfin)) ?_
  refine nY Z (W_le (Le.implode (id := 133) (id2 := 101) (j := 0) (n := 4) (e := false) (b := bt) (cap := cap) (ad := some ⟨bt, 0, none⟩) (len := w.tasks.length) (u := .slice (some ⟨bt, 0, none⟩) w.tasks.length cap) (ws := xcsW (hdr.zip (xs.zip (doW w mv).tasks))) (ys := (xs.zip (doW w mv).tasks).map ttT) Z Z Z Z Z Z (fun _ => rfl) (fun h => by cases h) (by rw [List.length_map, List.length_zip, doW_len]; omega) hlc' hcm ttT_cells Z) ?_)
  refine nY Z (W_le (Le.claimBox (u := 6) (idp := 133) (j := 3) Z Z Z Z) (nY Z (W_le (Le.freezeB (u := 6) Z Z) (nY Z (W_regionH [[], [4], [4], [4], [4], [], []] mixed (by kernel_rfl) (QH_G0 (QG_evZ tys Z Z (lt_of Z) Z Z (QG_nil (QH_G (QG_ev tys Z Z (lt_of Z) Z (QG_nil (QH_G (QG_ev tys Z Z (lt_of Z) Z (QG_nil (QH_G ?_)))))))))))))))
  refine QG_evE tys Z Z (lt_of Z) Z (by first | exact lenM | exact Z) ?_
  refine QG_nil (QH_norm Z (QH_G (QG_ev tys Z Z (lt_of Z) Z (QG_nil (QH_store tys 10005 Z Z Z Z Z Z Z Z Z (Nat.le_of_ble_eq_true Z) (QH_G0 (QG_ev tys Z Z (lt_of Z) Z (QG_nil (QH_nil ?_)))))))))
  refine ⟨by kernel_rfl, ?_⟩
  refine nZ Z (oN (tN (rT (eR ?_))))
  · refine do_fin ?_ ?_ ?_ ?_ ?_
    all_goals try unfold doOk
    all_goals rw [hdW]
    all_goals first | rfl | (simp [advW, setT, List.set_set, hset, List.map_set, List.take_of_length_le]; done) | (simp [advW, setT]; omega) | (simp [advW, setT]; exact decide_eq_true (by omega)) | (simp [advW, setT]; exact decide_eq_decide.2 (by omega))
open Go.Eng
/-! What reads as flat acts can be told. -/
theorem hdr_of {w : Go.World} {F : Nat → Prop} {n : Nat} {vs : List Value} {ts : List T} (h : RelL w F vs (.list n [] :: ts)) : ∃ a c v', vs = Value.slice a 0 c :: v' ∧ RelL w F v' ts := by
 generalize hx : ([] : List T) = xs at h
 cases h with
 | none h => exact ⟨_, _, _, rfl, h⟩
 | list p1 p2 p3 p4 p5 p6 h => subst hx; exact ⟨_, _, _, rfl, h⟩
theorem tellCases {w : Go.World} {F : Nat → Prop} : ∀ {l : List Act}, (∀ b, b ∈ l → b.cases = []) → ∀ {vs}, RelL w F vs ((l.map Act.toT).flatMap T.cells) → ∃ zs, All2 TCase zs l ∧ RelL w F vs (zs.flatMap T.cells)
 | [], _, vs, h => ⟨[], .nil, h⟩
 | b :: l, hb, vs, h => by
  rw [List.map_cons, List.flatMap_cons, Act.toT_eq] at h
  change RelL w F vs (T.int b.kind :: T.int b.chan :: T.int b.n :: .list 4 (b.cases.map Act.toT) :: (l.map Act.toT).flatMap T.cells) at h
  have hb0 := hb b (by simp)
  rw [hb0] at h
  cases h with
  | v q1 h =>
   cases h with
   | v q2 h =>
    cases h with
    | v q3 h =>
     obtain ⟨a, c, v', rfl, h'⟩ := hdr_of h
     obtain ⟨zs, g1, g2⟩ := tellCases (fun b' h => hb b' (by simp [h])) h'
     exact ⟨.agg [T.int b.kind, T.int b.chan, T.int b.n, .v (.slice a 0 c)] :: zs, .cons ⟨hb0, a, c, rfl⟩ g1, .v q1 (.v q2 (.v q3 (.v rfl g2)))⟩
def flatC (a : Act) : Prop := ∀ b, b ∈ a.cases → b.cases = []
theorem case_cells {zs : List T} {l : List Act} (h : All2 TCase zs l) : ∀ x, x ∈ zs → (T.cells x).length = 4 := fun x hx => (case_read h x hx).1
theorem act_cells {zs : List T} {l : List Act} (h : All2 TAct zs l) : ∀ x, x ∈ zs → (T.cells x).length = 4 := fun x hx => by
 obtain ⟨b, _, cs, rfl, _⟩ := h.left hx
 rfl
theorem tellActL {w : Go.World} {F : Nat → Prop} : ∀ {l : List Act}, (∀ b, b ∈ l → flatC b) → ∀ {vs}, RelL w F vs ((l.map Act.toT).flatMap T.cells) → ∃ zs, All2 TAct zs l ∧ RelL w F vs (zs.flatMap T.cells)
 | [], _, vs, h => ⟨[], .nil, h⟩
 | b :: l, hb, vs, h => by
  rw [List.map_cons, List.flatMap_cons, Act.toT_eq] at h
  change RelL w F vs (T.int b.kind :: T.int b.chan :: T.int b.n :: .list 4 (b.cases.map Act.toT) :: (l.map Act.toT).flatMap T.cells) at h
  have hb0 := hb b (by simp)
  cases h with
  | v q1 h =>
   cases h with
   | v q2 h =>
    cases h with
    | v q3 h =>
     generalize hy : T.list 4 (b.cases.map Act.toT) = y at h
     cases h with
     | v p1 p2 => cases hy
     | none h =>
      have e : b.cases = [] := by have := (T.list.inj hy).2; exact List.map_eq_nil_iff.1 this
      obtain ⟨zs, g1, g2⟩ := tellActL (fun b' h => hb b' (by simp [h])) h
      refine ⟨.agg [T.int b.kind, T.int b.chan, T.int b.n, .list 4 []] :: zs, .cons ⟨[], rfl, by rw [e]; exact .nil⟩ g1, .v q1 (.v q2 (.v q3 (.none g2)))⟩
     | list p1 p2 p3 p4 p5 p6 h =>
      obtain ⟨rfl, rfl⟩ := T.list.inj hy
      obtain ⟨zs, g1, g2⟩ := tellActL (fun b' h => hb b' (by simp [h])) h
      obtain ⟨cs, g3, g4⟩ := tellCases hb0 p6
      have el : (b.cases.map Act.toT).length = cs.length := by rw [List.length_map]; exact g3.len.symm
      refine ⟨.agg [T.int b.kind, T.int b.chan, T.int b.n, .list 4 cs] :: zs, .cons ⟨cs, rfl, g3⟩ g1, .v q1 (.v q2 (.v q3 ?_))⟩
      rw [el] at p5 ⊢
      exact .list p1 p2 p3 (case_cells g3) p5 g4 g2
theorem tellActs {w : Go.World} {F : Nat → Prop} {l : List Act} (hb : ∀ b, b ∈ l → flatC b) {v : Value} {vs : List Value} {ts : List T} (h : RelL w F (v :: vs) (T.Acts l :: ts)) : ∃ x, TActs x l ∧ RelL w F [v] [x] ∧ RelL w F vs ts := by
 obtain ⟨h, hr⟩ := h.cons
 generalize hy : T.Acts l = y at h
 cases h with
 | v p1 p2 => cases hy
 | none h =>
  have e : l = [] := by have := (T.list.inj hy).2; exact List.map_eq_nil_iff.1 this
  subst e
  exact ⟨.list 4 [], ⟨[], rfl, .nil⟩, .none .nil, hr⟩
 | list p1 p2 p3 p4 p5 p6 h =>
  obtain ⟨rfl, rfl⟩ := T.list.inj hy
  obtain ⟨zs, g1, g2⟩ := tellActL hb p6
  have el : (l.map Act.toT).length = zs.length := by rw [List.length_map]; exact g1.len.symm
  refine ⟨.list 4 zs, ⟨zs, rfl, g1⟩, ?_, hr⟩
  rw [el] at p5 ⊢
  exact .list p1 p2 p3 (act_cells g1) p5 g2 .nil
theorem tellTasks {w : Go.World} {F : Nat → Prop} : ∀ {l : List Task}, (∀ t, t ∈ l → ∀ b, b ∈ t.acts → flatC b) → ∀ {vs}, RelL w F vs ((l.map Task.tt).flatMap T.cells) → ∃ xs, All2 TActs xs (l.map Task.acts) ∧ RelL w F vs (((xs.zip l).map ttT).flatMap T.cells)
 | [], _, vs, h => ⟨[], .nil, h⟩
 | t :: l, hb, vs, h => by
  rw [List.map_cons, List.flatMap_cons] at h
  change RelL w F vs (T.Acts t.acts :: T.int t.pos :: T.int t.state :: T.int t.last :: (l.map Task.tt).flatMap T.cells) at h
  cases vs with
  | nil => cases h
  | cons v vs =>
   obtain ⟨x, g1, g2, h⟩ := tellActs (hb t (by simp)) h
   cases h with
   | v q1 h =>
    cases h with
    | v q2 h =>
     cases h with
     | v q3 h =>
      obtain ⟨xs, g3, g4⟩ := tellTasks (fun t' h => hb t' (by simp [h])) h
      exact ⟨x :: xs, .cons g1 g3, RelL.cons' g2 (.v q1 (.v q2 (.v q3 g4)))⟩
theorem relTasks {w : Go.World} {F : Nat → Prop} : ∀ {l : List Task} {xs : List T}, All2 TActs xs (l.map Task.acts) → ∀ {vs}, RelL w F vs (((xs.zip l).map ttT).flatMap T.cells) → RelL w F vs ((l.map Task.tt).flatMap T.cells)
 | [], xs, h, vs, hr => by cases h; exact hr
 | t :: l, xs, h, vs, hr => by
  cases h with
  | cons h1 h2 =>
   rename_i x xs
   rw [List.map_cons, List.flatMap_cons]
   change RelL w F vs (x :: T.int t.pos :: T.int t.state :: T.int t.last :: ((xs.zip l).map ttT).flatMap T.cells) at hr
   show RelL w F vs (T.Acts t.acts :: T.int t.pos :: T.int t.state :: T.int t.last :: (l.map Task.tt).flatMap T.cells)
   cases vs with
   | nil => cases hr
   | cons v vs =>
    have h3 := relActs h1 hr
    obtain ⟨h4, h5⟩ := h3.cons
    cases h5 with
    | v q1 h =>
     cases h with
     | v q2 h =>
      cases h with
      | v q3 h => exact RelL.cons' h4 (.v q1 (.v q2 (.v q3 (relTasks h2 h))))
theorem relTaskL {w : Go.World} {F : Nat → Prop} {l : List Task} {xs : List T} (hx : All2 TActs xs (l.map Task.acts)) {v : Value} (h : RelL w F [v] [.list 4 ((xs.zip l).map ttT)]) : RelL w F [v] [T.Tasks l] := by
 have hl : xs.length = l.length := by have := hx.len; rw [List.length_map] at this; exact this
 generalize hy : T.list 4 ((xs.zip l).map ttT) = y at h
 cases h with
 | v p1 p2 => cases hy
 | none h =>
  have e : (xs.zip l).length = 0 := by have := (T.list.inj hy).2; rw [List.map_eq_nil_iff] at this; rw [this]; rfl
  rw [List.length_zip] at e
  have : l = [] := List.eq_nil_of_length_eq_zero (by omega)
  subst this
  exact .none .nil
 | list p1 p2 p3 p4 p5 p6 h =>
  obtain ⟨rfl, rfl⟩ := T.list.inj hy
  have el : ((xs.zip l).map ttT).length = (l.map Task.tt).length := by rw [List.length_map, List.length_map, List.length_zip]; omega
  rw [el] at p5 ⊢
  exact .list p1 p2 p3 tasks_cells p5 (relTasks hx p6) .nil
theorem tellTaskL {w : Go.World} {F : Nat → Prop} {l : List Task} (hb : ∀ t, t ∈ l → ∀ b, b ∈ t.acts → flatC b) {v : Value} (h : RelL w F [v] [T.Tasks l]) : ∃ xs, All2 TActs xs (l.map Task.acts) ∧ RelL w F [v] [.list 4 ((xs.zip l).map ttT)] := by
 generalize hy : T.Tasks l = y at h
 cases h with
 | v p1 p2 => cases hy
 | none h =>
  have e : l = [] := by have := (T.list.inj hy).2; exact List.map_eq_nil_iff.1 this
  subst e
  exact ⟨[], .nil, .none .nil⟩
 | list p1 p2 p3 p4 p5 p6 h =>
  obtain ⟨rfl, rfl⟩ := T.list.inj hy
  obtain ⟨xs, g1, g2⟩ := tellTasks hb p6
  have hl : xs.length = l.length := by have := g1.len; rw [List.length_map] at this; exact this
  have el : (l.map Task.tt).length = ((xs.zip l).map ttT).length := by rw [List.length_map, List.length_map, List.length_zip]; omega
  refine ⟨xs, g1, ?_⟩
  rw [el] at p5 ⊢
  exact .list p1 p2 p3 ttT_cells p5 g2 .nil
theorem flat_good {w : World} (hg : goodWorld w = true) : ∀ t, t ∈ w.tasks → ∀ a, a ∈ t.acts → flatC a := by
 intro t ht a ha b hb
 have h9 := (gw_iff.1 hg).ts t ht
 unfold goodTask goodActs at h9
 simp only [Bool.and_eq_true, decide_eq_true_eq, List.all_eq_true] at h9
 have hga := h9.1.1 a ha
 unfold goodAct at hga
 split at hga
 ·simp only [Bool.and_eq_true, List.all_eq_true] at hga
  have := hga.1 b hb
  unfold caseAct plainAct at this
  simp only [Bool.and_eq_true, decide_eq_true_eq] at this
  grind [List.length_eq_zero_iff]
 ·unfold plainAct at hga
  simp only [Bool.and_eq_true, decide_eq_true_eq] at hga
  have : a.cases = [] := by grind [List.length_eq_zero_iff]
  rw [this] at hb; cases hb
section
variable {P : Program} {c : Ctx} {s : St} {Q : Exit → St → Prop}
theorem W_tellT {code : Code} {u j : Nat} {x : T} {cells : List D} {p : T → Prop} (hM : lookM s.M u = some (.box cells)) (hj : cells[j]? = some (.t x)) (h : ∀ {w : Go.World} {F : Nat → Prop} {v}, RelL w F [v] [x] → ∃ y, p y ∧ RelL w F [v] [y])
  (k : ∀ y, p y → W P c code ⟨s.fr, (u, .box (cells.set j (.t y))) :: s.M⟩ Q) : W P c code s Q := by
 rintro a w ⟨F, β, fb, mb, ow, hi⟩
 have hm := hi.mem u
 rw [hM] at hm
 obtain ⟨b, arr, e, bs, h1, h2, h3, h4, h5⟩ := hm
 have key : ∀ {vs : List Value} {ds : List D} {bs : List Nat} {j : Nat}, RelD w F β vs ds bs → vs.all (·.oneCell') = true → ds[j]? = some (.t x) → ∃ y, p y ∧ RelD w F β vs (ds.set j (.t y)) bs := by
  intro vs
  induction vs with
  | nil =>
   intro ds bs j hr _ hj
   have := hr.length
   cases ds with
   | nil => simp at hj
   | cons _ _ => simp at this
  | cons v vs ih =>
   intro ds bs j hr ho hj
   cases ds with
   | nil => simp at hj
   | cons d ds =>
    obtain ⟨b1, b2, g1, g2, rfl⟩ := hr.cons
    rw [List.all_cons, Bool.and_eq_true] at ho
    cases j with
    | zero =>
     simp at hj
     subst hj
     cases g1 with
     | t q1 q2 =>
      cases q2
      obtain ⟨y, hy1, hy2⟩ := h q1
      exact ⟨y, hy1, RelD.cons' (.t hy2 .done) g2⟩
     | tagg q1 q2 => simp [Value.oneCell'] at ho
    | succ j =>
     obtain ⟨y, hy1, hy2⟩ := ih g2 ho.2 (by simpa using hj)
     exact ⟨y, hy1, RelD.cons' g1 hy2⟩
 obtain ⟨y, hy1, hy2⟩ := key h3 h4 hj
 refine k y hy1 a w ⟨F, β, fb, mb, ow, { hi with mem := fun i => ?_ }⟩
 simp only [lookM]
 by_cases hid : u = i
 ·subst hid
  rw [if_pos rfl]
  exact ⟨b, arr, e, bs, by rw [List.length_set]; exact h1, h2, hy2, h4, h5⟩
 ·rw [if_neg hid]; exact hi.mem i
end
theorem doW_acts (w : World) (mv : List Int) : (doW w mv).tasks.map Task.acts = w.tasks.map Task.acts := by
 have a0 : ∀ (l : List Task) (i : Nat) (t u : Task), l[i]? = some u → t.acts = u.acts → (l.set i t).map Task.acts = l.map Task.acts := by
  intro l i t u h1 h2
  rw [List.map_set, h2]
  exact set_same (by rw [List.getElem?_map, h1]; rfl)
 have a1 : ∀ (w : World) (i : Int) (t : Task), t.acts = (tk w i).acts → (setT w i t).tasks.map Task.acts = w.tasks.map Task.acts := by
  intro w i t h
  show (w.tasks.set i.toNat t).map Task.acts = _
  by_cases h1 : i.toNat < w.tasks.length
  ·refine a0 _ _ _ _ (List.getElem?_eq_getElem h1) ?_
   rw [h]; unfold tk at0; rw [List.getElem?_eq_getElem h1]; rfl
  ·rw [List.set_eq_of_length_le (by omega)]
 have a2 : ∀ (w : World) (i : Int), (advW w i).tasks.map Task.acts = w.tasks.map Task.acts := fun w i => a1 w i _ rfl
 unfold doW
 split
 ·rw [a2]
 ·split
  ·exact a1 _ _ _ rfl
  ·split
   ·rw [a2]
   ·split
    ·rw [a2, a2]; exact a1 _ _ _ rfl
    ·split
     ·rw [a2]
     ·split
      ·rw [a2]; exact a1 _ _ _ rfl
      ·rw [a2]; exact a1 _ _ _ rfl
open Go.Eng
abbrev World.rd (w : World) : D := .agg [.t (T.ints w.room), .t (intss w.held), .t (T.bools w.shut), .t (T.Tasks w.tasks), .t (T.ints w.trace)]
open Go.Eng
theorem good_act {w : World} (hg : goodWorld w = true) {t : Task} (ht : t ∈ w.tasks) {a : Act} (ha : a ∈ t.acts) : a.cases.length ≤ 3 := by
 have h9 := (gw_iff.1 hg).ts t ht
 unfold goodTask goodActs at h9
 simp only [Bool.and_eq_true, decide_eq_true_eq, List.all_eq_true] at h9
 have hga := h9.1.1 a ha
 unfold goodAct at hga
 split at hga
 ·simp only [Bool.and_eq_true, decide_eq_true_eq] at hga
  grind
 ·unfold plainAct at hga
  simp only [Bool.and_eq_true, decide_eq_true_eq] at hga
  grind
theorem good_held {w : World} (hg : goodWorld w = true) {x : List Int} (hx : x ∈ w.held) : x.length ≤ 3 := by
 have h := gw_iff.1 hg
 obtain ⟨k, hk, rfl⟩ := List.getElem_of_mem hx
 have hl := h.held
 have h1 := (h.hs k hk (by omega)).1
 have e2 := h.rooms
 rw [allIn, List.all_eq_true] at e2
 have e3 := e2 _ (List.getElem_mem (l := w.room) (n := k) (by omega))
 simp only [decide_eq_true_eq] at e3
 omega
theorem ok_good {w : World} (hg : goodWorld w = true) {B : Nat} (hB : 1000 ≤ B) : w.ok B := by
 have h := gw_iff.1 hg
 have h3 := h.room
 have h4 := h.held
 have h5 := h.shut
 have h6 := h.tasks
 have h7 := h.trace
 refine ⟨?_, ⟨?_, fun x hx => ?_⟩, ?_, ⟨?_, fun t ht => ⟨⟨?_, fun a ha => .of ⟨?_, fun b hb => .of ?_⟩⟩, trivial⟩⟩, ?_, trivial⟩
 ·show w.room.length ≤ B; omega
 ·show w.held.length ≤ B; omega
 ·show x.length ≤ B; have := good_held hg hx; omega
 ·show w.shut.length ≤ B; omega
 ·show w.tasks.length ≤ B; omega
 ·have := ((good_of hg).pos t ht).2.2; omega
 ·have := good_act hg ht ha; omega
 ·rw [flat_good hg t ht a ha b hb]; exact ⟨Nat.zero_le _, fun c hc => by cases hc⟩
 ·show w.trace.length ≤ B; omega
theorem ok_world0 {B : Nat} : world0.ok B := ⟨Nat.zero_le _, ⟨Nat.zero_le _, fun x hx => by cases hx⟩, Nat.zero_le _, ⟨Nat.zero_le _, fun x hx => by cases hx⟩, Nat.zero_le _, trivial⟩
theorem goz_ok {w : World} (h : goodWorld w = true ∨ w = world0) {B : Nat} (hB : 1000 ≤ B) : w.ok B := by
 rcases h with h | rfl
 ·exact ok_good h hB
 ·exact ok_world0
open Go.Eng
abbrev T.ActLs (l : List (List (Act))) : T := .list 1 (l.map T.Acts)
open Go.Eng
def newT (l : List Act) : Task := ⟨l, 0, if l.length = 0 then 1 else 0, 0⟩
def newW (room : List Int) (acts : List (List Act)) : World := ⟨room, List.replicate room.length [], List.replicate room.length false, acts.map newT, []⟩
def nwR (room : List Int) (acts : List (List Act)) : World := if goodWorld (newW room acts) then newW room acts else world0
/-! Tasks whose acts are told. -/
abbrev CA := List (Act × List Value)
def okC (C : CA) : Prop := ∀ c, c ∈ C → c.2.length = 4
def nT (C : CA) : T := .agg [.list 4 (toldA C), T.int 0, T.int (newT (C.map (·.1))).state, T.int 0]
def vsC (CC : List CA) : List Value := CC.flatMap fun C => C.flatMap (·.2)
def usA (acts : List (List Act)) : List T := acts.flatMap fun l => (l.map Act.toT).flatMap T.cells
theorem acts_len (l : List Act) : ((l.map Act.toT).flatMap T.cells).length = l.length * 4 := by
 rw [flat_length (n := 4) (cellsA l), List.length_map]
theorem told_len {C : CA} (h : okC C) : (C.flatMap (·.2)).length = C.length * 4 := by
 induction C with
 | nil => rfl
 | cons c C ih =>
  rw [List.flatMap_cons, List.length_append, h c (by simp), ih (fun d hd => h d (by simp [hd])), List.length_cons]
  omega
theorem relNT1 {m : Go.World} {F : Nat → Prop} {C : CA} (h : okC C) {v : Value} (h1 : RelL m F [v] [.list 4 (toldA C)]) (h2 : RelL m F (C.flatMap (·.2)) (((C.map (·.1)).map Act.toT).flatMap T.cells)) : RelL m F [v] [T.Acts (C.map (·.1))] := by
 generalize hy : T.list 4 (toldA C) = y at h1
 cases h1 with
 | v p1 p2 => cases hy
 | none p =>
  have e : C = [] := by have := (T.list.inj hy).2; unfold toldA at this; exact List.map_eq_nil_iff.1 this
  subst e; exact .none .nil
 | list p1 p2 p3 p4 p5 p6 p7 =>
  obtain ⟨rfl, rfl⟩ := T.list.inj hy
  rw [toldA_flat] at p6
  have e := relL_told p6
  subst e
  have el : (toldA C).length = ((C.map (·.1)).map Act.toT).length := by rw [toldA_len, List.length_map, List.length_map]
  rw [el] at p5 ⊢
  exact .list p1 p2 p3 (cellsA _) p5 h2 .nil
theorem relNT {m : Go.World} {F : Nat → Prop} : ∀ {CC : List CA}, (∀ C, C ∈ CC → okC C) → ∀ {vs}, RelL m F vs ((CC.map nT).flatMap T.cells) → RelL m F (vsC CC) (usA (CC.map fun C => C.map (·.1))) →
  RelL m F vs ((((CC.map fun C => C.map (·.1)).map newT).map Task.tt).flatMap T.cells)
 | [], _, vs, h, _ => h
 | C :: CC, ho, vs, h, hr => by
  have hC := ho C (by simp)
  simp only [List.map_cons, List.flatMap_cons] at h ⊢
  simp only [vsC, usA, List.map_cons, List.flatMap_cons] at hr
  have hl : (C.flatMap (·.2)).length = (((C.map (·.1)).map Act.toT).flatMap T.cells).length := by rw [told_len hC, acts_len, List.length_map]
  have hr1 := hr.take (C.flatMap (·.2)).length
  have hr2 := relL_drop (C.flatMap (·.2)).length hr
  rw [List.take_left] at hr1
  rw [List.drop_left] at hr2
  rw [hl, List.take_left] at hr1
  rw [hl, List.drop_left] at hr2
  change RelL m F vs (.list 4 (toldA C) :: T.int 0 :: T.int (newT (C.map (·.1))).state :: T.int 0 :: (CC.map nT).flatMap T.cells) at h
  show RelL m F vs (T.Acts (C.map (·.1)) :: T.int 0 :: T.int (newT (C.map (·.1))).state :: T.int 0 :: _)
  cases vs with
  | nil => cases h
  | cons v vs =>
   obtain ⟨h0, h⟩ := h.cons
   cases h with
   | v q1 h =>
    cases h with
    | v q2 h =>
     cases h with
     | v q3 h => exact RelL.cons' (relNT1 hC h0 hr1) (.v q1 (.v q2 (.v q3 (relNT (fun D hD => ho D (by simp [hD])) h hr2))))
theorem relNW {m : Go.World} {F : Nat → Prop} {CC : List CA} (ho : ∀ C, C ∈ CC → okC C) {v : Value} (h : RelL m F [v] [.list 4 (CC.map nT)]) (hr : RelL m F (vsC CC) (usA (CC.map fun C => C.map (·.1)))) : RelL m F [v] [T.Tasks ((CC.map fun C => C.map (·.1)).map newT)] := by
 generalize hy : T.list 4 (CC.map nT) = y at h
 cases h with
 | v p1 p2 => cases hy
 | none p =>
  have e : CC = [] := List.map_eq_nil_iff.1 (T.list.inj hy).2
  subst e; exact .none .nil
 | list p1 p2 p3 p4 p5 p6 p7 =>
  obtain ⟨rfl, rfl⟩ := T.list.inj hy
  have el : (CC.map nT).length = (((CC.map fun C => C.map (·.1)).map newT).map Task.tt).length := by simp
  rw [el] at p5 ⊢
  exact .list p1 p2 p3 tasks_cells p5 (relNT ho p6 hr) .nil
theorem newW_big {room : List Int} {acts : List (List Act)} (h : 3 < room.length ∨ 4 < acts.length ∨ ∃ l, l ∈ acts ∧ 6 < l.length) : goodWorld (newW room acts) = false := by
 rw [Bool.eq_false_iff]
 intro hg
 have hw := gw_iff.1 hg
 rcases h with h | h | ⟨l, hl, h⟩
 ·have h1 : (room.length : Int) ≤ 3 := hw.room.2
  omega
 ·have h1 := hw.tasks.2
  have h2 : (newW room acts).tasks.length = acts.length := List.length_map _
  omega
 ·have := ((good_of hg).pos (newT l) (List.mem_map.2 ⟨l, hl, rfl⟩)).2.2
  have h3 : (newT l).acts = l := rfl
  rw [h3] at this
  omega
theorem idxActL_fun (l : List (List Act)) (p : List Act → Bool) (f : Nat) (caps : List D) (hcaps : caps.all D.imm = true) (hl : l.length ≤ 9223372036854775807) (hf : ∀ x, x ∈ l → Fun Try.prog f (.t (T.Acts x) :: caps) (.t (.bool (p x)))) : Fun Try.prog 100 [.t (T.ActLs l), .clo f caps] (tupD [.t (.int (idxGo p l 0))]) := by
 refine Fun.begin tys Try.func100 Z Z (N := 19) [(0, .t (T.ActLs l)), (1, .clo f caps)] Z Z (fun w0 G F0 => ?_)
 refine sQ (rG (eZ Z (oN (tN (sQ (sQ (rG (eZ Z (evE ?_)))))))))
 refine eZ Z (oN (tN (W_block ?_)))
 refine lK (α := Int) [0, 1, 7] [] (fun x => [(8, .t (.int x))]) (fun x => []) (fun x => 0 ≤ x ∧ x ≤ l.length ∧ idxGo p l 0 = idxGo p (l.drop x.toNat) x) (fun x => Int.toNat (l.length - x)) 0 ?_ (fun k hx => ?_)
 ·exact ⟨by omega, by omega, rfl⟩
 obtain ⟨hk0, hk1, hk2⟩ := hx
 refine nY Z (sQ (rG (eZ Z (oN (tN (sQ ?_))))))
 refine W_cond Z (fun h1 => ?_) (fun h1 => ?_)
 ·
  simp only [HS] at h1
  refine W_skip (tN (sQ (W_block (sQ (rG (eK 2 Z (oN (tN (sQ (rG (WO_moveClo tys Z Z (lt_of Z) Z Z (by assumption) ?_)))))))))))
  refine eK 2 Z (WO_idxT tys Z Z (lt_of Z) Z Z Z Z Z Z Z (by omega) _ (getT _ _ (by omega) (by omega)) (eZ Z ?_))
  refine WO_call Z Z (lt_of Z) Z Z (by repeat (first | exact ResL.done | exact ResL.imms (by first | rfl | assumption) | refine ResL.t ?_ | refine ResL.own ?_ | refine ResL.slA Z (by first | rfl | (simp; done) | (simp; omega)) ?_ | refine ResL.sl Z (by first | omega | (simp; done) | (simp; omega)) ?_ | refine ResL.rp ?_ | refine ResL.clo ?_ ?_ | refine ResL.aggT ?_ ?_ | refine ResL.ref Z ?_ ?_ | refine ResL.nil' ?_ | refine ResL.nil 1 ?_)) (hf _ (List.getElem_mem _)) Z ?_
  refine kZ [0,1,5,7,8,9,10,11,12,13,14,15,16] Z (oN (tN ?_))
  refine W_cond Z (fun h2 => ?_) (fun h2 => ?_)
  ·
   refine sQ (rG (eK 2 Z (oN (tN (rT (bR (tR (loopQ_r (bR (tR (eR ?_)))))))))))
   ·rw [hk2, idx_at hk0 h1]
    simp [h2]
    done
  refine W_skip (bN (tN (rG (evI ?_))))
  refine eZ Z (oN ?_)
  refine lQ _ ?_ ?_
  ·skip
   refine ⟨by omega, by omega, ?_⟩; rw [hk2, idx_at hk0 h1]; simp [h2]
  ·(show Int.toNat _ < Int.toNat _); omega
 simp only [HS] at h1
 refine W_exit (tE (loopQ_e (inBlk_y (tN (sQ (rG (eZ Z (oN (tN (rT (eR ?_)))))))))))
 ·rw [hk2, drop_end h1]
  rfl
theorem hasActL_fun (l : List (List Act)) (p : List Act → Bool) (f : Nat) (caps : List D) (hcaps : caps.all D.imm = true) (hl : l.length ≤ 9223372036854775807) (hf : ∀ x, x ∈ l → Fun Try.prog f (.t (T.Acts x) :: caps) (.t (.bool (p x)))) : Fun Try.prog 72 [.t (T.ActLs l), .clo f caps] (tupD [.t (.bool (l.any p))]) := by
 refine Fun.begin tys Try.func72 Z Z (N := 9) [(0, .t (T.ActLs l)), (1, .clo f caps)] Z Z (fun w0 G F0 => ?_)
 refine sQ (rG (eZ Z (oN (tN (sQ (rG (eZ Z (WO_moveClo tys Z Z (lt_of Z) Z Z (by assumption) ?_))))))))
 refine WO_call Z Z (lt_of Z) Z Z (by repeat (first | exact ResL.done | exact ResL.imms (by first | rfl | assumption) | refine ResL.t ?_ | refine ResL.own ?_ | refine ResL.slA Z (by first | rfl | (simp; done) | (simp; omega)) ?_ | refine ResL.sl Z (by first | omega | (simp; done) | (simp; omega)) ?_ | refine ResL.rp ?_ | refine ResL.clo ?_ ?_ | refine ResL.aggT ?_ ?_ | refine ResL.ref Z ?_ ?_ | refine ResL.nil' ?_ | refine ResL.nil 1 ?_)) (idxActL_fun l p f caps hcaps hl hf) Z ?_
 refine eK 2 Z (oN (tN (rT (eR ?_))))
 ·rw [← idxGo_any (Int.le_refl 0)]
theorem newWorld1_fun (l : List Act) (hl : l.length ≤ 9223372036854775807) : Fun Try.prog 73 [.t (T.Acts l)] (tupD [.t (.bool (decide ((6 : Int) < l.length)))]) := by
 refine Fun.begin tys Try.func73 Z Z (N := 6) [(0, .t (T.Acts l))] Z Z (fun w0 G F0 => ?_)
 refine sQ (rG (eZ Z (oN (tN (sQ (rG (eZ Z (evE ?_))))))))
 refine eK 2 Z (oN (tN (rT (eR ?_))))
 ·rfl
open Go.Eng
theorem ro_step {acts : List (List Act)} {CC : List CA} {C : CA} {l : List Act} {i : Int} (h0 : 0 ≤ i) (h1 : i < acts.length) (hl : l = acts[i.toNat]'(by omega)) :
  Blk.ro (vsC CC ++ C.flatMap (·.2)) (usA (acts.take i.toNat) ++ (l.map Act.toT).flatMap T.cells) = .ro (vsC (CC ++ [C])) (usA (acts.take (i + 1).toNat)) := by
 rw [take_at h0 h1, ← hl]
 simp [vsC, usA]
theorem ro_at {m : Go.World} {F : Nat → Prop} : ∀ {CC : List CA} {k : Nat} (hk : k < CC.length), (∀ C, C ∈ CC → okC C) → RelL m F (vsC CC) (usA (CC.map fun C => C.map (·.1))) → RelL m F (CC[k].flatMap (·.2)) (((CC[k].map (·.1)).map Act.toT).flatMap T.cells)
 | [], _, h, _, _ => by simp at h
 | C :: CC, k, hk, ho, hr => by
  have hC := ho C (by simp)
  simp only [vsC, usA, List.map_cons, List.flatMap_cons] at hr
  have hl : (C.flatMap (·.2)).length = (((C.map (·.1)).map Act.toT).flatMap T.cells).length := by rw [told_len hC, acts_len, List.length_map]
  have hr1 := hr.take (C.flatMap (·.2)).length
  have hr2 := relL_drop (C.flatMap (·.2)).length hr
  rw [List.take_left] at hr1
  rw [List.drop_left] at hr2
  rw [hl, List.take_left] at hr1
  rw [hl, List.drop_left] at hr2
  cases k with
  | zero => exact hr1
  | succ k => exact ro_at (CC := CC) (by simpa using hk) (fun D hD => ho D (by simp [hD])) hr2
theorem relNew {m : Go.World} {F : Nat → Prop} {CC : List CA} {room : List Int} {acts : List (List Act)} (ho : ∀ C, C ∈ CC → okC C) (hCC : CC.map (fun C => C.map (·.1)) = acts) {v0 v1 v2 v3 v4 : Value}
  (h : RelL m F [v0, v1, v2, v3, v4] [T.ints room, .list 1 (List.replicate room.length (.list 1 [])), .list 1 (List.replicate room.length (.v (.bool false))), .list 4 (CC.map nT), .list 1 []]) (hr : RelL m F (vsC CC) (usA acts)) :
  RelL m F [v0, v1, v2, v3, v4] [T.ints room, intss (newW room acts).held, T.bools (newW room acts).shut, T.Tasks (newW room acts).tasks, T.ints []] := by
 subst hCC
 obtain ⟨h0, h⟩ := h.cons
 obtain ⟨h1, h⟩ := h.cons
 obtain ⟨h2, h⟩ := h.cons
 obtain ⟨h3, h⟩ := h.cons
 have e1 : intss (newW room (CC.map fun C => C.map (·.1))).held = .list 1 (List.replicate room.length (.list 1 [])) := by
  show T.list 1 _ = _
  simp [newW, T.ints]
 have e2 : T.bools (newW room (CC.map fun C => C.map (·.1))).shut = .list 1 (List.replicate room.length (.v (.bool false))) := by
  show T.list 1 _ = _
  simp [newW]
 rw [e1, e2]
 exact RelL.cons' h0 (RelL.cons' h1 (RelL.cons' h2 (RelL.cons' (relNW ho h3 hr) h)))
theorem nw_no {room : List Int} {acts : List (List Act)} (h : goodWorld (newW room acts) = false) : [world0.dd, D.t (T.v (.bool false))] = [(nwR room acts).dd, D.t (T.bool (goodWorld (newW room acts)))] := by
 rw [nwR, h]; rfl
theorem nw_yes {room : List Int} {acts : List (List Act)} (h : goodWorld (newW room acts) = true) {R : List D} (hR : D.agg R = (newW room acts).dd) : [D.agg R, D.t (T.v (.bool true))] = [(nwR room acts).dd, D.t (T.bool (goodWorld (newW room acts)))] := by
 rw [nwR, h, hR]; rfl
theorem nw_dd {room : List Int} {acts : List (List Act)} {CC : List CA} (hCC : CC.map (fun C => C.map (·.1)) = acts) : D.agg [.own (T.ints room), .own (.list 1 (List.replicate room.length (.list 1 []))), .own (.list 1 (List.replicate room.length (.v (.bool false)))), .own (.list 4 (CC.map fun C => Task.tt (newT (C.map (·.1))))), .own (.list 1 [])] = (newW room acts).dd := by
 subst hCC
 simp [newW, T.ints]
theorem ok_new {B : Nat} {room : List Int} {acts : List (List Act)} (hr : room.length ≤ B) (ha : okL B (okL B (Act.ok B)) acts) : (newW room acts).ok B :=
 ⟨hr, ⟨by show (List.replicate _ _).length ≤ B; rw [List.length_replicate]; exact hr, fun x hx => by rw [List.eq_of_mem_replicate hx]; exact Nat.zero_le _⟩, by show (List.replicate _ _).length ≤ B; rw [List.length_replicate]; exact hr,
  ⟨by show (acts.map newT).length ≤ B; rw [List.length_map]; exact ha.1, fun t ht => by obtain ⟨l, hl, rfl⟩ := List.mem_map.1 ht; exact ⟨ha.2 l hl, trivial⟩⟩, Nat.zero_le _, trivial⟩
theorem newWorld_fun (room : List Int) (acts : List (List Act)) (hr : room.length ≤ 1048576) (ha : okL 1048576 (okL 1048576 (Act.ok 1048576)) acts) (ha' : okL 9223372036854775807 (okL 9223372036854775807 (Act.ok 9223372036854775807)) acts) : Fun Try.prog 32 [.t (T.ints room), .t (T.ActLs acts)] (tupD [(nwR room acts).dd, .t (.bool (goodWorld (newW room acts)))]) := by
  have hal : acts.length ≤ 1048576 := ha.1
  refine Fun.begin tys Try.func32 Z Z (N := 78) [(0, .t (T.ints room)), (1, .t (T.ActLs acts))] Z Z (fun w0 G F0 => ?_)
  refine sQ (rG (WO_alloc tys Z Z (lt_of Z) Z Z Z (nZ Z (eZ Z (oN (tN (sQ (sQ (rG (eZ Z (evE ?_)))))))))))
  refine eK 2 Z ?_
  refine WO_guard Z Z Z Z (lt_of Z) (fun h1 => ?_) (fun h1 => ?_)
  rotate_left
  ·
    simp only [HS] at h1
    refine gM Z (gM Z (eZ Z (kZ [0,1,4,5,18] Z (eZ Z (gM Z (gM Z (eZ Z (oN (tN (W_condT Z (sQ (rG (WO_struct tys Z Z (lt_of Z) Z Z Z (by kernel_rfl) Z Z Z Z Z Z (sT Z (nZ Z ?_)))))))))))))))
    refine eZ Z (oN (tN ?_))
    (first | (refine W_le (Le.nilBox (u := 4) (j := 0) 1 rfl rfl) ?_; refine W_norm rfl ?_; refine W_le (Le.nilBox (u := 4) (j := 1) 1 rfl rfl) ?_; refine W_norm rfl ?_; refine W_le (Le.nilBox (u := 4) (j := 2) 1 rfl rfl) ?_; refine W_norm rfl ?_; refine W_le (Le.nilBox (u := 4) (j := 3) 4 rfl rfl) ?_; refine W_norm rfl ?_; refine W_le (Le.nilBox (u := 4) (j := 4) 1 rfl rfl) ?_; refine W_norm rfl ?_) | skip)
    refine rT (tR (eR ?_))
    · first
      | exact nw_no (newW_big (.inl (by omega)))
  simp only [HS] at h1
  refine eZ Z (gY Z (evE ?_))
  refine gY Z (eZ Z (kZ [0,1,4,5,14,17] Z (eK 2 Z ?_)))
  refine WO_guard Z Z Z Z (lt_of Z) (fun h2 => ?_) (fun h2 => ?_)
  rotate_left
  ·
    simp only [HS] at h2
    refine gM Z (eZ Z (oN (tN (W_condT Z (sQ (rG (WO_struct tys Z Z (lt_of Z) Z Z Z (by kernel_rfl) Z Z Z Z Z Z (sT Z (nZ Z (eZ Z (oN (tN ?_))))))))))))
    (first | (refine W_le (Le.nilBox (u := 4) (j := 0) 1 rfl rfl) ?_; refine W_norm rfl ?_; refine W_le (Le.nilBox (u := 4) (j := 1) 1 rfl rfl) ?_; refine W_norm rfl ?_; refine W_le (Le.nilBox (u := 4) (j := 2) 1 rfl rfl) ?_; refine W_norm rfl ?_; refine W_le (Le.nilBox (u := 4) (j := 3) 4 rfl rfl) ?_; refine W_norm rfl ?_; refine W_le (Le.nilBox (u := 4) (j := 4) 1 rfl rfl) ?_; refine W_norm rfl ?_) | skip)
    refine rT (tR (eR ?_))
    · first
      | exact nw_no (newW_big (.inr (.inl (by omega))))
  simp only [HS] at h2
  refine eZ Z (gY Z (callB ?_))
  refine ⟨_, hasActL_fun acts (fun l => decide ((6 : Int) < l.length)) _ [] Z (by omega) (fun x hx => newWorld1_fun x (ha'.2 x hx).1), rfl, ?_⟩
  refine eZ Z (oN (tN ?_))
  refine W_cond Z (fun h3 => ?_) (fun h3 => ?_)
  ·
    refine sQ (rG (WO_struct tys Z Z (lt_of Z) Z Z Z (by kernel_rfl) Z Z Z Z Z Z (sT Z (nZ Z (eZ Z (oN (tN ?_)))))))
    (first | (refine W_le (Le.nilBox (u := 4) (j := 0) 1 rfl rfl) ?_; refine W_norm rfl ?_; refine W_le (Le.nilBox (u := 4) (j := 1) 1 rfl rfl) ?_; refine W_norm rfl ?_; refine W_le (Le.nilBox (u := 4) (j := 2) 1 rfl rfl) ?_; refine W_norm rfl ?_; refine W_le (Le.nilBox (u := 4) (j := 3) 4 rfl rfl) ?_; refine W_norm rfl ?_; refine W_le (Le.nilBox (u := 4) (j := 4) 1 rfl rfl) ?_; refine W_norm rfl ?_) | skip)
    refine rT (tR (eR ?_))
    · first
      | exact nw_no (newW_big (.inr (.inr (by obtain ⟨l, g1, g2⟩ := List.any_eq_true.1 h3; exact ⟨l, g1, by have := of_decide_eq_true g2; omega⟩))))
  refine W_skip (tN (sQ ?_))
  have hs1 : room.length ≤ 3 := by simp_all; omega
  have hs2 : acts.length ≤ 4 := by simp_all; omega
  refine W_regionGm 10 mixed Z (by kernel_rfl) (by kernel_rfl) (QG_ev tys Z Z (lt_of Z) Z (QG_norm Z (callBG ?_)))
  refine ⟨_, cloneI_fun room (by omega), rfl, ?_⟩
  refine QG_ev tys Z Z (lt_of Z) Z (QG_evE tys Z Z (lt_of Z) Z (by first | exact lenM | exact Z) ?_)
  refine QG_make tys (.list 1 []) _ Z Z (lt_of Z) Z Z Z Z Z (by repeat (first | exact AbsL.nil' | refine AbsL.v' ?_ | refine AbsL.none' ?_)) Z (by omega) (by decide) ?_
  refine QG_ev tys Z Z (lt_of Z) Z (QG_evE tys Z Z (lt_of Z) Z (by first | exact lenM | exact Z) ?_)
  refine QG_norm Z ?_
  refine QG_make tys (.v (.bool false)) _ Z Z (lt_of Z) Z Z Z Z Z (by repeat (first | exact AbsL.nil' | refine AbsL.v' ?_ | refine AbsL.none' ?_)) Z (by omega) (by decide) ?_
  refine QG_struct tys Z Z (lt_of Z) Z Z Z (by kernel_rfl) Z Z Z Z Z Z (QG_alloc tys Z Z (lt_of Z) Z Z Z Z (QG_nil ?_))
  refine ⟨by kernel_rfl, ?_⟩
  refine nZ Z (sT Z (nZ Z (oN (tN (sQ (sQ (nY Z (W_le (Le.nilBox (u := 6) (j := 3) 4 Z Z) (nY Z (W_le (Le.adoptBox (u := 6) (j := 3) (id := 192) Z Z Z) (nY Z (W_le (Le.roNil 101) (nY Z (rG (eZ Z ?_)))))))))))))))
  refine evE ?_
  refine eZ Z (oN (tN (W_block ?_)))
  refine lK (α := Int × Nat × List T × List CA) [1, 4, 6, 33, 34] [4] (fun x => [(35, .t (.int (x.1)))]) (fun x => [(6, .box [.own (T.ints room), .own (.list 1 (List.replicate room.length (.list 1 []))), .own (.list 1 (List.replicate room.length (.v (.bool false)))), .sl 192 0 (x.2.1), .nil]), (192, .L 4 (x.2.2.1)), (101, .ro (vsC (x.2.2.2)) (usA (acts.take (x.1).toNat)))]) (fun x => 0 ≤ (x.1) ∧ (x.1) ≤ acts.length ∧ (x.2.1) = (x.2.2.1).length ∧ (x.2.2.1) = (x.2.2.2).map nT ∧ (∀ C, C ∈ (x.2.2.2) → okC C) ∧ (x.2.2.2).map (fun C => C.map (·.1)) = acts.take (x.1).toNat) (fun x => Int.toNat (acts.length - (x.1))) (0, 0, [], []) ?_ (fun x hx => ?_)
  · exact ⟨by omega, by omega, rfl, rfl, (by simp), rfl⟩
  obtain ⟨i, m, ys, CC⟩ := x
  obtain ⟨hi0, hi1, hm, hys, hoC, hCC⟩ := hx
  dsimp only at hi0 hi1 hm hys hoC hCC ⊢
  refine nY Z (sQ (rG (eZ Z (oN (tN (sQ ?_))))))
  refine W_cond Z (fun h4 => ?_) (fun h4 => ?_)
  ·
    simp only [HS] at h4
    refine W_skip (tN (sQ (W_block (sQ ?_))))
    obtain ⟨l, hl⟩ : ∃ l, l = acts[i.toNat]'(by omega) := ⟨_, rfl⟩
    have hlo := ha.2 l (by rw [hl]; exact List.getElem_mem _)
    have hll : l.length ≤ 1048576 := hlo.1
    have hyl : ys.length = i.toNat := by have e := congrArg List.length hCC; rw [List.length_map, List.length_take] at e; rw [hys, List.length_map]; omega
    refine rG (WO_idxT tys Z Z (lt_of Z) Z Z Z Z Z Z Z (by omega) _ (getT _ _ (by omega) (by omega)) (eZ Z ?_))
    rw [← hl]
    refine eZ Z (oN (tN (sQ (rG (WO_struct tys Z Z (lt_of Z) Z Z Z (by kernel_rfl) Z Z Z Z Z Z (WO_alloc tys Z Z (lt_of Z) Z Z Z (nZ Z (sT Z (nZ Z (oN (tN (sQ (sQ (kY [1,4,6,8,9,33,34,35,36,37,38,39] Z (rG ?_)))))))))))))))
    refine eZ Z (evE ?_)
    refine eZ Z (oN (tN ?_))
    refine W_joinN (α := Int) [1, 4, 6, 8, 9, 33, 34, 35, 36, 37, 38, 39, 40, 41, 42] [4, 6, 101, 192] (fun x => []) (fun x => [(9, .box [.nil, .t (T.int 0), .t (T.int x), .t (T.int 0)])]) (fun x => x = (newT l).state) ?_ (fun st hx => ?_)
    ·
      refine W_cond Z (fun h5 => ?_) (fun h5 => ?_)
      ·
        simp only [HS] at h5
        refine rG (eZ Z (sT Z (nZ Z (oN ?_))))
        refine joinQ_n _ (by (try dsimp only); repeat (first | exact Sub.nil' | refine Sub.cons' rfl ?_)) (by (try dsimp only); repeat (first | exact SubM.nil' | refine SubM.cons' rfl ?_)) ?_
        unfold newT
        simp_all
        done
      simp only [HS] at h5
      refine W_skip ?_
      refine joinQ_n _ (by (try dsimp only); repeat (first | exact Sub.nil' | refine Sub.cons' rfl ?_)) (by (try dsimp only); repeat (first | exact SubM.nil' | refine SubM.cons' rfl ?_)) ?_
      unfold newT
      simp_all
      done
    have hst := hx
    refine tN (sQ (nY Z ?_))
    refine W_tellL (u := 8) 102 Z (fun vs hvs => ?_)
    obtain ⟨C, hC1, hC2, rfl⟩ := cutV (l := l) (vs := vs) (n := 4) (by rw [hvs, List.length_map])
    have hCl : C.length = l.length := by rw [← hC1, List.length_map]
    refine ⟨toldA C, toldA_flat C, by rw [toldA_len, List.length_map, hCl], fun y hy => (toldA_read hC2 y hy).1, ?_⟩
    refine nY Z (W_le (Le.roJoin 101 102 Z Z) (nY Z (W_le (Le.eqK (id := 101) Z (ro_step (CC := CC) hi0 (by omega) hl)) (nY Z (kY [1,4,6,8,9,33,34,35,36,37,38,39,40,41,42] Z (rG (eZ Z (callB ?_))))))))
    refine ⟨_, cloneAv_fun _ (by rw [toldA_len]; omega) (toldA_read hC2), rfl, ?_⟩
    refine eZ Z (sT Z (nZ Z (oN (tN (rG (eK 2 Z (WO_loadMove tys Z Z (lt_of Z) Z Z Z Z Z Z (nZ Z ?_))))))))
    refine WO_buildSlice tys [.agg [.list 4 (toldA C), T.int 0, T.int st, T.int 0]] Z Z (lt_of Z) Z Z Z Z Z (lt_of Z) (by repeat (first | exact PartsOk.nil' | refine PartsOk.cons' rfl (by repeat (first | exact AbsL.nil' | refine AbsL.v' ?_ | refine AbsL.own' ?_ | refine AbsL.none' ?_)) Z ?_)) (by first | exact List.nodup_nil | exact nodup1 _ | decide | exact nodupB_sound Z) Z (by decide) ?_
    refine nZ Z (WO_append tys Z Z (lt_of Z) Z Z Z Z Z (.own Z (by first | omega | (simp only [List.length_append]; omega))) Z (.own Z (by first | decide | omega)) (by decide) (by simp only [List.length_take, List.length_cons, List.length_nil]; omega) (by decide) Z ?_)
    refine nZ Z (kZ [1,4,6,8,9,33,34,35,36,37,38,39,40,41,42,44,45,46,47,48,49,50,51] Z (eZ Z (sT Z (nZ Z (oN (bN (tN (rG (evI ?_)))))))))
    refine eZ Z (oN ?_)
    refine lQ (_, _, _, CC ++ [C]) ?_ ?_
    · dsimp only
      subst hm
      refine ⟨by omega, by omega, by simp, ?_, ?_, ?_⟩
      · rw [List.take_length, hys, List.map_append, hst]
        show _ ++ [_] = _ ++ [nT C]
        rw [nT, hC1]
      · intro D hD
        rcases List.mem_append.1 hD with h | h
        · exact hoC D h
        · rw [List.mem_singleton] at h; subst h; exact hC2
      · rw [List.map_append, hCC, take_at hi0 (by omega), ← hl]
        show _ ++ [C.map (·.1)] = _
        rw [hC1]
    · (show Int.toNat _ < Int.toNat _); omega
  simp only [HS] at h4
  refine W_exit (tE (loopQ_e (inBlk_y (tN (sQ (sQ ?_))))))
  obtain rfl : i = acts.length := by omega
  rw [show ((acts.length : Int)).toNat = acts.length from by omega, List.take_length] at hCC ⊢
  subst hm hys
  refine W_le (Le.gatherBox (u := 6) (j := 3) (id := 192) Z Z Z (Nat.le_refl _) Z) (nY Z ?_)
  rw [List.take_length]
  refine W_le (Le.nilBox (u := 6) (j := 4) 1 Z Z) (nY Z (W_WO ?_))
  refine WO_exposeBox (u := 6) (idp := 140) (j := 0) Z Z Z (fun v0 => ?_)
  refine nZ Z ?_
  refine WO_exposeBox (u := 6) (idp := 141) (j := 1) Z Z Z (fun v1 => ?_)
  refine nZ Z ?_
  refine WO_exposeBox (u := 6) (idp := 142) (j := 2) Z Z Z (fun v2 => ?_)
  refine nZ Z ?_
  refine WO_exposeBox (u := 6) (idp := 143) (j := 3) Z Z Z (fun v3 => ?_)
  refine nZ Z ?_
  refine WO_exposeBox (u := 6) (idp := 144) (j := 4) Z Z Z (fun v4 => ?_)
  refine nZ Z (oN (rG (eZ Z (nZ Z (WO_callV Z Z (lt_of Z) Z Z (ViewL.told5 (i0 := 140) (i1 := 141) (i2 := 142) (i3 := 143) (i4 := 144) (idr := 101) Z Z Z Z Z Z (fun h1 h2 => relNew hoC hCC h1 h2)) (isWorld_fun (newW room acts) (ok_new (by omega) ha) (ok_new (by omega) ha')) Z (eZ Z (oN (tN ?_))))))))
  refine W_cond Z (fun h5 => ?_) (fun h5 => ?_)
  ·
    simp only [HS] at h5
    refine sQ (rG (WO_struct tys Z Z (lt_of Z) Z Z Z (by kernel_rfl) Z Z Z Z Z Z (sT Z (nZ Z (eZ Z (oN (tN ?_)))))))
    (first | (refine W_le (Le.nilBox (u := 4) (j := 0) 1 rfl rfl) ?_; refine W_norm rfl ?_; refine W_le (Le.nilBox (u := 4) (j := 1) 1 rfl rfl) ?_; refine W_norm rfl ?_; refine W_le (Le.nilBox (u := 4) (j := 2) 1 rfl rfl) ?_; refine W_norm rfl ?_; refine W_le (Le.nilBox (u := 4) (j := 3) 4 rfl rfl) ?_; refine W_norm rfl ?_; refine W_le (Le.nilBox (u := 4) (j := 4) 1 rfl rfl) ?_; refine W_norm rfl ?_) | skip)
    refine rT (tR (eR ?_))
    · first
      | exact nw_no (by assumption)
  simp only [HS] at h5
  refine W_skip (tN (sQ (sQ ?_)))
  have hg : goodWorld (newW room acts) = true := by simp_all
  refine nY Z (W_le (Le.claimBox (u := 6) (idp := 140) (j := 0) Z Z Z Z) (nY Z (W_le (Le.claimBox (u := 6) (idp := 141) (j := 1) Z Z Z Z) (nY Z (W_le (Le.claimBox (u := 6) (idp := 142) (j := 2) Z Z Z Z) (nY Z (W_le (Le.claimBox (u := 6) (idp := 143) (j := 3) Z Z Z Z) (nY Z (W_le (Le.claimBox (u := 6) (idp := 144) (j := 4) Z Z Z Z) (nY Z (W_le (Le.adoptBox (u := 6) (j := 3) (id := 193) Z Z Z) (nY Z ?_))))))))))))
  rw [show (List.map nT CC).length = CC.length from List.length_map _]
  have hcl : CC.length = acts.length := by rw [← hCC, List.length_map]
  refine rG (eK 2 Z (evE ?_))
  refine eZ Z (oN (tN (W_block ?_)))
  refine lK (α := Int × List T) [4, 6, 60] [4, 101] (fun x => [(61, .t (.int (x.1)))]) (fun x => [(6, .box [.own (T.ints room), .own (.list 1 (List.replicate room.length (.list 1 []))), .own (.list 1 (List.replicate room.length (.v (.bool false)))), .sl 193 0 CC.length, .own (.list 1 [])]), (193, .L 4 (x.2))]) (fun x => 0 ≤ (x.1) ∧ (x.1) ≤ CC.length ∧ (x.2) = (CC.take (x.1).toNat).map (fun C => Task.tt (newT (C.map (·.1)))) ++ (CC.map nT).drop (x.1).toNat) (fun x => Int.toNat (CC.length - (x.1))) (0, CC.map nT) ?_ (fun x hx => ?_)
  · exact ⟨by omega, by omega, rfl⟩
  obtain ⟨k, zs⟩ := x
  obtain ⟨hk0, hk1, hzs⟩ := hx
  dsimp only at hk0 hk1 hzs ⊢
  refine nY Z (sQ (rG (eZ Z (oN (tN (sQ ?_))))))
  refine W_cond Z (fun h6 => ?_) (fun h6 => ?_)
  ·
    simp only [HS] at h6
    refine W_skip (tN (sQ (W_block (sQ (rG (eK 2 Z (oN (tN ?_))))))))
    have hkC : k.toNat < CC.length := by omega
    obtain ⟨C, hC⟩ : ∃ C, C = CC[k.toNat]'hkC := ⟨_, rfl⟩
    have hCm : C ∈ CC := by rw [hC]; exact List.getElem_mem _
    have hCo := hoC C hCm
    have hzs2 : zs.length = CC.length := by rw [hzs]; simp; omega
    have hz : zs[k.toNat]? = some (nT C) := by
     have e := mixA_at (f := fun C : CA => Task.tt (newT (C.map (·.1)))) (l := CC) (ys := CC.map nT) (k := k.toNat) (by omega)
     rw [Nat.zero_add] at e
     rw [hzs, e, List.getElem?_map, List.getElem?_eq_getElem hkC, ← hC]; rfl
    refine nY Z ?_
    refine W_takeL (id := 193) (i := k.toNat) (off := 0) (z := nT C) (ys := toldA C) 107 Z hz Z Z Z (fun ad cp => ?_)
    refine nY Z (W_regionGm 10 mixed Z (by kernel_rfl) (by kernel_rfl) ?_)
    iterate 3 (refine QG_ev tys rfl rfl (lt_of rfl) rfl ?_)
    refine QG_norm Z ?_
    iterate 3 (refine QG_ev tys rfl rfl (lt_of rfl) rfl ?_)
    refine QG_idxS tys Z Z (lt_of Z) Z Z Z Z Z Z Z Z (by omega) (by omega) (QG_ev tys Z Z (lt_of Z) Z ?_)
    refine QG_loadL tys Z Z (lt_of Z) Z Z Z Z (by rw [Nat.zero_add]; exact List.getElem?_set_self (by omega)) Z ?_
    refine QG_norm Z (QG_callV Z Z (lt_of Z) Z Z (fun s' hs => ViewL.told1 (id := 107) (idr := 101) (y := T.Acts (C.map (·.1))) (hs _ _ Z) (hs _ _ Z) (fun h1 h2 => relNT1 hCo h1 (by have h3 := ro_at hkC hoC (by rw [hCC]; exact h2); rw [← hC] at h3; exact h3))) (cloneActs_fun (C.map (·.1)) (ha.2 _ (by rw [← hCC]; exact List.mem_map.2 ⟨C, hCm, rfl⟩))) Z ?_)
    refine QG_nil ?_
    refine ⟨by kernel_rfl, ?_⟩
    refine nZ Z (WO_idxS tys Z Z (lt_of Z) Z Z Z Z Z Z Z Z (by omega) (by omega) (eZ Z (nZ Z ?_)))
    refine WO_storeL tys [T.Acts (C.map (fun c : Act × List Value => c.1))] Z Z Z Z Z Z (by rw [Nat.zero_add]; exact List.getElem?_set_self (by omega)) Z (AbsL.own' AbsL.nil') Z (Nat.le_of_ble_eq_true Z) (Nat.le_of_ble_eq_true Z) ?_
    refine nZ Z (oN (bN (tN (rG (evI ?_)))))
    refine eZ Z (oN ?_)
    refine lQ (_, _) ?_ ?_
    · dsimp only
      rw [show (k + 1).toNat = k.toNat + 1 from by omega]
      refine ⟨by omega, by omega, ?_⟩
      rw [Nat.zero_add, List.set_set, hzs]
      have e := mixA_set (f := fun C : CA => Task.tt (newT (C.map (·.1)))) (l := CC) (ys := CC.map nT) (k := k.toNat) hkC (by rw [List.length_map]; exact hkC) rfl
      rw [Nat.zero_add] at e
      rw [← e, ← hC]
      rfl
    · (show Int.toNat _ < Int.toNat _); omega
  simp only [HS] at h6
  refine W_exit (tE (loopQ_e (inBlk_y (tN (sQ (nY Z (W_le (Le.gatherBox (u := 6) (j := 3) (id := 193) Z Z Z (by rw [hzs]; simp; omega) Z) ?_)))))))
  refine nY Z (rG (WO_loadMove tys Z Z (lt_of Z) Z Z Z Z Z Z (nZ Z (sT Z (nZ Z (eZ Z (oN (tN ?_))))))))
  (first | (refine W_le (Le.nilBox (u := 4) (j := 0) 1 rfl rfl) ?_; refine W_norm rfl ?_; refine W_le (Le.nilBox (u := 4) (j := 1) 1 rfl rfl) ?_; refine W_norm rfl ?_; refine W_le (Le.nilBox (u := 4) (j := 2) 1 rfl rfl) ?_; refine W_norm rfl ?_; refine W_le (Le.nilBox (u := 4) (j := 3) 4 rfl rfl) ?_; refine W_norm rfl ?_; refine W_le (Le.nilBox (u := 4) (j := 4) 1 rfl rfl) ?_; refine W_norm rfl ?_) | skip)
  refine rT (eR ?_)
  · first
    | (refine nw_yes hg ?_; rw [hzs, List.drop_eq_nil_of_le (by simp; omega), List.append_nil, take_end (by omega), List.take_of_length_le (by simp)]; exact nw_dd hCC)
open Go.Eng
def hT (p : Value × List Act) : T := .agg [.v p.1, T.int 0, T.int (newT p.2).state, T.int 0]
theorem relHT {m : Go.World} {F : Nat → Prop} : ∀ {hs : List Value} {acts : List (List Act)}, hs.length = acts.length → ∀ {vs}, RelL m F vs (((hs.zip acts).map hT).flatMap T.cells) → RelL m F hs (acts.map T.Acts) → RelL m F vs (((acts.map newT).map Task.tt).flatMap T.cells)
 | [], [], _, vs, h, _ => h
 | [], _ :: _, hl, _, _, _ => by simp at hl
 | _ :: _, [], hl, _, _, _ => by simp at hl
 | u :: hs, l :: acts, hl, vs, h, hr => by
  obtain ⟨h1, h2⟩ := hr.cons
  change RelL m F vs (.v u :: T.int 0 :: T.int (newT l).state :: T.int 0 :: ((hs.zip acts).map hT).flatMap T.cells) at h
  show RelL m F vs (T.Acts l :: T.int 0 :: T.int (newT l).state :: T.int 0 :: ((acts.map newT).map Task.tt).flatMap T.cells)
  cases vs with
  | nil => cases h
  | cons v vs =>
   obtain ⟨h0, h'⟩ := h.cons
   have e := relL_one h0
   clear h
   subst e
   cases h' with
   | v q1 h =>
    cases h with
    | v q2 h =>
     cases h with
     | v q3 h => exact RelL.cons' h1 (.v q1 (.v q2 (.v q3 (relHT (by simpa using hl) h h2))))
theorem relHTL {m : Go.World} {F : Nat → Prop} {hs : List Value} {acts : List (List Act)} (hl : hs.length = acts.length) {v : Value} (h : RelL m F [v] [.list 4 ((hs.zip acts).map hT)]) (hr : RelL m F hs (acts.map T.Acts)) : RelL m F [v] [T.Tasks (acts.map newT)] := by
 generalize hy : T.list 4 ((hs.zip acts).map hT) = y at h
 cases h with
 | v p1 p2 => cases hy
 | none p =>
  have e := List.map_eq_nil_iff.1 (T.list.inj hy).2
  have e2 := congrArg List.length e
  rw [List.length_zip, List.length_nil] at e2
  have : acts = [] := List.eq_nil_of_length_eq_zero (by omega)
  subst this; exact .none .nil
 | list p1 p2 p3 p4 p5 p6 p7 =>
  obtain ⟨rfl, rfl⟩ := T.list.inj hy
  have el : ((hs.zip acts).map hT).length = ((acts.map newT).map Task.tt).length := by simp; omega
  rw [el] at p5 ⊢
  exact .list p1 p2 p3 tasks_cells p5 (relHT hl p6 hr) .nil
theorem rd_new {room : List Int} {acts : List (List Act)} {R : T} (hR : R = T.Tasks (acts.map newT)) : [D.agg [.t (T.ints room), .t (.list 1 (List.replicate room.length (.list 1 []))), .t (.list 1 (List.replicate room.length (.v (.bool false)))), .t R, .t (.list 1 [])]] = [(newW room acts).rd] := by
 subst hR
 simp [newW, T.ints]
theorem l15New_fun (room : List Int) (acts : List (List Act)) (hr : room.length ≤ 1048576) (ha : okL 1048576 (okL 1048576 (Act.ok 1048576)) acts) : Fun Try.prog 45 [.t (T.ints room), .t (T.ActLs acts)] (tupD [(newW room acts).rd]) := by
 have hal : acts.length ≤ 1048576 := ha.1
 refine Fun.begin tys Try.func45 Z Z (N := 37) [(0, .t (T.ints room)), (1, .t (T.ActLs acts))] Z Z (fun w0 G F0 => ?_)
 refine sQ (rG (WO_alloc tys Z Z (lt_of Z) Z Z Z (nZ Z (oN (tN (sQ (W_regionGm 9 mixed Z (by kernel_rfl) (by kernel_rfl) (QG_ev tys Z Z (lt_of Z) Z (QG_ev tys Z Z (lt_of Z) Z (QG_evE tys Z Z (lt_of Z) Z (by first | exact lenM | exact Z) ?_))))))))))
 refine QG_make tys (.list 1 []) _ Z Z (lt_of Z) Z Z Z Z Z (by repeat (first | exact AbsL.nil' | refine AbsL.v' ?_ | refine AbsL.none' ?_)) Z (by omega) (by decide) ?_
 refine QG_ev tys Z Z (lt_of Z) Z (QG_norm Z (QG_evE tys Z Z (lt_of Z) Z (by first | exact lenM | exact Z) ?_))
 refine QG_make tys (.v (.bool false)) _ Z Z (lt_of Z) Z Z Z Z Z (by repeat (first | exact AbsL.nil' | refine AbsL.v' ?_ | refine AbsL.none' ?_)) Z (by omega) (by decide) ?_
 refine QG_struct tys Z Z (lt_of Z) Z Z Z (by kernel_rfl) Z Z Z Z Z Z (QG_alloc tys Z Z (lt_of Z) Z Z Z Z (QG_nil ?_))
 refine ⟨by kernel_rfl, ?_⟩
 refine nZ Z (sT Z (nZ Z (oN (tN (sQ (sQ (nY Z (W_le (Le.nilBox (u := 5) (j := 3) 4 Z Z) (nY Z (W_le (Le.adoptBox (u := 5) (j := 3) (id := 192) Z Z Z) (nY Z (W_le (Le.roNil 101) (nY Z (rG (eZ Z ?_)))))))))))))))
 refine evE ?_
 refine eZ Z (oN (tN (W_block ?_)))
 refine lK (α := Int × Nat × List T × List Value) [1, 4, 5, 17, 18] [4] (fun x => [(19, .t (.int (x.1)))]) (fun x => [(5, .box [.t (T.ints room), .own (.list 1 (List.replicate room.length (.list 1 []))), .own (.list 1 (List.replicate room.length (.v (.bool false)))), .sl 192 0 (x.2.1), .nil]), (192, .L 4 (x.2.2.1)), (101, .ro (x.2.2.2) ((acts.take (x.1).toNat).map T.Acts))]) (fun x => 0 ≤ (x.1) ∧ (x.1) ≤ acts.length ∧ (x.2.1) = (x.2.2.1).length ∧ (x.2.2.1) = ((x.2.2.2).zip (acts.take (x.1).toNat)).map hT ∧ ((x.2.2.2).length : Int) = (x.1)) (fun x => Int.toNat (acts.length - (x.1))) (0, 0, [], []) ?_ (fun x hx => ?_)
 ·exact ⟨by omega, by omega, rfl, rfl, rfl⟩
 obtain ⟨i, m, ys, hs⟩ := x
 obtain ⟨hi0, hi1, hm, hys, hhs⟩ := hx
 dsimp only at hi0 hi1 hm hys hhs ⊢
 refine nY Z (sQ (rG (eZ Z (oN (tN (sQ ?_))))))
 refine W_cond Z (fun h1 => ?_) (fun h1 => ?_)
 ·
  simp only [HS] at h1
  refine W_skip (tN (sQ (W_block (sQ ?_))))
  obtain ⟨l, hl⟩ : ∃ l, l = acts[i.toNat]'(by omega) := ⟨_, rfl⟩
  have hll : l.length ≤ 1048576 := (ha.2 l (by rw [hl]; exact List.getElem_mem _)).1
  have hyl : ys.length = i.toNat := by rw [hys, List.length_map, List.length_zip, List.length_take]; omega
  refine rG (WO_idxT tys Z Z (lt_of Z) Z Z Z Z Z Z Z (by omega) _ (getT _ _ (by omega) (by omega)) (eZ Z ?_))
  rw [← hl]
  refine eZ Z (oN (tN (sQ (nY Z ?_))))
  refine W_tellS (t := 7) 102 Z Z (fun ad cp => ?_)
  rw [List.length_map]
  refine nY Z (W_le (Le.roJoin 101 102 Z Z) (nY Z (W_le (Le.eqK (id := 101) (k' := .ro (hs ++ [.slice ad l.length cp]) ((acts.take (i + 1).toNat).map T.Acts)) Z (by rw [take_at hi0 (by omega), ← hl, List.map_append]; rfl)) ?_)))
  refine nY Z (rG (eZ Z (WO_struct tys Z Z (lt_of Z) Z Z Z (by kernel_rfl) Z Z Z Z Z Z (WO_alloc tys Z Z (lt_of Z) Z Z Z (nZ Z (sT Z (nZ Z (oN (tN (sQ (sQ (kY [1,4,5,7,8,17,18,19,20,21,22,23,24] Z (rG (eZ Z (WO_lenV Z Z (lt_of Z) Z ⟨86, by kernel_rfl⟩ rfl ?_)))))))))))))))
  refine eZ Z (oN (tN ?_))
  refine W_joinN (α := Int) [1, 4, 5, 7, 8, 17, 18, 19, 20, 21, 22, 23, 24, 25, 26, 27] [4, 5, 101, 192] (fun x => []) (fun x => [(8, .box [.t (.v (.slice ad l.length cp)), .t (T.int 0), .t (T.int x), .t (T.int 0)])]) (fun x => x = (newT l).state) ?_ (fun st hx => ?_)
  ·
   refine W_cond Z (fun h2 => ?_) (fun h2 => ?_)
   ·
    simp only [HS] at h2
    refine rG (eZ Z (sT Z (nZ Z (oN ?_))))
    refine joinQ_n _ (by (try dsimp only); repeat (first | exact Sub.nil' | refine Sub.cons' rfl ?_)) (by (try dsimp only); repeat (first | exact SubM.nil' | refine SubM.cons' rfl ?_)) ?_
    unfold newT
    simp_all
    done
   simp only [HS] at h2
   refine W_skip ?_
   refine joinQ_n _ (by (try dsimp only); repeat (first | exact Sub.nil' | refine Sub.cons' rfl ?_)) (by (try dsimp only); repeat (first | exact SubM.nil' | refine SubM.cons' rfl ?_)) ?_
   unfold newT
   simp_all
   done
  have hst := hx
  refine tN (kY [1,4,5,7,8,17,18,19,20,21,22,23,24,25,26,27] Z (rG (eK 3 Z ?_)))
  try refine WO_le (Le.freeze (u := 31) rfl) ?_
  refine nZ Z ?_
  refine WO_buildSlice tys [.agg [.v (.slice ad l.length cp), T.int 0, T.int st, T.int 0]] Z Z (lt_of Z) Z Z Z Z Z (lt_of Z) (by repeat (first | exact PartsOk.nil' | refine PartsOk.cons' rfl (by repeat (first | exact AbsL.nil' | refine AbsL.v' ?_ | refine AbsL.own' ?_ | refine AbsL.none' ?_)) Z ?_)) (by first | exact List.nodup_nil | exact nodup1 _ | decide | exact nodupB_sound Z) Z (by decide) ?_
  refine nZ Z (WO_append tys Z Z (lt_of Z) Z Z Z Z Z (.own Z (by first | omega | (simp only [List.length_append]; omega))) Z (.own Z (by first | decide | omega)) (by decide) (by simp only [List.length_take, List.length_cons, List.length_nil]; omega) (by decide) Z ?_)
  refine nZ Z (eZ Z (sT Z (nZ Z (oN (bN (tN (kY [1,4,5,7,8,17,18,19,20,21,22,23,24,25,26,27,29,30,31,32,33,34] Z (rG (evI ?_)))))))))
  refine eZ Z (oN ?_)
  refine lQ (_, _, _, _) ?_ ?_
  ·dsimp only
   subst hm
   refine ⟨by omega, by omega, by simp, ?_, by simp; omega⟩
   rw [List.take_length, hys, take_at hi0 (by omega), ← hl, List.zip_append (by rw [List.length_take]; omega), List.map_append, hst]
   rfl
  ·(show Int.toNat _ < Int.toNat _); omega
 simp only [HS] at h1
 refine W_exit (tE (loopQ_e (inBlk_y (tN (sQ ?_)))))
 obtain rfl : i = acts.length := by omega
 rw [show ((acts.length : Int)).toNat = acts.length from by omega, List.take_length] at hys ⊢
 subst hm hys
 refine W_le (Le.gatherBox (u := 5) (j := 3) (id := 192) Z Z Z (Nat.le_refl _) Z) (nY Z ?_)
 rw [List.take_length]
 refine W_le (Le.nilBox (u := 5) (j := 4) 1 Z Z) (nY Z (W_le (Le.freezeB (u := 5) Z Z) (nY Z (W_convB (u := 5) (j := 3) (idr := 101) (T.Tasks (acts.map newT)) Z Z Z (fun h1 h2 => relHTL (by omega) h1 h2) (nY Z (rG (eZ Z ?_)))))))
 try refine WO_le (Le.freeze (u := 36) rfl) ?_
 refine nZ Z (sT Z (nZ Z (oN (tN (rT (eR ?_))))))
 ·exact rd_new rfl
theorem nr_no {room : List Int} {acts : List (List Act)} (h : goodWorld (newW room acts) = false) : [world0.rd, D.t (T.v (.bool false))] = [(nwR room acts).rd, D.t (T.bool (goodWorld (newW room acts)))] := by
 rw [nwR, h]; rfl
theorem nr_yes {room : List Int} {acts : List (List Act)} (h : goodWorld (newW room acts) = true) : [(newW room acts).rd, D.t (T.v (.bool true))] = [(nwR room acts).rd, D.t (T.bool (goodWorld (newW room acts)))] := by
 rw [nwR, h]; rfl
theorem specNew_fun (room : List Int) (acts : List (List Act)) (hr : room.length ≤ 1048576) (ha : okL 1048576 (okL 1048576 (Act.ok 1048576)) acts) : Fun Try.prog 14 [.t (T.ints room), .t (T.ActLs acts)] (tupD [(nwR room acts).rd, .t (.bool (goodWorld (newW room acts)))]) := by
 refine Fun.begin tys Try.func14 Z Z (N := 16) [(0, .t (T.ints room)), (1, .t (T.ActLs acts))] Z Z (fun w0 G F0 => ?_)
 refine sQ (rG (WO_alloc tys Z Z (lt_of Z) Z Z Z (nZ Z (eZ Z (oN (tN (sQ (rG (eK 2 Z (WO_callF Z Z (lt_of Z) Z Z Z Z Z (l15New_fun room acts hr ha) Z (WO_alloc tys Z Z (lt_of Z) Z Z Z (nZ Z (sT Z (nZ Z (oN ?_)))))))))))))))
 refine tN (sQ (sQ (kY [4,5,6] Z (rG (eZ Z ?_)))))
 try refine WO_le (Le.freeze (u := 10) rfl) ?_
 refine nZ Z (callB ?_)
 refine ⟨_, specGoodWorld_fun (newW room acts) (ok_new hr ha), rfl, ?_⟩
 refine eZ Z (oN (tN ?_))
 refine W_cond Z (fun h1 => ?_) (fun h1 => ?_)
 ·
  simp only [HS] at h1
  refine sQ (rG (WO_struct tys Z Z (lt_of Z) Z Z Z (by kernel_rfl) Z Z Z Z Z Z (sT Z (nZ Z (eZ Z (oN (tN ?_)))))))
  (first | (refine W_le (Le.freezeB (u := 4) rfl rfl) ?_; refine W_norm rfl ?_; refine W_tellT (u := 4) (j := 3) (p := fun y => y = T.Tasks (newW room acts).tasks) rfl rfl (fun h => ⟨_, rfl, relTaskL hx h⟩) (fun y hy => ?_); subst hy; refine W_norm rfl ?_) | (refine W_le (Le.nilBox (u := 4) (j := 0) 1 rfl rfl) ?_; refine W_norm rfl ?_; refine W_le (Le.nilBox (u := 4) (j := 1) 1 rfl rfl) ?_; refine W_norm rfl ?_; refine W_le (Le.nilBox (u := 4) (j := 2) 1 rfl rfl) ?_; refine W_norm rfl ?_; refine W_le (Le.nilBox (u := 4) (j := 3) 4 rfl rfl) ?_; refine W_norm rfl ?_; refine W_le (Le.nilBox (u := 4) (j := 4) 1 rfl rfl) ?_; refine W_norm rfl ?_; refine W_le (Le.freezeB (u := 4) rfl rfl) ?_; refine W_norm rfl ?_))
  refine rT (tR (eR ?_))
  ·first
   | exact nr_no (by assumption)
 simp only [HS] at h1
 refine W_skip (tN (sQ ?_))
 have hg : goodWorld (newW room acts) = true := by simp_all
 refine nY Z ?_
 refine W_tellT (u := 6) (j := 3) (p := fun y => ∃ xs, All2 TActs xs ((newW room acts).tasks.map Task.acts) ∧ y = .list 4 ((xs.zip (newW room acts).tasks).map ttT)) rfl rfl (fun h => by obtain ⟨xs, h1, h2⟩ := tellTaskL (flat_good hg) h; exact ⟨_, ⟨xs, h1, rfl⟩, h2⟩) (fun y hy => ?_)
 obtain ⟨xs, hx, rfl⟩ := hy
 refine nY Z (rG (eZ Z ?_))
 try refine WO_le (Le.freeze (u := 14) rfl) ?_
 refine nZ Z (callB ?_)
 refine ⟨_, ownW_fun (newW room acts) xs (ok_new hr ha) hx, rfl, ?_⟩
 refine sT Z (nZ Z (eZ Z (oN (tN ?_))))
 (first | (refine W_le (Le.freezeB (u := 4) rfl rfl) ?_; refine W_norm rfl ?_; refine W_tellT (u := 4) (j := 3) (p := fun y => y = T.Tasks (newW room acts).tasks) rfl rfl (fun h => ⟨_, rfl, relTaskL hx h⟩) (fun y hy => ?_); subst hy; refine W_norm rfl ?_) | (refine W_le (Le.nilBox (u := 4) (j := 0) 1 rfl rfl) ?_; refine W_norm rfl ?_; refine W_le (Le.nilBox (u := 4) (j := 1) 1 rfl rfl) ?_; refine W_norm rfl ?_; refine W_le (Le.nilBox (u := 4) (j := 2) 1 rfl rfl) ?_; refine W_norm rfl ?_; refine W_le (Le.nilBox (u := 4) (j := 3) 4 rfl rfl) ?_; refine W_norm rfl ?_; refine W_le (Le.nilBox (u := 4) (j := 4) 1 rfl rfl) ?_; refine W_norm rfl ?_; refine W_le (Le.freezeB (u := 4) rfl rfl) ?_; refine W_norm rfl ?_))
 refine rT (eR ?_)
 ·first
  | exact nr_yes hg
theorem implNew_fun (room : List Int) (acts : List (List Act)) (hr : room.length ≤ 1048576) (ha : okL 1048576 (okL 1048576 (Act.ok 1048576)) acts) (ha' : okL 9223372036854775807 (okL 9223372036854775807 (Act.ok 9223372036854775807)) acts) : Fun Try.prog 13 [.t (T.ints room), .t (T.ActLs acts)] (tupD [(nwR room acts).dd, .t (.bool (goodWorld (newW room acts)))]) := by
 refine Fun.begin tys Try.func13 Z Z (N := 11) [(0, .t (T.ints room)), (1, .t (T.ActLs acts))] Z Z (fun w0 G F0 => ?_)
 refine sQ (rG (WO_alloc tys Z Z (lt_of Z) Z Z Z (nZ Z (eZ Z (oN (tN (sQ (rG (eK 2 Z (callB ?_))))))))))
 refine ⟨_, newWorld_fun room acts hr ha ha', rfl, ?_⟩
 refine WO_extract Z Z (lt_of Z) Z Z Z Z ?_
 first | refine WO_le (Le.adoptE (u := 9) 9 rfl (by first | exact lenN | exact rfl)) ?_ | skip
 refine nZ Z (WO_evF tys Z Z (lt_of Z) (d := .t _) Z (nZ Z (sT Z (nZ Z (eZ Z (kZ [4,5] Z (oN (tN (rT (eR ?_))))))))))
 ·rfl
theorem nwR_good (room : List Int) (acts : List (List Act)) : goodWorld (nwR room acts) = true ∨ nwR room acts = world0 := by
 unfold nwR
 split
 ·rename_i h; exact .inl h
 ·exact .inr rfl
end Go.Proofs.Ytpgodgmgfhbngaa
