/- Walks and laws of the claim. -/
import Derived.Test.YtkllmdolplcklaaNc
import Derived.Test.YtkllmdolplcklaaMe
import Derived.Test.YtkllmdolplcklaaFa
set_option linter.unusedVariables false
set_option linter.unusedSimpArgs false
set_option maxRecDepth 10000
set_option maxHeartbeats 4000000
namespace Go.Proofs.Ytkllmdolplcklaa
open Go.Eng
open Go.Eng
section
variable {hdr : List (Option Addr × Nat)} {xs : List T} {W1 : World} {I : Int} {i : Nat} {h : Option Addr × Nat} {x : T} {t1 t2 : Task}
theorem zipX (hc : (hdr.zip (xs.zip W1.tasks))[i]? = some (h, x, t1)) : (hdr.zip (xs.zip W1.tasks)).set i (h, x, t2) = hdr.zip (xs.zip (W1.tasks.set i t2)) := by
 rw [CO hc]
 have h2 : (xs.zip W1.tasks)[i]? = some (x, t1) := by
  have := (List.getElem?_zip_eq_some.1 hc).2
  exact this
 rw [CO h2]
theorem GI (hie : i = I.toNat) (hc : (hdr.zip (xs.zip W1.tasks))[i]? = some (h, x, t1)) (ht : tk W1 I = t1) : (hdr.zip (xs.zip W1.tasks)).set i (h, x, advT t1) = hdr.zip (xs.zip (advW W1 I).tasks) := by
 rw [zipX hc, hie, ← ht]; rfl
theorem Ln (hie : i = I.toNat) (hc : (hdr.zip (xs.zip W1.tasks))[i]? = some (h, x, t1)) : (hdr.zip (xs.zip W1.tasks)).set i (h, x, t2) = hdr.zip (xs.zip (setT W1 I t2).tasks) := by
 rw [zipX hc, hie]; rfl
theorem Iv (hie : i = I.toNat) (h0 : 0 ≤ I) (h1 : I < W1.tasks.length) (hc : (hdr.zip (xs.zip W1.tasks))[i]? = some (h, x, t1)) : ((hdr.zip (xs.zip W1.tasks)).set i (h, x, t2)).set i (h, x, advT t2) = hdr.zip (xs.zip (advW (setT W1 I t2) I).tasks) := by
 rw [Nr, zipX hc]
 have e1 : tk (setT W1 I t2) I = t2 := (B5 h0 h1 h0).trans (if_pos rfl)
 show _ = hdr.zip (xs.zip ((W1.tasks.set I.toNat _).set I.toNat (advT (tk _ _))));rw [e1, Nr, hie]
theorem Lm {J n : Int} {j : Nat} {hj : Option Addr × Nat} {y : T} {u : Task} (hie : i = I.toNat) (hje : j = J.toNat) (h0 : 0 ≤ I) (h1 : I < W1.tasks.length) (j0 : 0 ≤ J) (j1 : J < W1.tasks.length) (hIJ : ¬ I = J) (hcj : (hdr.zip (xs.zip W1.tasks))[j]? = some (hj, y, u)) (hc : (hdr.zip (xs.zip W1.tasks))[i]? = some (h, x, t1)) (htI : tk W1 I = t1) :
  (((hdr.zip (xs.zip W1.tasks)).set j (hj, y, { u with last := n })).set j (hj, y, advT { u with last := n })).set i (h, x, advT t1) = hdr.zip (xs.zip (advW (advW (setT W1 J { u with last := n }) J) I).tasks) := by
 have hij : ¬ j = i := by omega
 have l1 : ∀ (w : World) (i : Int) (t : Task), (setT w i t).tasks.length = w.tasks.length := fun w i t => Ns
 have e1 : tk (setT W1 J { u with last := n }) J = { u with last := n } := (B5 j0 j1 j0).trans (if_pos rfl)
 have e2 : tk (advW (setT W1 J { u with last := n }) J) I = t1 := by
  rw [advW, B5 j0 (by rw [l1]; exact j1) h0, if_neg hIJ, B5 j0 j1 h0, if_neg hIJ]; exact htI
 have hc' : (hdr.zip (xs.zip (W1.tasks.set j (advT { u with last := n }))))[i]? = some (h, x, t1) := by
  rw [← zipX hcj, List.getElem?_set_ne hij]; exact hc
 rw [Nr, zipX hcj, zipX (W1 := { W1 with tasks := W1.tasks.set j (advT { u with last := n }) }) hc'];show _ = hdr.zip (xs.zip ((((W1.tasks.set J.toNat _).set J.toNat (advT (tk (setT W1 J { u with last := n }) J)))).set I.toNat (advT (tk (advW (setT W1 J { u with last := n }) J) I))));rw [e1, e2, Nr, hie, hje]
end
abbrev rdW (w : World) (xs : List T) : D := .agg [.t (T.ints w.room), .t (Af w.held), .t (T.bools w.shut), .t (.list 4 ((xs.zip w.tasks).map ttT)), .t (T.ints w.trace)]
theorem FP {w : World} {xs : List T} {R H S Tr : List T} {b c : Bool} (h1 : R = w.room.map T.int) (h2 : H = w.held.map T.ints) (h3 : S = w.shut.map T.bool) (h4 : Tr = w.trace.map T.int) (h5 : b = c) :
  [D.agg [.own (.list 1 R), .own (.list 1 H), .own (.list 1 S), .own (.list 4 ((xs.zip w.tasks).map ttT)), .own (.list 1 Tr)], D.t (T.v (.bool b))] = [ddW w xs, D.t (T.bool c)] := by
 rw [h1, h2, h3, h4, h5]; rfl
theorem Ey {b sz : Nat} {C : List TX} {hdr : List (Option Addr × Nat)} {l : List (T × Task)} (hl : hdr.length = l.length) (h : C = hdr.zip l) : Blk.raw b sz (xcsW C) (xcsT C) = rb false b sz (xcsW (hdr.zip l)) ((l.map ttT).flatMap T.cells) := by
 rw [h, GH hl]; rfl
theorem doW_eq (w : World) (mv : List Int) : doW w mv = if (Ax w mv).kind = 3 then advW { w with trace := w.trace ++ [(tk w (at0 0 mv 0)).last] } (at0 0 mv 0)
 else if ((Ax w mv).kind = 5 ∨ (Ax w mv).kind = 1) ∧ at0 false w.shut (Ax w mv).chan = true then setT w (at0 0 mv 0) { tk w (at0 0 mv 0) with state := 2 }
 else if (Ax w mv).kind = 5 then advW { w with shut := w.shut.set (Ax w mv).chan.toNat true } (at0 0 mv 0)
 else if (Ax w mv).kind = 1 ∧ 0 ≤ at0 0 mv 2 then advW (advW (setT w (at0 0 mv 2) { tk w (at0 0 mv 2) with last := (Ax w mv).n }) (at0 0 mv 2)) (at0 0 mv 0)
 else if (Ax w mv).kind = 1 then advW { w with held := w.held.set (Ax w mv).chan.toNat (at0 [] w.held (Ax w mv).chan ++ [(Ax w mv).n]) } (at0 0 mv 0)
 else if 0 < (at0 [] w.held (Ax w mv).chan).length then
  advW { setT w (at0 0 mv 0) { tk w (at0 0 mv 0) with last := at0 0 (at0 [] w.held (Ax w mv).chan) 0 } with held := w.held.set (Ax w mv).chan.toNat ((at0 [] w.held (Ax w mv).chan).drop 1) } (at0 0 mv 0)
 else advW (setT w (at0 0 mv 0) { tk w (at0 0 mv 0) with last := 0 }) (at0 0 mv 0) := rfl
theorem KZ {xs : List T} {l : List Task} (h : All2 CN xs (l.map Task.acts)) {p : T × Task} (hp : p ∈ xs.zip l) : CN p.1 p.2.acts := by
 obtain ⟨i, hi, rfl⟩ := List.getElem_of_mem hp
 rw [OH] at hi
 have h1 := h.at (i := i) (by omega) (by rw [Nj]; omega)
 rw [List.getElem_map] at h1;rw [List.getElem_zip];exact h1
theorem F6 (w : World) (xs : List T) (mv : List Int) (hg : AC w = true) (hm : Ll w mv) (hw : w.ok 1048576) (hx : All2 CN xs (w.tasks.map Task.acts)) : Fun Try.prog 35 [.t (ttW w xs), .t (T.ints mv)] (tupD [ddW (doW w mv) xs, .t (.bool (GA w mv))]) := by
  have hgo := good_of hg
  have hgw := gw_iff.1 hg
  have hi0 := hm.i0
  have hi1 := hm.i1
  have hml := hm.len
  have hmi : mv[(0 : Int).toNat]'(by rw [hml]; decide) = at0 0 mv 0 := (AL (l := mv) (by omega) (by omega)).symm
  have hmk : mv[(1 : Int).toNat]'(by rw [hml]; decide) = at0 0 mv 1 := (AL (l := mv) (by omega) (by omega)).symm
  have hmj : mv[(2 : Int).toNat]'(by rw [hml]; decide) = at0 0 mv 2 := (AL (l := mv) (by omega) (by omega)).symm
  have hk0 := hm.k0
  have hxl : xs.length = w.tasks.length := by have := hx.len; rw [Nj] at this; exact this
  have hzz : (xs.zip w.tasks).length = w.tasks.length := by rw [OH]; omega
  obtain ⟨i, hie⟩ : ∃ i, i = (at0 0 mv 0).toNat := ⟨_, rfl⟩
  have hit : i < w.tasks.length := by omega
  obtain ⟨t, ht⟩ : ∃ t, t = w.tasks[i]'hit := ⟨_, rfl⟩
  have htI : tk w (at0 0 mv 0) = t := by rw [tk, AL hi0 hi1, ht]; simp only [hie]
  have htm : t ∈ w.tasks := by rw [ht]; exact Nl _
  have hk1 : at0 0 mv 1 < (ways t).length := by have := hm.k1; rw [htI] at this; exact this
  obtain ⟨A, hA⟩ : ∃ A, A = (ways t)[(at0 0 mv 1).toNat]'(by omega) := ⟨_, rfl⟩
  have hAo : Ax w mv = A := by rw [Ax, htI, AL hk0 hk1, hA]
  have hAw : A ∈ ways t := by rw [hA]; exact Nl _
  obtain ⟨hAk, ⟨hAc0, hAc1⟩, hAn, hts, htp⟩ := CY hg htm hAw
  have hpp := hgo.pos _ htm
  have htr := hgw.trace
  have hheld := hgw.held
  have hshut := hgw.shut
  have hrm := hgw.room
  have htl := hgw.tasks
  have hta : t.acts.length ≤ 6 := hpp.2.2
  have hwl := (hgo.ways t htm).1
  have hsc : at0 false w.shut A.chan = w.shut[A.chan.toNat]'(by omega) := AL hAc0 (by omega)
  have hhc : at0 [] w.held A.chan = w.held[A.chan.toNat]'(by omega) := AL hAc0 (by omega)
  obtain ⟨hl, hle⟩ : ∃ hl, hl = w.held[A.chan.toNat]'(by omega) := ⟨_, rfl⟩
  have hz : (w.held.map T.ints)[A.chan.toNat]? = some (T.ints hl) := by rw [hle, List.getElem?_map, List.getElem?_eq_getElem (by omega)]; rfl
  have hlx : hl.length ≤ 3 := by
   have e1 := Ie hgw hAc0 hAc1
   rw [hhc, ← hle] at e1
   have e2 := hgw.rooms
   rw [BD, Np] at e2
   have e3 := e2 _ (Nl (l := w.room) (n := A.chan.toNat) (by omega))
   rw [AL hAc0 hAc1] at e1;simp only [decide_eq_true_eq] at e3;omega
  have hset : (w.held.map T.ints).set A.chan.toNat (T.ints hl) = w.held.map T.ints := D4 hz
  have hdW := doW_eq w mv
  rw [hAo, hsc, hhc, ← hle, htI] at hdW;refine Fun.begin tys Try.func35 Z Z (N := 143) [(0, .t (ttW w xs)), (1, .t (T.ints mv))] Z Z (fun w0 G F0 => ?_);refine sG (Aa Z Z (AA Z) Z Z (nZ Z (AK tys Z Z (AA Z) Z Z Z (nZ Z (eZ Z (nA (eZ Z ?_)))))))
  try refine WO_le (Le.freeze (u := 11) rfl) ?_
  refine nZ Z (AQ ?_);refine ⟨_, Gd w xs hw hx, rfl, ?_⟩;refine AK tys Z Z (AA Z) Z Z Z (nZ Z (sT Z (nZ Z (nB (sQ (W_le (Le.adoptBox (u := 6) (j := 1) (id := 104) Z Z Z) (nY Z (W_le (Le.adoptBox (u := 6) (j := 2) (id := 105) Z Z Z) (nY Z (W_le (Le.adoptBox (u := 6) (j := 4) (id := 106) Z Z Z) (nY Z (W_WO ?_))))))))))));refine BV (u := 6) (idp := 133) (j := 3) Z Z Z (fun v => ?_);refine nZ Z ?_;refine Ec (id := 133) (j := 0) (id2 := 101) (n := 4) (u := v) (xs := (xs.zip w.tasks).map ttT) Z Z Z Z Z (fun e ad bt cap ws hu hb he hlc hcm hn => ?_)
  obtain rfl : e = false := by
   cases e with
   | false => rfl
   | true =>
    have := congrArg List.length (he rfl)
    rw [Nj, hzz, N6] at this;omega
  obtain rfl : ad = some ⟨bt, 0, none⟩ := hb rfl
  subst hu;refine nZ Z ?_;refine Jh (id := 101) Z (fun _ _ => Ko (fun p hp => KZ hx hp)) (fun htc => ?_)
  obtain ⟨hdr, hh, rfl⟩ := htc
  rw [hzz] at hh;refine WO_le (Le.eqK (id := 101) (k' := .raw bt (cap * 4) (xcsW (hdr.zip (xs.zip w.tasks))) (xcsT (hdr.zip (xs.zip w.tasks)))) Z (by rw [← GH (hh.trans hzz.symm)])) ?_;refine nZ Z ?_
  have hlc' : w.tasks.length ≤ cap := by rw [Nj, hzz] at hlc; exact hlc
  rw [Nj, hzz];refine oN ?_
  obtain ⟨h, hh1⟩ : ∃ h, h = hdr[i]'(by omega) := ⟨_, rfl⟩
  obtain ⟨x, hx1⟩ : ∃ x, x = xs[i]'(by omega) := ⟨_, rfl⟩
  have hxa : CN x t.acts := by
   have := hx.at (i := i) (by omega) (by rw [Nj]; omega)
   rw [List.getElem_map, ← ht, ← hx1] at this;exact this
  have hc : (hdr.zip (xs.zip w.tasks))[i]? = some (h, x, t) := by rw [hh1, hx1, ht, Cv (by omega) (by omega)]; simp
  refine kY [1,4,5,6] Z (AV Ac (by kernel_rfl) (evQ ?_));refine evQ ?_;refine evQ ?_;refine AP tys Z Z (AA Z) Z Z Z Z Z Z Z (by omega) _ (CM _ _ (by omega) (by omega)) (evQ ?_);rw [hmi];refine FZ tys Z Z (AA Z) Z Z Z Z Z Z (by omega) (by omega) (AH Z (evQ ?_));refine Aj (tN (sQ ?_));rw [← hie];refine nY Z (Ea Ac ?_);refine LU 8 [.t (T.int A.kind), .t (T.int A.chan), .t (T.int A.n), .top] [19, 20, 21, 22, 23, 24, 25, 26, 27, 8] [(7, .rp t.tt 0), (1, .t (T.ints mv))] (by kernel_rfl) ⟨ViewL.rawP (id := 101) (n := 4) t.tt Z (fun hr => M4 hxa (by rw [xcsT, LM (fun _ => rfl) hc] at hr; exact hr)), ViewL.of (.t .done), trivial⟩ rfl Z (fun w1 => ?_) ?_
  ·
    refine WR_Gm 10 Z (by kernel_rfl) (by kernel_rfl) (QG_ev tys Z Z (AA Z) Z (B3 rfl Z (AA Z) Z Z Z (QG_ev tys Z Z (AA Z) Z (Jm Z Z (AA Z) Z Z Z Z Z (Dp t hpp.1 hpp.2.1) Z (QG_ev tys Z Z (AA Z) Z (BW Z (C3 tys Z Z (AA Z) Z Z Z Z Z Z Z (by omega) _ (CM _ _ (by omega) (by omega)) (QG_ev tys Z Z (AA Z) Z ?_))))))));rw [hmk];refine C3 tys Z Z (AA Z) Z Z Z Z Z Z Z (by omega) _ (Az _ (by omega) (by omega)) ?_;rw [← hA];refine QG_ev tys Z Z (AA Z) Z (DY tys Z Z (AA Z) Z Z Z Z (AF ?_));refine ⟨by kernel_rfl, ?_⟩;refine nZ Z (sT Z (nZ Z (oN ?_)));exact ⟨rfl, rfl, _, rfl, rfl⟩
  refine tN (sQ (nY Z ?_));refine Dv (id := 104) (i := A.chan.toNat) (off := 0) 107 Z hz Z Z Z (fun ad9 cp9 => ?_);refine nY Z (rG (eK 4 Z (BE tys Z Z (AA Z) Z Z Z Z Z Z Z Z hAc0 (by first | (rw [Nj]; omega) | (rw [Ns, Nj]; omega)) ?_)));refine Bl tys Z Z (AA Z) Z Z Z Z (by rw [N5]; exact List.getElem?_set_self (by rw [Nj]; omega)) Z ?_;refine eZ Z (nB (sQ (AG (sQ (kY [1,4,5,6,7,8,9] Z (rG (eK 4 Z (nB ?_))))))));refine AD Z (fun h1 => ?_) (fun h1 => ?_)
  ·
    simp only [HS] at h1;refine nY Z (W_le (Le.gatherBox (u := 6) (j := 4) (id := 106) Z Z Z (Nm _) Z) (nY Z ?_));rw [if_pos (by assumption)] at hdW
    have hC1 := hc
    have hp1 : 0 ≤ t.pos ∧ t.pos ≤ 1048576 := by omega
    have hl1 : t.acts.length ≤ 1048576 := by omega
    have hfin : (hdr.zip (xs.zip w.tasks)).set i (h, x, advT t) = hdr.zip (xs.zip (doW w mv).tasks) := by rw [hdW]; exact GI (W1 := { w with trace := w.trace ++ [t.last] }) hie hc htI
    refine Ar [[], [], [6], [6], [6], [6], [6], [], [], []] Ac (by kernel_rfl) (AZ (QG_ev tys Z Z (AA Z) Z (AF (Ed tys Z Z (AA Z) Z Z Z Z Z Z (A9 (QG_ev tys Z Z (AA Z) Z (AF (A9 (B3 rfl Z (AA Z) Z Z Z (AF (AY Z (A9 (H9 tys Z Z (AA Z) Z Z Z Z Z (AF (A9 ?_)))))))))))))));refine Jl (id := 101) (u := .int .i64 t.last) tys Z Z (AA Z) Z Z Z Z Z (Dc hc (by decide)) (Ix hc (by decide)) (AF (A9 ?_));refine BC tys [T.int t.last] Z Z (AA Z) Z Z Z Z Z (AA Z) (by repeat (first | exact PartsOk.nil' | refine PartsOk.cons' rfl (by repeat (first | exact AbsL.nil' | refine AbsL.v' ?_ | refine AbsL.own' ?_ | refine AbsL.none' ?_)) Z ?_)) Z Z Z (by decide) ?_;refine AF (AZ (B7 tys Z Z (AA Z) Z Z Z Z Z Z Z Z Z ((fun x hx => by rw [OE] at hx; subst hx; exact ⟨rfl, fun z hz => ⟨_, by simpa [T.cells] using hz⟩⟩)) (by simp; omega) (by decide) Z ?_));refine AF (AY Z (AZ (QG_ev tys Z Z (AA Z) Z (AF (Fb tys Z Z Z Z Z Z Z Z Z (N3 Z) (Av ?_))))));refine ⟨by kernel_rfl, ?_⟩;refine nZ Z (oN (bN (tN (sQ (W_le (Le.roNil 99) (nY Z (rG (eZ Z ?_))))))));refine cP [101] (hm := (Dr bt (cap * 4) i _ h x _ hC1 hp1 hl1)) (k := ?_);refine nZ Z (nB (sQ (nY Z ?_)))
    (refine W_le (Le.putBack (id := 104) (idq := 107) (i := A.chan.toNat) (off := 0) (T.ints hl) rfl rfl (List.getElem?_set_self (by rw [Nj]; omega)) rfl rfl rfl) ?_; refine W_norm rfl ?_)
    refine W_le (Le.adoptBox (u := 6) (j := 0) (id := 108) Z Z Z) (nY Z (W_le (Le.adoptBox (u := 6) (j := 4) (id := 109) Z Z Z) (nY Z (Ar [[], [4], [4], [4], [4], [], []] Ac (by kernel_rfl) (AZ (QG_ev tys Z Z (AA Z) Z (AF (A9 (QG_ev tys Z Z (AA Z) Z (AF (A9 (QG_ev tys Z Z (AA Z) Z (AF (A9 (De tys Z Z (AA Z) Z (by first | exact KQ | exact Z) ?_)))))))))))))));refine AF (AY Z (A9 (QG_ev tys Z Z (AA Z) Z (AF (Bm tys 10005 Z Z Z Z Z Z Z Z Z (N3 Z) (AZ (QG_ev tys Z Z (AA Z) Z (AF (Av ?_)))))))));refine ⟨by kernel_rfl, ?_⟩;refine nZ Z (nB (W_le (Le.gatherBox (u := 4) (j := 0) (id := 108) Z Z Z (by first | exact Nm _ | simp) Z) ?_));refine nY Z ?_
    (refine W_le (Le.gatherBox (u := 4) (j := 1) (id := 104) rfl rfl rfl (by first | exact Nm _ | simp) rfl) ?_; refine W_norm rfl ?_)
    (refine W_le (Le.gatherBox (u := 4) (j := 2) (id := 105) rfl rfl rfl (by first | exact Nm _ | simp) rfl) ?_; refine W_norm rfl ?_)
    (refine W_le (Le.gatherBox (u := 4) (j := 4) (id := 109) rfl rfl rfl (by first | exact Nm _ | simp) rfl) ?_; refine W_norm rfl ?_)
    refine W_le (Le.eqK (id := 101) (k' := rb false bt (cap * 4) (xcsW (hdr.zip (xs.zip (doW w mv).tasks))) (((xs.zip (doW w mv).tasks).map ttT).flatMap T.cells)) Z (Ey (by rw [OH, Bo]; omega) hfin)) ?_;refine nY Z (W_le (Le.implode (id := 133) (id2 := 101) (j := 0) (n := 4) (e := false) (b := bt) (cap := cap) (ad := some ⟨bt, 0, none⟩) (len := w.tasks.length) (u := .slice (some ⟨bt, 0, none⟩) w.tasks.length cap) (ws := xcsW (hdr.zip (xs.zip (doW w mv).tasks))) (ys := (xs.zip (doW w mv).tasks).map ttT) Z Z Z Z Z Z (fun _ => rfl) (fun h => by cases h) (by rw [Nj, OH, Bo]; omega) hlc' hcm ttT_cells Z) ?_);refine nY Z (W_le (Le.claimBox (u := 4) (idp := 133) (j := 3) Z Z Z Z) (nY Z (rT (eR ?_))))
    · refine FP ?_ ?_ ?_ ?_ ?_
      all_goals try unfold GA
      all_goals rw [hdW]
      all_goals first | rfl | (simp [advW, setT, Nr, hset, Nv, Ni]; done) | (simp [advW, setT]; omega) | (simp [advW, setT]; exact decide_eq_true (by omega)) | (simp [advW, setT]; exact decide_eq_decide.2 (by omega))
  simp only [HS] at h1;refine sQ ?_;refine BM (α := Bool) [1, 4, 5, 6, 7, 8, 9] [4, 6, 8, 101, 104, 105, 106, 107, 133] (fun x => [(50, .t (.bool x))]) (fun x => []) (fun x => x = decide ((A.kind = 5 ∨ A.kind = 1) ∧ w.shut[A.chan.toNat]'(by omega) = true)) ?_ (fun bb hx => ?_)
  ·
    refine rG (eK 4 Z ?_);refine gB (fun h2 => ?_) (fun h2 => ?_)
    ·
      simp only [HS] at h2;refine xZ Z (kZ [1,4,5,6,7,8,9,54,56] Z (xK 7 Z (gY Z (BE tys Z Z (AA Z) Z Z Z Z Z Z Z Z hAc0 (by first | (rw [Nj]; omega) | (rw [Ns, Nj]; omega)) ?_))));refine gY Z (Bl tys Z Z (AA Z) Z Z Z Z (Ig _ _ (by omega) (by omega)) Z (kZ [1,4,5,6,7,8,9,59,65] Z (eK 2 Z (oN (jQ _ ?_)))));exact (by simp_all)
    simp only [HS] at h2;refine xK 2 Z (kZ [1,4,5,6,7,8,9,54,56] Z (xK 3 Z ?_));refine gB (fun h3 => ?_) (fun h3 => ?_)
    ·
      simp only [HS] at h3;refine xK 6 Z (kZ [1,4,5,6,7,8,9,66] Z (eZ Z (oN (jQ _ ?_))));exact (by simp_all)
    simp only [HS] at h3;refine xK 4 Z (gY Z (BE tys Z Z (AA Z) Z Z Z Z Z Z Z Z hAc0 (by first | (rw [Nj]; omega) | (rw [Ns, Nj]; omega)) ?_));refine gY Z (Bl tys Z Z (AA Z) Z Z Z Z (Ig _ _ (by omega) (by omega)) Z (kZ [1,4,5,6,7,8,9,59,65] Z (eK 2 Z (oN (jQ _ ?_)))));exact (by simp_all)
  have hbb := hx
  refine tN ?_;refine AD Z (fun h2 => ?_) (fun h2 => ?_)
  ·
    refine sQ (nY Z ?_)
    have hcd := of_decide_eq_true (hbb.symm.trans (by assumption))
    rw [if_neg (by assumption), if_pos hcd] at hdW
    have hfin : (hdr.zip (xs.zip w.tasks)).set i (h, x, { t with state := 2 }) = hdr.zip (xs.zip (doW w mv).tasks) := by rw [hdW]; exact Ln (W1 := w) hie hc
    refine kY [4,5,6,7] Z (rG (eZ Z (A6 rfl Z (AA Z) Z Z Z (Au tys Z Z (AA Z) Z Z Z Z Z (A5 (id := 101) (u0 := .int .i64 t.state) (u := .int .i64 2) tys Z Z Z Z Z Z Z (Dc hc (by decide)) Z Z Z (nZ Z (WO_le (Le.eqK (id := 101) Z (Fp (c' := (h, x, { t with state := 2 })) hc (by decide) Z Z)) (nZ Z (nB (sQ (nY Z ?_)))))))))))
    (refine W_le (Le.putBack (id := 104) (idq := 107) (i := A.chan.toNat) (off := 0) (T.ints hl) rfl rfl (List.getElem?_set_self (by rw [Nj]; omega)) rfl rfl rfl) ?_; refine W_norm rfl ?_)
    refine W_le (Le.adoptBox (u := 6) (j := 0) (id := 108) Z Z Z) (nY Z ?_)
    skip
    refine rG (eZ Z ?_)
    try refine WO_le (Le.freeze (u := 70) rfl) ?_
    refine nZ Z (sT Z (nZ Z (eZ Z (nB (W_le (Le.gatherBox (u := 4) (j := 0) (id := 108) Z Z Z (by first | exact Nm _ | simp) Z) ?_)))));refine nY Z ?_
    (refine W_le (Le.gatherBox (u := 4) (j := 1) (id := 104) rfl rfl rfl (by first | exact Nm _ | simp) rfl) ?_; refine W_norm rfl ?_)
    (refine W_le (Le.gatherBox (u := 4) (j := 2) (id := 105) rfl rfl rfl (by first | exact Nm _ | simp) rfl) ?_; refine W_norm rfl ?_)
    (refine W_le (Le.gatherBox (u := 4) (j := 4) (id := 106) rfl rfl rfl (by first | exact Nm _ | simp) rfl) ?_; refine W_norm rfl ?_)
    refine W_le (Le.eqK (id := 101) (k' := rb false bt (cap * 4) (xcsW (hdr.zip (xs.zip (doW w mv).tasks))) (((xs.zip (doW w mv).tasks).map ttT).flatMap T.cells)) Z (Ey (by rw [OH, Bo]; omega) hfin)) ?_;refine nY Z (W_le (Le.implode (id := 133) (id2 := 101) (j := 0) (n := 4) (e := false) (b := bt) (cap := cap) (ad := some ⟨bt, 0, none⟩) (len := w.tasks.length) (u := .slice (some ⟨bt, 0, none⟩) w.tasks.length cap) (ws := xcsW (hdr.zip (xs.zip (doW w mv).tasks))) (ys := (xs.zip (doW w mv).tasks).map ttT) Z Z Z Z Z Z (fun _ => rfl) (fun h => by cases h) (by rw [Nj, OH, Bo]; omega) hlc' hcm ttT_cells Z) ?_);refine nY Z (W_le (Le.claimBox (u := 4) (idp := 133) (j := 3) Z Z Z Z) (nY Z (rT (bR (tR (eR ?_))))))
    · refine FP ?_ ?_ ?_ ?_ ?_
      all_goals try unfold GA
      all_goals rw [hdW]
      all_goals first | rfl | (simp [advW, setT, Nr, hset, Nv, Ni]; done) | (simp [advW, setT]; omega) | (simp [advW, setT]; exact decide_eq_true (by omega)) | (simp [advW, setT]; exact decide_eq_decide.2 (by omega))
  refine sQ (nY Z ?_)
  have hcd := of_decide_eq_false (hbb.symm.trans (by assumption))
  rw [if_neg (by assumption), if_neg hcd] at hdW;refine kY [1,4,5,6,7,8,9] Z (rG (eK 4 Z (nB ?_)));refine AD Z (fun h3 => ?_) (fun h3 => ?_)
  ·
    simp only [HS] at h3;refine nY Z ?_;rw [if_pos (by assumption)] at hdW
    have hC1 := hc
    have hp1 : 0 ≤ t.pos ∧ t.pos ≤ 1048576 := by omega
    have hl1 : t.acts.length ≤ 1048576 := by omega
    have hfin : (hdr.zip (xs.zip w.tasks)).set i (h, x, advT t) = hdr.zip (xs.zip (doW w mv).tasks) := by rw [hdW]; exact GI (W1 := { w with shut := w.shut.set A.chan.toNat true }) hie hc htI
    refine rG (eK 4 Z (BE tys Z Z (AA Z) Z Z Z Z Z Z Z Z hAc0 (by first | (rw [Nj]; omega) | (rw [Ns, Nj]; omega)) ?_));refine kZ [4,5,6,7,79] Z (B2 tys (T.bool true) Z Z Z Z Z Z (N5 _) (by rw [Nj]; omega) Z (AbsL.v' AbsL.nil') Z Z Z ?_);refine nZ Z (oN (bN (tN (sQ (W_le (Le.roNil 99) (nY Z (rG (eZ Z ?_))))))));refine cP [101] (hm := (Dr bt (cap * 4) i _ h x _ hC1 hp1 hl1)) (k := ?_);refine nZ Z (nB (sQ (nY Z ?_)))
    (refine W_le (Le.putBack (id := 104) (idq := 107) (i := A.chan.toNat) (off := 0) (T.ints hl) rfl rfl (List.getElem?_set_self (by rw [Nj]; omega)) rfl rfl rfl) ?_; refine W_norm rfl ?_)
    refine W_le (Le.adoptBox (u := 6) (j := 0) (id := 108) Z Z Z) (nY Z ?_)
    skip
    refine Ar [[], [4], [4], [4], [4], [], []] Ac (by kernel_rfl) (AZ (QG_ev tys Z Z (AA Z) Z (AF (A9 (QG_ev tys Z Z (AA Z) Z (AF (A9 (QG_ev tys Z Z (AA Z) Z (AF (A9 (De tys Z Z (AA Z) Z (by first | exact KQ | exact Z) ?_)))))))))));refine AF (AY Z (A9 (QG_ev tys Z Z (AA Z) Z (AF (Bm tys 10005 Z Z Z Z Z Z Z Z Z (N3 Z) (AZ (QG_ev tys Z Z (AA Z) Z (AF (Av ?_)))))))));refine ⟨by kernel_rfl, ?_⟩;refine nZ Z (nB (W_le (Le.gatherBox (u := 4) (j := 0) (id := 108) Z Z Z (by first | exact Nm _ | simp) Z) ?_));refine nY Z ?_
    (refine W_le (Le.gatherBox (u := 4) (j := 1) (id := 104) rfl rfl rfl (by first | exact Nm _ | simp) rfl) ?_; refine W_norm rfl ?_)
    (refine W_le (Le.gatherBox (u := 4) (j := 2) (id := 105) rfl rfl rfl (by first | exact Nm _ | simp) rfl) ?_; refine W_norm rfl ?_)
    (refine W_le (Le.gatherBox (u := 4) (j := 4) (id := 106) rfl rfl rfl (by first | exact Nm _ | simp) rfl) ?_; refine W_norm rfl ?_)
    refine W_le (Le.eqK (id := 101) (k' := rb false bt (cap * 4) (xcsW (hdr.zip (xs.zip (doW w mv).tasks))) (((xs.zip (doW w mv).tasks).map ttT).flatMap T.cells)) Z (Ey (by rw [OH, Bo]; omega) hfin)) ?_;refine nY Z (W_le (Le.implode (id := 133) (id2 := 101) (j := 0) (n := 4) (e := false) (b := bt) (cap := cap) (ad := some ⟨bt, 0, none⟩) (len := w.tasks.length) (u := .slice (some ⟨bt, 0, none⟩) w.tasks.length cap) (ws := xcsW (hdr.zip (xs.zip (doW w mv).tasks))) (ys := (xs.zip (doW w mv).tasks).map ttT) Z Z Z Z Z Z (fun _ => rfl) (fun h => by cases h) (by rw [Nj, OH, Bo]; omega) hlc' hcm ttT_cells Z) ?_);refine nY Z (W_le (Le.claimBox (u := 4) (idp := 133) (j := 3) Z Z Z Z) (nY Z (rT (eR ?_))))
    · refine FP ?_ ?_ ?_ ?_ ?_
      all_goals try unfold GA
      all_goals rw [hdW]
      all_goals first | rfl | (simp [advW, setT, Nr, hset, Nv, Ni]; done) | (simp [advW, setT]; omega) | (simp [advW, setT]; exact decide_eq_true (by omega)) | (simp [advW, setT]; exact decide_eq_decide.2 (by omega))
  simp only [HS] at h3;refine sQ ?_;refine BM (α := Bool) [1, 4, 5, 6, 7, 8, 9] [4, 6, 8, 101, 104, 105, 106, 107, 133] (fun x => [(80, .t (.bool x))]) (fun x => []) (fun x => x = decide (A.kind = 1 ∧ 0 ≤ at0 0 mv 2)) ?_ (fun bb hx => ?_)
  ·
    refine rG (eK 4 Z ?_);refine gB (fun h4 => ?_) (fun h4 => ?_)
    ·
      simp only [HS] at h4;refine xZ Z (kZ [1,4,5,6,7,8,9,84,86] Z (xK 4 Z (oN (jQ _ ?_))));exact (by simp_all)
    simp only [HS] at h4;refine eZ Z (gY Z ?_);refine iY (k := ?_);refine kZ [1,4,5,6,7,8,9,84,86] Z (xK 4 Z (oN (jQ _ ?_)));exact (by simp_all)
  have hbb := hx
  refine tN ?_;refine AD Z (fun h4 => ?_) (fun h4 => ?_)
  ·
    refine sQ (nY Z ?_)
    have hcd := of_decide_eq_true (hbb.symm.trans (by assumption))
    obtain ⟨hk1', hJ0⟩ := hcd
    obtain ⟨⟨_, hJ1⟩, hIJ, hJw⟩ := hm.j.resolve_left (by omega)
    obtain ⟨j, hje⟩ : ∃ j, j = (at0 0 mv 2).toNat := ⟨_, rfl⟩
    have hjt : j < w.tasks.length := by omega
    have hij : ¬ j = i := by omega
    obtain ⟨u, hu⟩ : ∃ u, u = w.tasks[j]'hjt := ⟨_, rfl⟩
    obtain ⟨hj, hhj⟩ : ∃ hj, hj = hdr[j]'(by omega) := ⟨_, rfl⟩
    obtain ⟨y, hy1⟩ : ∃ y, y = xs[j]'(by omega) := ⟨_, rfl⟩
    have hcj : (hdr.zip (xs.zip w.tasks))[j]? = some (hj, y, u) := by rw [hhj, hy1, hu, Cv (by omega) (by omega)]; simp
    have hum : u ∈ w.tasks := by rw [hu]; exact Nl _
    have huJ : tk w (at0 0 mv 2) = u := by rw [tk, AL hJ0 hJ1, hu]; simp only [hje]
    have hup := hgo.pos _ hum
    have hus : u.state = 0 := Classical.byContradiction fun hx => by rw [huJ] at hJw; unfold ways at hJw; rw [if_neg hx] at hJw; simp at hJw
    have hup1 := hup.2.1 hus
    rw [if_neg (by omega), if_pos ⟨hk1', hJ0⟩, huJ] at hdW
    have hC2 : ((hdr.zip (xs.zip w.tasks)).set j (hj, y, { u with last := A.n }))[j]? = some (hj, y, { u with last := A.n }) := Iw hcj
    have hp2 : 0 ≤ u.pos ∧ u.pos ≤ 1048576 := by omega
    have hl2 : u.acts.length ≤ 1048576 := by omega
    have hp1 : 0 ≤ t.pos ∧ t.pos ≤ 1048576 := by omega
    have hl1 : t.acts.length ≤ 1048576 := by omega
    have hC1 : (((hdr.zip (xs.zip w.tasks)).set j (hj, y, { u with last := A.n })).set j (hj, y, advT { u with last := A.n }))[i]? = some (h, x, t) := by rw [List.getElem?_set_ne hij, List.getElem?_set_ne hij]; exact hc
    have hfin : (((hdr.zip (xs.zip w.tasks)).set j (hj, y, { u with last := A.n })).set j (hj, y, advT { u with last := A.n })).set i (h, x, advT t) = hdr.zip (xs.zip (doW w mv).tasks) := by rw [hdW]; exact Lm hie hje hi0 hi1 hJ0 hJ1 hIJ hcj hc htI
    refine kY [1,4,5,6,7,8] Z (AV Ac (by kernel_rfl) (evQ ?_));refine evQ ?_;refine evQ ?_;refine AP tys Z Z (AA Z) Z Z Z Z Z Z Z (by omega) _ (CM _ _ (by omega) (by omega)) (evQ ?_);rw [hmj];refine FZ tys Z Z (AA Z) Z Z Z Z Z Z (by omega) (by omega) (AH Z (evQ ?_));refine Aj (tN (sQ (nY Z ?_)));rw [← hje];refine rG (eK 3 Z (A6 rfl Z (AA Z) Z Z Z (Au tys Z Z (AA Z) Z Z Z Z Z (A5 (id := 101) (u0 := .int .i64 u.last) (u := .int .i64 A.n) tys Z Z Z Z Z Z Z (Dc hcj (by decide)) Z Z Z (nZ Z (WO_le (Le.eqK (id := 101) Z (Fp (c' := (hj, y, { u with last := A.n })) hcj (by decide) Z Z)) (nZ Z (nB (W_le (Le.roNil 99) (nY Z (kY [4,5,6,7,10] Z (rG (eZ Z ?_)))))))))))));refine cP [101] (hm := (Dr bt (cap * 4) j _ hj y _ hC2 hp2 hl2)) (k := ?_);refine nZ Z (oN (bN (tN (sQ (W_le (Le.roNil 99) (nY Z (rG (eZ Z ?_))))))));refine cP [101] (hm := (Dr bt (cap * 4) i _ h x _ hC1 hp1 hl1)) (k := ?_);refine nZ Z (nB (sQ (nY Z ?_)))
    (refine W_le (Le.putBack (id := 104) (idq := 107) (i := A.chan.toNat) (off := 0) (T.ints hl) rfl rfl (List.getElem?_set_self (by rw [Nj]; omega)) rfl rfl rfl) ?_; refine W_norm rfl ?_)
    refine W_le (Le.adoptBox (u := 6) (j := 0) (id := 108) Z Z Z) (nY Z ?_)
    skip
    refine Ar [[], [4], [4], [4], [4], [], []] Ac (by kernel_rfl) (AZ (QG_ev tys Z Z (AA Z) Z (AF (A9 (QG_ev tys Z Z (AA Z) Z (AF (A9 (QG_ev tys Z Z (AA Z) Z (AF (A9 (De tys Z Z (AA Z) Z (by first | exact KQ | exact Z) ?_)))))))))));refine AF (AY Z (A9 (QG_ev tys Z Z (AA Z) Z (AF (Bm tys 10005 Z Z Z Z Z Z Z Z Z (N3 Z) (AZ (QG_ev tys Z Z (AA Z) Z (AF (Av ?_)))))))));refine ⟨by kernel_rfl, ?_⟩;refine nZ Z (nB (W_le (Le.gatherBox (u := 4) (j := 0) (id := 108) Z Z Z (by first | exact Nm _ | simp) Z) ?_));refine nY Z ?_
    (refine W_le (Le.gatherBox (u := 4) (j := 1) (id := 104) rfl rfl rfl (by first | exact Nm _ | simp) rfl) ?_; refine W_norm rfl ?_)
    (refine W_le (Le.gatherBox (u := 4) (j := 2) (id := 105) rfl rfl rfl (by first | exact Nm _ | simp) rfl) ?_; refine W_norm rfl ?_)
    (refine W_le (Le.gatherBox (u := 4) (j := 4) (id := 106) rfl rfl rfl (by first | exact Nm _ | simp) rfl) ?_; refine W_norm rfl ?_)
    refine W_le (Le.eqK (id := 101) (k' := rb false bt (cap * 4) (xcsW (hdr.zip (xs.zip (doW w mv).tasks))) (((xs.zip (doW w mv).tasks).map ttT).flatMap T.cells)) Z (Ey (by rw [OH, Bo]; omega) hfin)) ?_;refine nY Z (W_le (Le.implode (id := 133) (id2 := 101) (j := 0) (n := 4) (e := false) (b := bt) (cap := cap) (ad := some ⟨bt, 0, none⟩) (len := w.tasks.length) (u := .slice (some ⟨bt, 0, none⟩) w.tasks.length cap) (ws := xcsW (hdr.zip (xs.zip (doW w mv).tasks))) (ys := (xs.zip (doW w mv).tasks).map ttT) Z Z Z Z Z Z (fun _ => rfl) (fun h => by cases h) (by rw [Nj, OH, Bo]; omega) hlc' hcm ttT_cells Z) ?_);refine nY Z (W_le (Le.claimBox (u := 4) (idp := 133) (j := 3) Z Z Z Z) (nY Z (rT (eR ?_))))
    · refine FP ?_ ?_ ?_ ?_ ?_
      all_goals try unfold GA
      all_goals rw [hdW]
      all_goals first | rfl | (simp [advW, setT, Nr, hset, Nv, Ni]; done) | (simp [advW, setT]; omega) | (simp [advW, setT]; exact decide_eq_true (by omega)) | (simp [advW, setT]; exact decide_eq_decide.2 (by omega))
  refine sQ (nY Z ?_)
  have hcd := of_decide_eq_false (hbb.symm.trans (by assumption))
  rw [if_neg (by assumption), if_neg hcd] at hdW;refine kY [4,5,6,7,8,9] Z (rG (eK 4 Z (nB ?_)));refine AD Z (fun h5 => ?_) (fun h5 => ?_)
  ·
    simp only [HS] at h5;refine nY Z ?_;rw [if_pos (by assumption)] at hdW
    have hC1 := hc
    have hp1 : 0 ≤ t.pos ∧ t.pos ≤ 1048576 := by omega
    have hl1 : t.acts.length ≤ 1048576 := by omega
    have hfin : (hdr.zip (xs.zip w.tasks)).set i (h, x, advT t) = hdr.zip (xs.zip (doW w mv).tasks) := by rw [hdW]; exact GI (W1 := { w with held := w.held.set A.chan.toNat (hl ++ [A.n]) }) hie hc htI
    refine W_le (Le.ownBack (t := 9) (id := 107) Z Z) (nY Z (W_le (Le.adoptE (u := 9) 107 Z Z) (nY Z (Bd 10 Ac Z (by kernel_rfl) (by kernel_rfl) (QG_ev tys Z Z (AA Z) Z (QG_ev tys Z Z (AA Z) Z (BW Z (QG_ev tys Z Z (AA Z) Z (QG_ev tys Z Z (AA Z) Z (QG_ev tys Z Z (AA Z) Z (Fg Z Z (AA Z) Z Z (D8 (id := 107) Z (by show 0 + (List.map T.int hl).length = hl.length; rw [Nj]; omega) Z) (Cn (hl.drop 0) (by rw [OS]; omega)) Z ?_)))))))))));refine QG_ev tys Z Z (AA Z) Z (QG_ev tys Z Z (AA Z) Z (BW Z ?_));refine BC tys [T.int A.n] Z Z (AA Z) Z Z Z Z Z (AA Z) (by repeat (first | exact PartsOk.nil' | refine PartsOk.cons' rfl (by repeat (first | exact AbsL.nil' | refine AbsL.v' ?_ | refine AbsL.own' ?_ | refine AbsL.none' ?_)) Z ?_)) Z Z Z (by decide) ?_;refine B7 tys Z Z (AA Z) Z Z Z Z Z Z Z Z Z ((fun x hx => by rw [OE] at hx; subst hx; exact ⟨rfl, fun z hz => ⟨_, by simpa [T.cells] using hz⟩⟩)) (by simp; omega) (by decide) Z ?_;refine AF ?_;refine ⟨by kernel_rfl, ?_⟩;refine nZ Z (BE tys Z Z (AA Z) Z Z Z Z Z Z Z Z hAc0 (by first | (rw [Nj]; omega) | (rw [Ns, Nj]; omega)) ?_);refine B2 tys (T.ints (hl ++ [A.n])) Z Z Z Z Z Z (N5 _) (by rw [Ns, Nj]; omega) Z (by rw [show T.cells (T.ints (hl ++ [A.n])) = [.list 1 ((hl.drop 0).map T.int ++ [T.int A.n])] from by rw [List.drop_zero]; show [T.list 1 _] = _; rw [OU]; rfl]; exact AbsL.own' AbsL.nil') Z Z Z ?_;refine nZ Z (oN (bN (tN (sQ (W_le (Le.roNil 99) (nY Z (rG (eZ Z ?_))))))));refine cP [101] (hm := (Dr bt (cap * 4) i _ h x _ hC1 hp1 hl1)) (k := ?_);refine nZ Z (nB (sQ (nY Z ?_)))
    skip
    refine W_le (Le.adoptBox (u := 6) (j := 0) (id := 108) Z Z Z) (nY Z ?_)
    skip
    refine Ar [[], [4], [4], [4], [4], [], []] Ac (by kernel_rfl) (AZ (QG_ev tys Z Z (AA Z) Z (AF (A9 (QG_ev tys Z Z (AA Z) Z (AF (A9 (QG_ev tys Z Z (AA Z) Z (AF (A9 (De tys Z Z (AA Z) Z (by first | exact KQ | exact Z) ?_)))))))))));refine AF (AY Z (A9 (QG_ev tys Z Z (AA Z) Z (AF (Bm tys 10005 Z Z Z Z Z Z Z Z Z (N3 Z) (AZ (QG_ev tys Z Z (AA Z) Z (AF (Av ?_)))))))));refine ⟨by kernel_rfl, ?_⟩;refine nZ Z (nB (W_le (Le.gatherBox (u := 4) (j := 0) (id := 108) Z Z Z (by first | exact Nm _ | simp) Z) ?_));refine nY Z ?_
    (refine W_le (Le.gatherBox (u := 4) (j := 1) (id := 104) rfl rfl rfl (by first | exact Nm _ | simp) rfl) ?_; refine W_norm rfl ?_)
    (refine W_le (Le.gatherBox (u := 4) (j := 2) (id := 105) rfl rfl rfl (by first | exact Nm _ | simp) rfl) ?_; refine W_norm rfl ?_)
    (refine W_le (Le.gatherBox (u := 4) (j := 4) (id := 106) rfl rfl rfl (by first | exact Nm _ | simp) rfl) ?_; refine W_norm rfl ?_)
    refine W_le (Le.eqK (id := 101) (k' := rb false bt (cap * 4) (xcsW (hdr.zip (xs.zip (doW w mv).tasks))) (((xs.zip (doW w mv).tasks).map ttT).flatMap T.cells)) Z (Ey (by rw [OH, Bo]; omega) hfin)) ?_;refine nY Z (W_le (Le.implode (id := 133) (id2 := 101) (j := 0) (n := 4) (e := false) (b := bt) (cap := cap) (ad := some ⟨bt, 0, none⟩) (len := w.tasks.length) (u := .slice (some ⟨bt, 0, none⟩) w.tasks.length cap) (ws := xcsW (hdr.zip (xs.zip (doW w mv).tasks))) (ys := (xs.zip (doW w mv).tasks).map ttT) Z Z Z Z Z Z (fun _ => rfl) (fun h => by cases h) (by rw [Nj, OH, Bo]; omega) hlc' hcm ttT_cells Z) ?_);refine nY Z (W_le (Le.claimBox (u := 4) (idp := 133) (j := 3) Z Z Z Z) (nY Z (rT (eR ?_))))
    · refine FP ?_ ?_ ?_ ?_ ?_
      all_goals try unfold GA
      all_goals rw [hdW]
      all_goals first | rfl | (simp [advW, setT, Nr, hset, Nv, Ni]; done) | (simp [advW, setT]; omega) | (simp [advW, setT]; exact decide_eq_true (by omega)) | (simp [advW, setT]; exact decide_eq_decide.2 (by omega))
  simp only [HS] at h5;refine sQ (nY Z ?_);rw [if_neg (by assumption)] at hdW;refine rG (eZ Z (Eb Z Z (AA Z) Z ⟨3, by kernel_rfl⟩ rfl (eK 2 Z (nB ?_))));refine AD Z (fun h6 => ?_) (fun h6 => ?_)
  ·
    simp only [HS] at h6;refine sQ (nY Z ?_)
    have hlp : 0 < hl.length := by simp_all
    rw [if_pos hlp, show at0 0 hl 0 = hl[0] from AL (l := hl) (i := 0) (by omega) (by omega)] at hdW;refine W_le (Le.ownBack (t := 9) (id := 107) Z Z) (nY Z (W_le (Le.adoptE (u := 9) 107 Z Z) (nY Z ?_)))
    have hp1 : 0 ≤ t.pos ∧ t.pos ≤ 1048576 := by omega
    have hl1 : t.acts.length ≤ 1048576 := by omega
    have hC1 : ((hdr.zip (xs.zip w.tasks)).set i (h, x, { t with last := hl[0] }))[i]? = some (h, x, { t with last := hl[0] }) := Iw hc
    have hfin : ((hdr.zip (xs.zip w.tasks)).set i (h, x, { t with last := hl[0] })).set i (h, x, advT { t with last := hl[0] }) = hdr.zip (xs.zip (doW w mv).tasks) := by rw [hdW]; exact Iv hie hi0 hi1 hc
    refine kY [4,5,6,7,8,9] Z (rG (eK 2 Z (BE tys Z Z (AA Z) Z Z Z Z Z Z Z Z (by omega) (by rw [Nj]; omega) ?_)));refine Bl tys Z Z (AA Z) Z Z Z Z (Ig _ _ (by omega) (by omega)) Z (A6 rfl Z (AA Z) Z Z Z (Au tys Z Z (AA Z) Z Z Z Z Z (A5 (id := 101) (u0 := .int .i64 t.last) (u := .int .i64 hl[0]) tys Z Z Z Z Z Z Z (Dc hc (by decide)) Z Z Z (nZ Z (WO_le (Le.eqK (id := 101) Z (Fp (c' := (h, x, { t with last := hl[0] })) hc (by decide) Z Z)) (nZ Z (nB (kY [4,5,6,7,8,9] Z (Bd 7 Ac Z (by kernel_rfl) (by kernel_rfl) (QG_ev tys Z Z (AA Z) Z (QG_ev tys Z Z (AA Z) Z (QG_ev tys Z Z (AA Z) Z (QG_ev tys Z Z (AA Z) Z (QG_ev tys Z Z (AA Z) Z (Ff tys Z Z (AA Z) Z Z Z Z Z Z Z Z Z (by omega) (by rw [Nj]; omega) (by rw [Nj]; omega) ?_)))))))))))))));refine BW Z (Fg Z Z (AA Z) Z Z (D8 (id := 107) Z (by show 1 + (((List.map T.int hl).length : Int).toNat - 1) = hl.length; rw [Nj]; omega) Z) (Cn (hl.drop 1) (by rw [OS]; omega)) Z ?_);refine AF ?_;refine ⟨by kernel_rfl, ?_⟩;refine nZ Z (BE tys Z Z (AA Z) Z Z Z Z Z Z Z Z hAc0 (by first | (rw [Nj]; omega) | (rw [Ns, Nj]; omega)) ?_);refine B2 tys (T.ints (hl.drop 1)) Z Z Z Z Z Z (N5 _) (by rw [Ns, Nj]; omega) Z (AbsL.own' AbsL.nil') Z Z Z ?_;refine nZ Z (oN (bN (tN (sQ (W_le (Le.roNil 99) (nY Z (rG (eZ Z ?_))))))));refine cP [101] (hm := (Dr bt (cap * 4) i _ h x _ hC1 hp1 hl1)) (k := ?_);refine nZ Z (nB (sQ (nY Z ?_)))
    skip
    refine W_le (Le.adoptBox (u := 6) (j := 0) (id := 108) Z Z Z) (nY Z ?_)
    skip
    refine Ar [[], [4], [4], [4], [4], [], []] Ac (by kernel_rfl) (AZ (QG_ev tys Z Z (AA Z) Z (AF (A9 (QG_ev tys Z Z (AA Z) Z (AF (A9 (QG_ev tys Z Z (AA Z) Z (AF (A9 (De tys Z Z (AA Z) Z (by first | exact KQ | exact Z) ?_)))))))))));refine AF (AY Z (A9 (QG_ev tys Z Z (AA Z) Z (AF (Bm tys 10005 Z Z Z Z Z Z Z Z Z (N3 Z) (AZ (QG_ev tys Z Z (AA Z) Z (AF (Av ?_)))))))));refine ⟨by kernel_rfl, ?_⟩;refine nZ Z (nB (W_le (Le.gatherBox (u := 4) (j := 0) (id := 108) Z Z Z (by first | exact Nm _ | simp) Z) ?_));refine nY Z ?_
    (refine W_le (Le.gatherBox (u := 4) (j := 1) (id := 104) rfl rfl rfl (by first | exact Nm _ | simp) rfl) ?_; refine W_norm rfl ?_)
    (refine W_le (Le.gatherBox (u := 4) (j := 2) (id := 105) rfl rfl rfl (by first | exact Nm _ | simp) rfl) ?_; refine W_norm rfl ?_)
    (refine W_le (Le.gatherBox (u := 4) (j := 4) (id := 106) rfl rfl rfl (by first | exact Nm _ | simp) rfl) ?_; refine W_norm rfl ?_)
    refine W_le (Le.eqK (id := 101) (k' := rb false bt (cap * 4) (xcsW (hdr.zip (xs.zip (doW w mv).tasks))) (((xs.zip (doW w mv).tasks).map ttT).flatMap T.cells)) Z (Ey (by rw [OH, Bo]; omega) hfin)) ?_;refine nY Z (W_le (Le.implode (id := 133) (id2 := 101) (j := 0) (n := 4) (e := false) (b := bt) (cap := cap) (ad := some ⟨bt, 0, none⟩) (len := w.tasks.length) (u := .slice (some ⟨bt, 0, none⟩) w.tasks.length cap) (ws := xcsW (hdr.zip (xs.zip (doW w mv).tasks))) (ys := (xs.zip (doW w mv).tasks).map ttT) Z Z Z Z Z Z (fun _ => rfl) (fun h => by cases h) (by rw [Nj, OH, Bo]; omega) hlc' hcm ttT_cells Z) ?_);refine nY Z (W_le (Le.claimBox (u := 4) (idp := 133) (j := 3) Z Z Z Z) (nY Z (rT (eR ?_))))
    · refine FP ?_ ?_ ?_ ?_ ?_
      all_goals try unfold GA
      all_goals rw [hdW]
      all_goals first | rfl | (simp [advW, setT, Nr, hset, Nv, Ni]; done) | (simp [advW, setT]; omega) | (simp [advW, setT]; exact decide_eq_true (by omega)) | (simp [advW, setT]; exact decide_eq_decide.2 (by omega))
  simp only [HS] at h6;refine nY Z ?_
  have hlp : ¬ 0 < hl.length := by simp_all
  rw [if_neg hlp] at hdW
  have hp1 : 0 ≤ t.pos ∧ t.pos ≤ 1048576 := by omega
  have hl1 : t.acts.length ≤ 1048576 := by omega
  have hC1 : ((hdr.zip (xs.zip w.tasks)).set i (h, x, { t with last := 0 }))[i]? = some (h, x, { t with last := 0 }) := Iw hc
  have hfin : ((hdr.zip (xs.zip w.tasks)).set i (h, x, { t with last := 0 })).set i (h, x, advT { t with last := 0 }) = hdr.zip (xs.zip (doW w mv).tasks) := by rw [hdW]; exact Iv hie hi0 hi1 hc
  refine kY [4,5,6,7] Z (rG (eZ Z (A6 rfl Z (AA Z) Z Z Z (Au tys Z Z (AA Z) Z Z Z Z Z (A5 (id := 101) (u0 := .int .i64 t.last) (u := .int .i64 0) tys Z Z Z Z Z Z Z (Dc hc (by decide)) Z Z Z (nZ Z (WO_le (Le.eqK (id := 101) Z (Fp (c' := (h, x, { t with last := 0 })) hc (by decide) Z Z)) (nZ Z (oN (bN (tN (sQ (W_le (Le.roNil 99) (nY Z (rG ?_)))))))))))))));refine eZ Z ?_;refine cP [101] (hm := (Dr bt (cap * 4) i _ h x _ hC1 hp1 hl1)) (k := ?_);refine nZ Z (nB (sQ (nY Z ?_)))
  (refine W_le (Le.putBack (id := 104) (idq := 107) (i := A.chan.toNat) (off := 0) (T.ints hl) rfl rfl (List.getElem?_set_self (by rw [Nj]; omega)) rfl rfl rfl) ?_; refine W_norm rfl ?_)
  refine W_le (Le.adoptBox (u := 6) (j := 0) (id := 108) Z Z Z) (nY Z ?_)
  skip
  refine Ar [[], [4], [4], [4], [4], [], []] Ac (by kernel_rfl) (AZ (QG_ev tys Z Z (AA Z) Z (AF (A9 (QG_ev tys Z Z (AA Z) Z (AF (A9 (QG_ev tys Z Z (AA Z) Z (AF (A9 (De tys Z Z (AA Z) Z (by first | exact KQ | exact Z) ?_)))))))))));refine AF (AY Z (A9 (QG_ev tys Z Z (AA Z) Z (AF (Bm tys 10005 Z Z Z Z Z Z Z Z Z (N3 Z) (AZ (QG_ev tys Z Z (AA Z) Z (AF (Av ?_)))))))));refine ⟨by kernel_rfl, ?_⟩;refine nZ Z (nB (W_le (Le.gatherBox (u := 4) (j := 0) (id := 108) Z Z Z (by first | exact Nm _ | simp) Z) ?_));refine nY Z ?_
  (refine W_le (Le.gatherBox (u := 4) (j := 1) (id := 104) rfl rfl rfl (by first | exact Nm _ | simp) rfl) ?_; refine W_norm rfl ?_)
  (refine W_le (Le.gatherBox (u := 4) (j := 2) (id := 105) rfl rfl rfl (by first | exact Nm _ | simp) rfl) ?_; refine W_norm rfl ?_)
  (refine W_le (Le.gatherBox (u := 4) (j := 4) (id := 106) rfl rfl rfl (by first | exact Nm _ | simp) rfl) ?_; refine W_norm rfl ?_)
  refine W_le (Le.eqK (id := 101) (k' := rb false bt (cap * 4) (xcsW (hdr.zip (xs.zip (doW w mv).tasks))) (((xs.zip (doW w mv).tasks).map ttT).flatMap T.cells)) Z (Ey (by rw [OH, Bo]; omega) hfin)) ?_;refine nY Z (W_le (Le.implode (id := 133) (id2 := 101) (j := 0) (n := 4) (e := false) (b := bt) (cap := cap) (ad := some ⟨bt, 0, none⟩) (len := w.tasks.length) (u := .slice (some ⟨bt, 0, none⟩) w.tasks.length cap) (ws := xcsW (hdr.zip (xs.zip (doW w mv).tasks))) (ys := (xs.zip (doW w mv).tasks).map ttT) Z Z Z Z Z Z (fun _ => rfl) (fun h => by cases h) (by rw [Nj, OH, Bo]; omega) hlc' hcm ttT_cells Z) ?_);refine nY Z (W_le (Le.claimBox (u := 4) (idp := 133) (j := 3) Z Z Z Z) (nY Z (rT (eR ?_))))
  · refine FP ?_ ?_ ?_ ?_ ?_
    all_goals try unfold GA
    all_goals rw [hdW]
    all_goals first | rfl | (simp [advW, setT, Nr, hset, Nv, Ni]; done) | (simp [advW, setT]; omega) | (simp [advW, setT]; exact decide_eq_true (by omega)) | (simp [advW, setT]; exact decide_eq_decide.2 (by omega))
theorem K3 (w : World) (xs : List T) (mv : List Int) (hg : AC w = true) (hm : Ll w mv) (hw : w.ok 1048576) (hx : All2 CN xs (w.tasks.map Task.acts)) :
  Fun Try.prog 35 [.t (ttW w xs), .t (T.ints mv)] (tupD [rdW (doW w mv) xs, .t (.bool (GA w mv))]) := (F6 w xs mv hg hm hw hx).frz rfl
open Go.Eng
/-! What reads as flat acts can be told. -/
theorem hdr_of {w : Go.World} {F : Nat → Prop} {n : Nat} {vs : List Value} {ts : List T} (h : RelL w F vs (.list n [] :: ts)) : ∃ a c v', vs = Value.slice a 0 c :: v' ∧ RelL w F v' ts := by
 generalize hx : ([] : List T) = xs at h
 cases h with
 | none h => exact ⟨_, _, _, rfl, h⟩
 | list p1 p2 p3 p4 p5 p6 h => subst hx; exact ⟨_, _, _, rfl, h⟩
theorem G5 {w : Go.World} {F : Nat → Prop} : ∀ {l : List Act}, (∀ b, b ∈ l → b.cases = []) → ∀ {vs}, RelL w F vs ((l.map Act.toT).flatMap T.cells) → ∃ zs, All2 TCase zs l ∧ RelL w F vs (zs.flatMap T.cells)
 | [], _, vs, h => ⟨[], .nil, h⟩
 | b :: l, hb, vs, h => by
  rw [OA, Nt, Act.toT_eq] at h;change RelL w F vs (T.int b.kind :: T.int b.chan :: T.int b.n :: .list 4 (b.cases.map Act.toT) :: (l.map Act.toT).flatMap T.cells) at h
  have hb0 := hb b (by simp)
  rw [hb0] at h
  cases h with
  | v q1 h =>
   cases h with
   | v q2 h =>
    cases h with
    | v q3 h =>
     obtain ⟨a, c, v', rfl, h'⟩ := hdr_of h
     obtain ⟨zs, g1, g2⟩ := G5 (fun b' h => hb b' (by simp [h])) h'
     exact ⟨.agg [T.int b.kind, T.int b.chan, T.int b.n, .v (.slice a 0 c)] :: zs, .cons ⟨hb0, a, c, rfl⟩ g1, .v q1 (.v q2 (.v q3 (.v rfl g2)))⟩
def Fm (a : Act) : Prop := ∀ b, b ∈ a.cases → b.cases = []
theorem KE {zs : List T} {l : List Act} (h : All2 TCase zs l) : ∀ x, x ∈ zs → (T.cells x).length = 4 := fun x hx => (Hy h x hx).1
theorem LQ {zs : List T} {l : List Act} (h : All2 TAct zs l) : ∀ x, x ∈ zs → (T.cells x).length = 4 := fun x hx => by
 obtain ⟨b, _, cs, rfl, _⟩ := h.left hx
 rfl
theorem GJ {w : Go.World} {F : Nat → Prop} : ∀ {l : List Act}, (∀ b, b ∈ l → Fm b) → ∀ {vs}, RelL w F vs ((l.map Act.toT).flatMap T.cells) → ∃ zs, All2 TAct zs l ∧ RelL w F vs (zs.flatMap T.cells)
 | [], _, vs, h => ⟨[], .nil, h⟩
 | b :: l, hb, vs, h => by
  rw [OA, Nt, Act.toT_eq] at h;change RelL w F vs (T.int b.kind :: T.int b.chan :: T.int b.n :: .list 4 (b.cases.map Act.toT) :: (l.map Act.toT).flatMap T.cells) at h
  have hb0 := hb b (by simp)
  cases h with
  | v q1 h =>
   cases h with
   | v q2 h =>
    cases h with
    | v q3 h =>
     generalize hy : T.list 4 (b.cases.map Act.toT) = y at h
     cases h with
     | v p1 p2 => cases hy
     | none h =>
      have e : b.cases = [] := by have := (T.list.inj hy).2; exact List.map_eq_nil_iff.1 this
      obtain ⟨zs, g1, g2⟩ := GJ (fun b' h => hb b' (by simp [h])) h
      refine ⟨.agg [T.int b.kind, T.int b.chan, T.int b.n, .list 4 []] :: zs, .cons ⟨[], rfl, by rw [e]; exact .nil⟩ g1, .v q1 (.v q2 (.v q3 (.none g2)))⟩
     | list p1 p2 p3 p4 p5 p6 h =>
      obtain ⟨rfl, rfl⟩ := T.list.inj hy
      obtain ⟨zs, g1, g2⟩ := GJ (fun b' h => hb b' (by simp [h])) h
      obtain ⟨cs, g3, g4⟩ := G5 hb0 p6
      have el : (b.cases.map Act.toT).length = cs.length := by rw [Nj]; exact g3.len.symm
      refine ⟨.agg [T.int b.kind, T.int b.chan, T.int b.n, .list 4 cs] :: zs, .cons ⟨cs, rfl, g3⟩ g1, .v q1 (.v q2 (.v q3 ?_))⟩;rw [el] at p5 ⊢;exact .list p1 p2 p3 (KE g3) p5 g4 g2
theorem Lr {w : Go.World} {F : Nat → Prop} {l : List Act} (hb : ∀ b, b ∈ l → Fm b) {v : Value} {vs : List Value} {ts : List T} (h : RelL w F (v :: vs) (T.Acts l :: ts)) : ∃ x, CN x l ∧ RelL w F [v] [x] ∧ RelL w F vs ts := by
 obtain ⟨h, hr⟩ := h.cons
 generalize hy : T.Acts l = y at h
 cases h with
 | v p1 p2 => cases hy
 | none h =>
  have e : l = [] := by have := (T.list.inj hy).2; exact List.map_eq_nil_iff.1 this
  subst e;exact ⟨.list 4 [], ⟨[], rfl, .nil⟩, .none .nil, hr⟩
 | list p1 p2 p3 p4 p5 p6 h =>
  obtain ⟨rfl, rfl⟩ := T.list.inj hy
  obtain ⟨zs, g1, g2⟩ := GJ hb p6
  have el : (l.map Act.toT).length = zs.length := by rw [Nj]; exact g1.len.symm
  refine ⟨.list 4 zs, ⟨zs, rfl, g1⟩, ?_, hr⟩;rw [el] at p5 ⊢;exact .list p1 p2 p3 (LQ g1) p5 g2 .nil
theorem G4 {w : Go.World} {F : Nat → Prop} : ∀ {l : List Task}, (∀ t, t ∈ l → ∀ b, b ∈ t.acts → Fm b) → ∀ {vs}, RelL w F vs ((l.map Task.tt).flatMap T.cells) → ∃ xs, All2 CN xs (l.map Task.acts) ∧ RelL w F vs (((xs.zip l).map ttT).flatMap T.cells)
 | [], _, vs, h => ⟨[], .nil, h⟩
 | t :: l, hb, vs, h => by
  rw [OA, Nt] at h;change RelL w F vs (T.Acts t.acts :: T.int t.pos :: T.int t.state :: T.int t.last :: (l.map Task.tt).flatMap T.cells) at h
  cases vs with
  | nil => cases h
  | cons v vs =>
   obtain ⟨x, g1, g2, h⟩ := Lr (hb t (by simp)) h
   cases h with
   | v q1 h =>
    cases h with
    | v q2 h =>
     cases h with
     | v q3 h =>
      obtain ⟨xs, g3, g4⟩ := G4 (fun t' h => hb t' (by simp [h])) h
      exact ⟨x :: xs, .cons g1 g3, RelL.cons' g2 (.v q1 (.v q2 (.v q3 g4)))⟩
theorem I3 {w : Go.World} {F : Nat → Prop} : ∀ {l : List Task} {xs : List T}, All2 CN xs (l.map Task.acts) → ∀ {vs}, RelL w F vs (((xs.zip l).map ttT).flatMap T.cells) → RelL w F vs ((l.map Task.tt).flatMap T.cells)
 | [], xs, h, vs, hr => by cases h; exact hr
 | t :: l, xs, h, vs, hr => by
  cases h with
  | cons h1 h2 =>
   rename_i x xs
   rw [OA, Nt];change RelL w F vs (x :: T.int t.pos :: T.int t.state :: T.int t.last :: ((xs.zip l).map ttT).flatMap T.cells) at hr;show RelL w F vs (T.Acts t.acts :: T.int t.pos :: T.int t.state :: T.int t.last :: (l.map Task.tt).flatMap T.cells)
   cases vs with
   | nil => cases hr
   | cons v vs =>
    have h3 := Kk h1 hr
    obtain ⟨h4, h5⟩ := h3.cons
    cases h5 with
    | v q1 h =>
     cases h with
     | v q2 h =>
      cases h with
      | v q3 h => exact RelL.cons' h4 (.v q1 (.v q2 (.v q3 (I3 h2 h))))
theorem CT {w : Go.World} {F : Nat → Prop} {l : List Task} {xs : List T} (hx : All2 CN xs (l.map Task.acts)) {v : Value} (h : RelL w F [v] [.list 4 ((xs.zip l).map ttT)]) : RelL w F [v] [T.Tasks l] := by
 have hl : xs.length = l.length := by have := hx.len; rw [Nj] at this; exact this
 generalize hy : T.list 4 ((xs.zip l).map ttT) = y at h
 cases h with
 | v p1 p2 => cases hy
 | none h =>
  have e : (xs.zip l).length = 0 := by have := (T.list.inj hy).2; rw [List.map_eq_nil_iff] at this; rw [this]; rfl
  rw [OH] at e
  have : l = [] := OG (by omega)
  subst this;exact .none .nil
 | list p1 p2 p3 p4 p5 p6 h =>
  obtain ⟨rfl, rfl⟩ := T.list.inj hy
  have el : ((xs.zip l).map ttT).length = (l.map Task.tt).length := by rw [Nj, Nj, OH]; omega
  rw [el] at p5 ⊢;exact .list p1 p2 p3 tasks_cells p5 (I3 hx p6) .nil
theorem E0 {w : Go.World} {F : Nat → Prop} {l : List Task} (hb : ∀ t, t ∈ l → ∀ b, b ∈ t.acts → Fm b) {v : Value} (h : RelL w F [v] [T.Tasks l]) : ∃ xs, All2 CN xs (l.map Task.acts) ∧ RelL w F [v] [.list 4 ((xs.zip l).map ttT)] := by
 generalize hy : T.Tasks l = y at h
 cases h with
 | v p1 p2 => cases hy
 | none h =>
  have e : l = [] := by have := (T.list.inj hy).2; exact List.map_eq_nil_iff.1 this
  subst e;exact ⟨[], .nil, .none .nil⟩
 | list p1 p2 p3 p4 p5 p6 h =>
  obtain ⟨rfl, rfl⟩ := T.list.inj hy
  obtain ⟨xs, g1, g2⟩ := G4 hb p6
  have hl : xs.length = l.length := by have := g1.len; rw [Nj] at this; exact this
  have el : (l.map Task.tt).length = ((xs.zip l).map ttT).length := by rw [Nj, Nj, OH]; omega
  refine ⟨xs, g1, ?_⟩;rw [el] at p5 ⊢;exact .list p1 p2 p3 ttT_cells p5 g2 .nil
theorem EJ {w : World} (hg : AC w = true) : ∀ t, t ∈ w.tasks → ∀ a, a ∈ t.acts → Fm a := by
 intro t ht a ha b hb
 have h9 := (gw_iff.1 hg).ts t ht
 unfold AM BK at h9;simp only [Nk, decide_eq_true_eq, Np] at h9
 have hga := h9.1.1 a ha
 unfold AJ at hga;split at hga
 ·simp only [Nk, Np] at hga
  have := hga.1 b hb
  unfold caseAct AI at this;simp only [Nk, decide_eq_true_eq] at this
  grind [List.length_eq_zero_iff]
 ·unfold AI at hga
  simp only [Nk, decide_eq_true_eq] at hga
  have : a.cases = [] := by grind [List.length_eq_zero_iff]
  rw [this] at hb; cases hb
section
variable {P : Program} {c : Ctx} {s : St} {Q : Exit → St → Prop}
theorem Cd {code : Code} {u j : Nat} {x : T} {cells : List D} {p : T → Prop} (hM : lookM s.M u = some (.box cells)) (hj : cells[j]? = some (.t x)) (h : ∀ {w : Go.World} {F : Nat → Prop} {v}, RelL w F [v] [x] → ∃ y, p y ∧ RelL w F [v] [y])
  (k : ∀ y, p y → W P c code ⟨s.fr, (u, .box (cells.set j (.t y))) :: s.M⟩ Q) : W P c code s Q := by
 rintro a w ⟨F, β, fb, mb, ow, hi⟩
 have hm := hi.mem u
 rw [hM] at hm
 obtain ⟨b, arr, e, bs, h1, h2, h3, h4, h5⟩ := hm
 have key : ∀ {vs : List Value} {ds : List D} {bs : List Nat} {j : Nat}, RelD w F β vs ds bs → vs.all (·.oneCell') = true → ds[j]? = some (.t x) → ∃ y, p y ∧ RelD w F β vs (ds.set j (.t y)) bs := by
  intro vs
  induction vs with
  | nil =>
   intro ds bs j hr _ hj
   have := hr.length
   cases ds with
   | nil => simp at hj
   | cons _ _ => simp at this
  | cons v vs ih =>
   intro ds bs j hr ho hj
   cases ds with
   | nil => simp at hj
   | cons d ds =>
    obtain ⟨b1, b2, g1, g2, rfl⟩ := hr.cons
    rw [Oe, Nk] at ho
    cases j with
    | zero =>
     simp at hj
     subst hj
     cases g1 with
     | t q1 q2 =>
      cases q2
      obtain ⟨y, hy1, hy2⟩ := h q1
      exact ⟨y, hy1, RelD.cons' (.t hy2 .done) g2⟩
     | tagg q1 q2 => simp [Value.oneCell'] at ho
    | succ j =>
     obtain ⟨y, hy1, hy2⟩ := ih g2 ho.2 (by simpa using hj)
     exact ⟨y, hy1, RelD.cons' g1 hy2⟩
 obtain ⟨y, hy1, hy2⟩ := key h3 h4 hj
 refine k y hy1 a w ⟨F, β, fb, mb, ow, { hi with mem := fun i => ?_ }⟩;simp only [lookM]
 by_cases hid : u = i
 ·subst hid
  rw [if_pos rfl];exact ⟨b, arr, e, bs, by rw [Ns]; exact h1, h2, hy2, h4, h5⟩
 ·rw [if_neg hid]; exact hi.mem i
end
theorem doW_acts (w : World) (mv : List Int) : (doW w mv).tasks.map Task.acts = w.tasks.map Task.acts := by
 have a0 : ∀ (l : List Task) (i : Nat) (t u : Task), l[i]? = some u → t.acts = u.acts → (l.set i t).map Task.acts = l.map Task.acts := by
  intro l i t u h1 h2;rw [Nv, h2];exact D4 (by rw [List.getElem?_map, h1]; rfl)
 have a1 : ∀ (w : World) (i : Int) (t : Task), t.acts = (tk w i).acts → (setT w i t).tasks.map Task.acts = w.tasks.map Task.acts := by
  intro w i t h;show (w.tasks.set i.toNat t).map Task.acts = _
  by_cases h1 : i.toNat < w.tasks.length
  ·refine a0 _ _ _ _ (List.getElem?_eq_getElem h1) ?_
   rw [h]; unfold tk at0; rw [List.getElem?_eq_getElem h1]; rfl
  ·rw [List.set_eq_of_length_le (by omega)]
 have a2 : ∀ (w : World) (i : Int), (advW w i).tasks.map Task.acts = w.tasks.map Task.acts := fun w i => a1 w i _ rfl
 unfold doW;split
 ·rw [a2]
 ·split
  ·exact a1 _ _ _ rfl
  ·split
   ·rw [a2]
   ·split
    ·rw [a2, a2]; exact a1 _ _ _ rfl
    ·split
     ·rw [a2]
     ·split
      ·rw [a2]; exact a1 _ _ _ rfl
      ·rw [a2]; exact a1 _ _ _ rfl
open Go.Eng
theorem C1 (a b : List Int) (ha : a.length ≤ 1073741824) (hb : b.length ≤ 1073741824) : Fun Try.prog 54 [.t (T.ints a), .t (T.ints b)] (tupD [.t (.bool (decide (a = b)))]) := by
 refine Fun.begin tys Try.func54 Z Z (N := 26) [(0, .t (T.ints a)), (1, .t (T.ints b))] Z Z (fun w0 G F0 => ?_);refine sG (eZ Z (nB (sQ (sG (eZ Z (evE ?_))))));refine eZ Z (evE ?_);refine eZ Z (nB ?_);refine AD Z (fun h1 => ?_) (fun h1 => ?_)
 ·
  simp only [HS] at h1;refine sG (eZ Z (nB (rT (tR (eR ?_)))))
  ·first
   | (rw [show decide (a = b) = false from decide_eq_false (fun e => by subst e; simp_all)]; done)
 simp only [HS] at h1;refine AE (tN (sQ (sG (eZ Z (evE ?_)))));refine eZ Z (kZ [0,1,4,12,13] Z (nB (AG ?_)));refine lK (α := Int) [0, 1, 12] [] (fun x => [(13, .t (.int x))]) (fun x => []) (fun x => 0 ≤ x ∧ x ≤ a.length ∧ a.take x.toNat = b.take x.toNat) (fun x => Int.toNat (a.length - x)) 0 ?_ (fun k hx => ?_)
 ·exact ⟨by omega, by omega, rfl⟩
 obtain ⟨hk0, hk1, hk2⟩ := hx
 refine nY Z (sG (eZ Z (nB (sQ ?_))));refine AD Z (fun h2 => ?_) (fun h2 => ?_)
 ·
  simp only [HS] at h2;refine AE (tN (sQ (AG (sG (eK 2 Z (nB (sQ (AV Ac (by kernel_rfl) (evQ ?_)))))))));refine evQ ?_;refine AP tys Z Z (AA Z) Z Z Z Z Z Z Z (by omega) _ (CM _ _ (by omega) (by omega)) (AH Z (evQ ?_));refine evQ ?_;refine evQ ?_;refine AP tys Z Z (AA Z) Z Z Z Z Z Z Z (by omega) _ (CM _ _ (by omega) (by omega)) (evQ ?_);refine evQ ?_;refine AH Z (Aj (tN ?_));refine AD Z (fun h3 => ?_) (fun h3 => ?_)
  ·
   simp only [HS] at h3;refine sG (eZ Z (nB (rT (bR (tR (AU (bR (tR (eR ?_)))))))))
   ·first
    | (rw [show decide (a = b) = false from decide_eq_false (fun e => by subst e; simp_all)]; done)
  simp only [HS] at h3;refine AE (bN (tN (rG (evI ?_))));refine eZ Z (oN ?_);refine lQ _ ?_ ?_
  ·skip
   exact ⟨by omega, by omega, (Fs hk0 (by omega) (by omega)).2 ⟨hk2, by simp_all⟩⟩
  ·(show Int.toNat _ < Int.toNat _); omega
 simp only [HS] at h2;refine AR (tE (AO (AN (tN (sG (eZ Z (nB (rT (eR ?_)))))))))
 ·first
  | (rw [show decide (a = b) = true from decide_eq_true (by rw [Ni (by omega), Ni (by omega)] at hk2; exact hk2)]; done)
theorem NT {l : List (List Int)} {mv : List Int} {k : Int} (h0 : 0 ≤ k) (h1 : k < l.length) (h : mv = l[k.toNat]'(by omega)) : Dq l mv = true := by
 unfold Dq;rw [OJ];exact ⟨_, Nl (show k.toNat < l.length by omega), by simp [h]⟩
theorem J0 (l : List (List Int)) (mv : List Int) (hl : l.length ≤ 1073741824) (hm : mv.length ≤ 1073741824) (hx : ∀ x, x ∈ l → x.length ≤ 1073741824) : Fun Try.prog 33 [.t (Af l), .t (T.ints mv)] (tupD [.t (.bool (Dq l mv))]) := by
 refine Fun.begin tys Try.func33 Z Z (N := 17) [(0, .t (Af l)), (1, .t (T.ints mv))] Z Z (fun w0 G F0 => ?_);refine sG (eZ Z (nB (sQ (sG (eZ Z (evE ?_))))));refine eZ Z (nB (AG ?_));refine lK (α := Int) [0, 1, 7, 8] [] (fun x => [(9, .t (.int x))]) (fun x => []) (fun x => 0 ≤ x ∧ x ≤ l.length ∧ Dq (l.take x.toNat) mv = false) (fun x => Int.toNat (l.length - x)) 0 ?_ (fun k hx => ?_)
 ·exact ⟨by omega, by omega, rfl⟩
 obtain ⟨hk0, hk1, hk2⟩ := hx
 refine nY Z (sG (eZ Z (nB (sQ ?_))));refine AD Z (fun h1 => ?_) (fun h1 => ?_)
 ·
  simp only [HS] at h1;refine AE (tN (sQ (AG (sG ?_))));refine iY (k := ?_);refine eK 2 Z (nA (eK 2 Z (AQ ?_)));refine ⟨_, C1 mv (l[k.toNat]'(by omega)) hm (hx _ (Nl _)), rfl, ?_⟩;refine nB ?_;refine AD Z (fun h2 => ?_) (fun h2 => ?_)
  ·
   simp only [HS] at h2;refine sQ (kY [0,1,6,7,8,9,10,11,12,13,14,15] Z (rG (eZ Z (nB (rT (bR (tR (AU (bR (tR (eR ?_)))))))))))
   ·first
    | (rw [NT hk0 (by omega) (by simp_all)]; done)
  simp only [HS] at h2;refine AE (bN (tN (kY [0,1,6,7,8,9,10,11,12,13,14,15] Z (rG (evI ?_)))));refine eZ Z (oN ?_);refine lQ _ ?_ ?_
  ·skip
   refine ⟨by omega, by omega, ?_⟩; rw [Bf hk0 (by omega)]; unfold Dq at hk2 ⊢; rw [List.any_append, hk2]; simp; intro e; simp_all
  ·(show Int.toNat _ < Int.toNat _); omega
 simp only [HS] at h1;refine AR (tE (AO (AN (tN (sG (eZ Z (nB (rT (eR ?_)))))))))
 ·first
  | (rw [BF (by omega)] at hk2; rw [hk2]; done)
abbrev World.rd (w : World) : D := .agg [.t (T.ints w.room), .t (Af w.held), .t (T.bools w.shut), .t (T.Tasks w.tasks), .t (T.ints w.trace)]
theorem NO {w : World} {mv : List Int} (hg : AC w = true) (hh : Dq (Al w) mv = true) (hd : GA w mv = true) : [(doW w mv).rd, D.t (T.v (.bool true))] = [(dmR w mv).rd, D.t (T.bool (Fh w mv))] := by
 have h : Fh w mv = true := by simp [Fh, hg, hh, hd]
 rw [dmR, h]; rfl
theorem LI {w : World} {mv : List Int} (h : Fh w mv = false) : [world0.rd, D.t (T.v (.bool false))] = [(dmR w mv).rd, D.t (T.bool (Fh w mv))] := by
 rw [dmR, h]; rfl
theorem Jq (w : World) (mv : List Int) (hw : w.ok 1048576) (hmv : mv.length ≤ 1073741824) : Fun Try.prog 7 [.t w.tt, .t (T.ints mv)] (tupD [(dmR w mv).rd, .t (.bool (Fh w mv))]) := by
 refine Fun.begin tys Try.func7 Z Z (N := 29) [(0, .t w.tt), (1, .t (T.ints mv))] Z Z (fun w0 G F0 => ?_);refine sG (Aa Z Z (AA Z) Z Z (nZ Z (AK tys Z Z (AA Z) Z Z Z (nZ Z (eZ Z (nB (sQ (sG (eZ Z ?_)))))))))
 try refine WO_le (Le.freeze (u := 8) rfl) ?_
 refine nZ Z (AQ ?_);refine ⟨_, A2 w hw, rfl, ?_⟩;refine eK 2 Z ?_;refine gB (fun h1 => ?_) (fun h1 => ?_)
 ·
  simp only [HS] at h1;refine xK 2 Z (kZ [1,2,4,5,11,13,14] Z (xK 3 Z (nB (AS Z (sG (Ag tys Z Z (AA Z) Z Z Z (by kernel_rfl) Z Z Z Z Z Z (sT Z (nZ Z (eZ Z (nB ?_))))))))))
  (first | (refine Cd (u := 4) (j := 3) (p := fun y => y = T.Tasks (doW w mv).tasks) rfl rfl (fun h => ⟨_, rfl, CT (by rw [doW_acts]; exact hx) h⟩) (fun y hy => ?_); subst hy; refine W_norm rfl ?_) | (refine W_le (Le.nilBox (u := 4) (j := 0) 1 rfl rfl) ?_; refine W_norm rfl ?_; refine W_le (Le.nilBox (u := 4) (j := 1) 1 rfl rfl) ?_; refine W_norm rfl ?_; refine W_le (Le.nilBox (u := 4) (j := 2) 1 rfl rfl) ?_; refine W_norm rfl ?_; refine W_le (Le.nilBox (u := 4) (j := 3) 4 rfl rfl) ?_; refine W_norm rfl ?_; refine W_le (Le.nilBox (u := 4) (j := 4) 1 rfl rfl) ?_; refine W_norm rfl ?_; refine W_le (Le.freezeB (u := 4) rfl rfl) ?_; refine W_norm rfl ?_))
  refine rT (tR (eR ?_))
  ·first
   | exact LI (by unfold Fh; first | (simp_all; done) | grind)
 simp only [HS] at h1
 have hg : AC w = true := by simp_all
 have hlf := movesOf_four (good_of hg)
 refine eZ Z ?_
 try refine WO_le (Le.freeze (u := 12) rfl) ?_
 refine nZ Z (gY Z (AQ ?_));refine ⟨_, CX w (good_of hg), rfl, ?_⟩;refine WO_le (Le.adoptE (u := 13) 13 Z (by first | exact He | exact Z)) ?_;refine nZ Z (kZ [1,2,4,5,11,13] Z (xZ Z (gY Z (AQ ?_))));refine ⟨_, J0 (Al w) mv (by have := hlf.1; omega) hmv (fun x hx => by have := hlf.2 x hx; omega), rfl, ?_⟩;refine xK 2 Z (nB ?_);refine AD Z (fun h2 => ?_) (fun h2 => ?_)
 ·
  simp only [HS] at h2;refine sG (Ag tys Z Z (AA Z) Z Z Z (by kernel_rfl) Z Z Z Z Z Z (sT Z (nZ Z (eZ Z (nB ?_)))))
  (first | (refine Cd (u := 4) (j := 3) (p := fun y => y = T.Tasks (doW w mv).tasks) rfl rfl (fun h => ⟨_, rfl, CT (by rw [doW_acts]; exact hx) h⟩) (fun y hy => ?_); subst hy; refine W_norm rfl ?_) | (refine W_le (Le.nilBox (u := 4) (j := 0) 1 rfl rfl) ?_; refine W_norm rfl ?_; refine W_le (Le.nilBox (u := 4) (j := 1) 1 rfl rfl) ?_; refine W_norm rfl ?_; refine W_le (Le.nilBox (u := 4) (j := 2) 1 rfl rfl) ?_; refine W_norm rfl ?_; refine W_le (Le.nilBox (u := 4) (j := 3) 4 rfl rfl) ?_; refine W_norm rfl ?_; refine W_le (Le.nilBox (u := 4) (j := 4) 1 rfl rfl) ?_; refine W_norm rfl ?_; refine W_le (Le.freezeB (u := 4) rfl rfl) ?_; refine W_norm rfl ?_))
  refine rT (tR (eR ?_))
  ·first
   | exact LI (by unfold Fh; first | (simp_all; done) | grind)
 simp only [HS] at h2;refine AE (tN (sQ ?_))
 have hhas : Dq (Al w) mv = true := by simp_all
 have hm := Eo hhas
 refine nY Z ?_;refine Cd (u := 2) (j := 3) (p := fun y => ∃ xs, All2 CN xs (w.tasks.map Task.acts) ∧ y = .list 4 ((xs.zip w.tasks).map ttT)) rfl rfl (fun h => by obtain ⟨xs, h1, h2⟩ := E0 (EJ hg) h; exact ⟨_, ⟨xs, h1, rfl⟩, h2⟩) (fun y hy => ?_)
 obtain ⟨xs, hx, rfl⟩ := hy
 refine nY Z (rG (eZ Z ?_))
 try refine WO_le (Le.freeze (u := 20) rfl) ?_
 refine nZ Z (eZ Z (BG Z Z (AA Z) Z Z Z Z Z (K3 w xs mv hg hm hw hx) Z (eZ Z (A3 Z Z (AA Z) Z Z Z Z ?_))))
 first | refine WO_le (Le.adoptE (u := 23) 23 rfl (by first | exact He | exact rfl)) ?_ | skip
 refine nZ Z (kZ [4,5,19,23] Z (WO_evF tys Z Z (AA Z) (d := .t _) Z (nZ Z (AK tys Z Z (AA Z) Z Z Z (nZ Z (sT Z (nZ Z (eZ Z (nB (sQ (sG (eK 2 Z (nB ?_)))))))))))));refine AD Z (fun h3 => ?_) (fun h3 => ?_)
 ·
  simp only [HS] at h3;refine sG (Ag tys Z Z (AA Z) Z Z Z (by kernel_rfl) Z Z Z Z Z Z (sT Z (nZ Z (eZ Z (kZ [4,5,6] Z (nB ?_))))))
  (first | (refine Cd (u := 4) (j := 3) (p := fun y => y = T.Tasks (doW w mv).tasks) rfl rfl (fun h => ⟨_, rfl, CT (by rw [doW_acts]; exact hx) h⟩) (fun y hy => ?_); subst hy; refine W_norm rfl ?_) | (refine W_le (Le.nilBox (u := 4) (j := 0) 1 rfl rfl) ?_; refine W_norm rfl ?_; refine W_le (Le.nilBox (u := 4) (j := 1) 1 rfl rfl) ?_; refine W_norm rfl ?_; refine W_le (Le.nilBox (u := 4) (j := 2) 1 rfl rfl) ?_; refine W_norm rfl ?_; refine W_le (Le.nilBox (u := 4) (j := 3) 4 rfl rfl) ?_; refine W_norm rfl ?_; refine W_le (Le.nilBox (u := 4) (j := 4) 1 rfl rfl) ?_; refine W_norm rfl ?_; refine W_le (Le.freezeB (u := 4) rfl rfl) ?_; refine W_norm rfl ?_))
  refine rT (tR (eR ?_))
  ·first
   | exact LI (by unfold Fh; rw [hg, hhas]; simp_all)
 simp only [HS] at h3;refine AE (tN (sG (eZ Z ?_)))
 try refine WO_le (Le.freeze (u := 28) rfl) ?_
 refine nZ Z (sT Z (nZ Z (eZ Z (kZ [4,5] Z (nB ?_)))))
 (first | (refine Cd (u := 4) (j := 3) (p := fun y => y = T.Tasks (doW w mv).tasks) rfl rfl (fun h => ⟨_, rfl, CT (by rw [doW_acts]; exact hx) h⟩) (fun y hy => ?_); subst hy; refine W_norm rfl ?_) | (refine W_le (Le.nilBox (u := 4) (j := 0) 1 rfl rfl) ?_; refine W_norm rfl ?_; refine W_le (Le.nilBox (u := 4) (j := 1) 1 rfl rfl) ?_; refine W_norm rfl ?_; refine W_le (Le.nilBox (u := 4) (j := 2) 1 rfl rfl) ?_; refine W_norm rfl ?_; refine W_le (Le.nilBox (u := 4) (j := 3) 4 rfl rfl) ?_; refine W_norm rfl ?_; refine W_le (Le.nilBox (u := 4) (j := 4) 1 rfl rfl) ?_; refine W_norm rfl ?_; refine W_le (Le.freezeB (u := 4) rfl rfl) ?_; refine W_norm rfl ?_))
 refine rT (eR ?_)
 ·first
  | exact NO hg hhas (by assumption)
open Go.Eng
theorem MC {w : World} (hg : AC w = true) {t : Task} (ht : t ∈ w.tasks) {a : Act} (ha : a ∈ t.acts) : a.cases.length ≤ 3 := by
 have h9 := (gw_iff.1 hg).ts t ht
 unfold AM BK at h9;simp only [Nk, decide_eq_true_eq, Np] at h9
 have hga := h9.1.1 a ha
 unfold AJ at hga;split at hga
 ·simp only [Nk, decide_eq_true_eq] at hga
  grind
 ·unfold AI at hga
  simp only [Nk, decide_eq_true_eq] at hga
  grind
theorem K9 {w : World} (hg : AC w = true) {x : List Int} (hx : x ∈ w.held) : x.length ≤ 3 := by
 have h := gw_iff.1 hg
 obtain ⟨k, hk, rfl⟩ := List.getElem_of_mem hx
 have hl := h.held
 have h1 := (h.hs k hk (by omega)).1
 have e2 := h.rooms
 rw [BD, Np] at e2
 have e3 := e2 _ (Nl (l := w.room) (n := k) (by omega))
 simp only [decide_eq_true_eq] at e3;omega
theorem FG {w : World} (hg : AC w = true) {B : Nat} (hB : 1000 ≤ B) : w.ok B := by
 have h := gw_iff.1 hg
 have h3 := h.room
 have h4 := h.held
 have h5 := h.shut
 have h6 := h.tasks
 have h7 := h.trace
 refine ⟨?_, ⟨?_, fun x hx => ?_⟩, ?_, ⟨?_, fun t ht => ⟨⟨?_, fun a ha => .of ⟨?_, fun b hb => .of ?_⟩⟩, trivial⟩⟩, ?_, trivial⟩
 ·show w.room.length ≤ B; omega
 ·show w.held.length ≤ B; omega
 ·show x.length ≤ B; have := K9 hg hx; omega
 ·show w.shut.length ≤ B; omega
 ·show w.tasks.length ≤ B; omega
 ·have := ((good_of hg).pos t ht).2.2; omega
 ·have := MC hg ht ha; omega
 ·rw [EJ hg t ht a ha b hb]; exact ⟨OQ _, fun c hc => by cases hc⟩
 ·show w.trace.length ≤ B; omega
theorem MH (w : World) (mv : List Int) : AC (dmR w mv) = true ∨ dmR w mv = world0 := by
 unfold dmR;split
 ·rename_i h
  unfold Fh at h;simp only [Nk] at h;exact .inl (EI h.1 (Eo h.2.1) h.2.2)
 ·exact .inr rfl
theorem Ks {B : Nat} : world0.ok B := ⟨OQ _, ⟨OQ _, fun x hx => by cases hx⟩, OQ _, ⟨OQ _, fun x hx => by cases hx⟩, OQ _, trivial⟩
theorem Mn {w : World} (h : AC w = true ∨ w = world0) {B : Nat} (hB : 1000 ≤ B) : w.ok B := by
 rcases h with h | rfl
 ·exact FG h hB
 ·exact Ks
open Go.Eng
abbrev T.ActLs (l : List (List (Act))) : T := .list 1 (l.map T.Acts)
open Go.Eng
def Fy (l : List Act) : Task := ⟨l, 0, if l.length = 0 then 1 else 0, 0⟩
def Dk (room : List Int) (acts : List (List Act)) : World := ⟨room, List.replicate room.length [], List.replicate room.length false, acts.map Fy, []⟩
def nwR (room : List Int) (acts : List (List Act)) : World := if AC (Dk room acts) then Dk room acts else world0
/-! Tasks whose acts are told. -/
open Go.Eng
theorem Kt {B : Nat} {room : List Int} {acts : List (List Act)} (hr : room.length ≤ B) (ha : okL B (okL B (Act.ok B)) acts) : (Dk room acts).ok B :=
 ⟨hr, ⟨by show (List.replicate _ _).length ≤ B; rw [List.length_replicate]; exact hr, fun x hx => by rw [List.eq_of_mem_replicate hx]; exact OQ _⟩, by show (List.replicate _ _).length ≤ B; rw [List.length_replicate]; exact hr,
  ⟨by show (acts.map Fy).length ≤ B; rw [Nj]; exact ha.1, fun t ht => by obtain ⟨l, hl, rfl⟩ := OM.1 ht; exact ⟨ha.2 l hl, trivial⟩⟩, OQ _, trivial⟩
open Go.Eng
def hT (p : Value × List Act) : T := .agg [.v p.1, T.int 0, T.int (Fy p.2).state, T.int 0]
theorem relHT {m : Go.World} {F : Nat → Prop} : ∀ {hs : List Value} {acts : List (List Act)}, hs.length = acts.length → ∀ {vs}, RelL m F vs (((hs.zip acts).map hT).flatMap T.cells) → RelL m F hs (acts.map T.Acts) → RelL m F vs (((acts.map Fy).map Task.tt).flatMap T.cells)
 | [], [], _, vs, h, _ => h
 | [], _ :: _, hl, _, _, _ => by simp at hl
 | _ :: _, [], hl, _, _, _ => by simp at hl
 | u :: hs, l :: acts, hl, vs, h, hr => by
  obtain ⟨h1, h2⟩ := hr.cons
  change RelL m F vs (.v u :: T.int 0 :: T.int (Fy l).state :: T.int 0 :: ((hs.zip acts).map hT).flatMap T.cells) at h;show RelL m F vs (T.Acts l :: T.int 0 :: T.int (Fy l).state :: T.int 0 :: ((acts.map Fy).map Task.tt).flatMap T.cells)
  cases vs with
  | nil => cases h
  | cons v vs =>
   obtain ⟨h0, h'⟩ := h.cons
   have e := Cy h0
   clear h;subst e
   cases h' with
   | v q1 h =>
    cases h with
    | v q2 h =>
     cases h with
     | v q3 h => exact RelL.cons' h1 (.v q1 (.v q2 (.v q3 (relHT (by simpa using hl) h h2))))
theorem relHTL {m : Go.World} {F : Nat → Prop} {hs : List Value} {acts : List (List Act)} (hl : hs.length = acts.length) {v : Value} (h : RelL m F [v] [.list 4 ((hs.zip acts).map hT)]) (hr : RelL m F hs (acts.map T.Acts)) : RelL m F [v] [T.Tasks (acts.map Fy)] := by
 generalize hy : T.list 4 ((hs.zip acts).map hT) = y at h
 cases h with
 | v p1 p2 => cases hy
 | none p =>
  have e := List.map_eq_nil_iff.1 (T.list.inj hy).2
  have e2 := congrArg List.length e
  rw [OH, N6] at e2
  have : acts = [] := OG (by omega)
  subst this; exact .none .nil
 | list p1 p2 p3 p4 p5 p6 p7 =>
  obtain ⟨rfl, rfl⟩ := T.list.inj hy
  have el : ((hs.zip acts).map hT).length = ((acts.map Fy).map Task.tt).length := by simp; omega
  rw [el] at p5 ⊢;exact .list p1 p2 p3 tasks_cells p5 (relHT hl p6 hr) .nil
theorem rd_new {room : List Int} {acts : List (List Act)} {R : T} (hR : R = T.Tasks (acts.map Fy)) : [D.agg [.t (T.ints room), .t (.list 1 (List.replicate room.length (.list 1 []))), .t (.list 1 (List.replicate room.length (.v (.bool false)))), .t R, .t (.list 1 [])]] = [(Dk room acts).rd] := by
 subst hR
 simp [Dk, T.ints]
theorem F5 (room : List Int) (acts : List (List Act)) (hr : room.length ≤ 1048576) (ha : okL 1048576 (okL 1048576 (Act.ok 1048576)) acts) : Fun Try.prog 59 [.t (T.ints room), .t (T.ActLs acts)] (tupD [(Dk room acts).rd]) := by
 have hal : acts.length ≤ 1048576 := ha.1
 refine Fun.begin tys Try.func59 Z Z (N := 37) [(0, .t (T.ints room)), (1, .t (T.ActLs acts))] Z Z (fun w0 G F0 => ?_);refine sG (AK tys Z Z (AA Z) Z Z Z (nZ Z (nB (sQ (Bd 9 Ac Z (by kernel_rfl) (by kernel_rfl) (QG_ev tys Z Z (AA Z) Z (QG_ev tys Z Z (AA Z) Z (De tys Z Z (AA Z) Z (by first | exact KQ | exact Z) ?_))))))));refine Lf tys (.list 1 []) _ Z Z (AA Z) Z Z Z Z Z (by repeat (first | exact AbsL.nil' | refine AbsL.v' ?_ | refine AbsL.none' ?_)) Z (by omega) (by decide) ?_;refine QG_ev tys Z Z (AA Z) Z (BW Z (De tys Z Z (AA Z) Z (by first | exact KQ | exact Z) ?_));refine Lf tys (.v (.bool false)) _ Z Z (AA Z) Z Z Z Z Z (by repeat (first | exact AbsL.nil' | refine AbsL.v' ?_ | refine AbsL.none' ?_)) Z (by omega) (by decide) ?_;refine Fe tys Z Z (AA Z) Z Z Z (by kernel_rfl) Z Z Z Z Z Z (DY tys Z Z (AA Z) Z Z Z Z (AF ?_));refine ⟨by kernel_rfl, ?_⟩;refine nZ Z (sT Z (nZ Z (nB (sQ (sQ (nY Z (W_le (Le.nilBox (u := 5) (j := 3) 4 Z Z) (nY Z (W_le (Le.adoptBox (u := 5) (j := 3) (id := 192) Z Z Z) (nY Z (W_le (Le.roNil 101) (nY Z (rG (eZ Z (evE ?_)))))))))))))));refine eZ Z (nB (AG ?_));refine lK (α := Int × Nat × List T × List Value) [1, 4, 5, 17, 18] [4] (fun x => [(19, .t (.int (x.1)))]) (fun x => [(5, .box [.t (T.ints room), .own (.list 1 (List.replicate room.length (.list 1 []))), .own (.list 1 (List.replicate room.length (.v (.bool false)))), .sl 192 0 (x.2.1), .nil]), (192, .L 4 (x.2.2.1)), (101, .ro (x.2.2.2) ((acts.take (x.1).toNat).map T.Acts))]) (fun x => 0 ≤ (x.1) ∧ (x.1) ≤ acts.length ∧ (x.2.1) = (x.2.2.1).length ∧ (x.2.2.1) = ((x.2.2.2).zip (acts.take (x.1).toNat)).map hT ∧ ((x.2.2.2).length : Int) = (x.1)) (fun x => Int.toNat (acts.length - (x.1))) (0, 0, [], []) ?_ (fun x hx => ?_)
 ·exact ⟨by omega, by omega, rfl, rfl, rfl⟩
 obtain ⟨i, m, ys, hs⟩ := x
 obtain ⟨hi0, hi1, hm, hys, hhs⟩ := hx
 dsimp only at hi0 hi1 hm hys hhs ⊢;refine nY Z (sG (eZ Z (nB (sQ ?_))));refine AD Z (fun h1 => ?_) (fun h1 => ?_)
 ·
  simp only [HS] at h1;refine AE (tN (sQ (AG (sQ ?_))))
  obtain ⟨l, hl⟩ : ∃ l, l = acts[i.toNat]'(by omega) := ⟨_, rfl⟩
  have hll : l.length ≤ 1048576 := (ha.2 l (by rw [hl]; exact Nl _)).1
  have hyl : ys.length = i.toNat := by rw [hys, Nj, OH, N0]; omega
  refine rG ?_;refine iY (k := ?_);refine eZ Z ?_;rw [← hl];refine eZ Z (nB (sQ (nY Z ?_)));refine NU (t := 7) 102 Z Z (fun ad cp => ?_);rw [Nj];refine nY Z (W_le (Le.roJoin 101 102 Z Z) (nY Z (W_le (Le.eqK (id := 101) (k' := .ro (hs ++ [.slice ad l.length cp]) ((acts.take (i + 1).toNat).map T.Acts)) Z (by rw [Bf hi0 (by omega), ← hl, OU]; rfl)) ?_)));refine nY Z (rG (eZ Z (Ag tys Z Z (AA Z) Z Z Z (by kernel_rfl) Z Z Z Z Z Z (AK tys Z Z (AA Z) Z Z Z (nZ Z (sT Z (nZ Z (nB (sQ (sQ (kY [1,4,5,7,8,17,18,19,20,21,22,23,24] Z (rG (eZ Z (Eb Z Z (AA Z) Z ⟨74, by kernel_rfl⟩ rfl (eZ Z ?_)))))))))))))));refine nB ?_;refine BM (α := Int) [1, 4, 5, 7, 8, 17, 18, 19, 20, 21, 22, 23, 24, 25, 26, 27] [4, 5, 101, 192] (fun x => []) (fun x => [(8, .box [.t (.v (.slice ad l.length cp)), .t (T.int 0), .t (T.int x), .t (T.int 0)])]) (fun x => x = (Fy l).state) ?_ (fun st hx => ?_)
  ·
   refine AD Z (fun h2 => ?_) (fun h2 => ?_)
   ·
    simp only [HS] at h2;refine rG (eZ Z (sT Z (nZ Z (oN (jQ _ ?_)))));unfold Fy
    simp_all
    done
   simp only [HS] at h2;refine AE (jQ _ ?_);unfold Fy
   simp_all
   done
  have hst := hx
  refine tN (kY [1,4,5,7,8,17,18,19,20,21,22,23,24,25,26,27] Z (rG (eK 3 Z ?_)))
  try refine WO_le (Le.freeze (u := 31) rfl) ?_
  refine nZ Z (bZ [.agg [.v (.slice ad l.length cp), T.int 0, T.int st, T.int 0]] ?_);refine nZ Z (Ab tys Z Z (AA Z) Z Z Z Z Z (.own Z (by first | omega | (simp only [Nu]; omega))) Z (.own Z (by first | decide | omega)) (by decide) (by simp only [N0, Nx, N6]; omega) (by decide) Z ?_);refine nZ Z (eZ Z (sT Z (nZ Z (oN (bN (tN (kY [1,4,5,7,8,17,18,19,20,21,22,23,24,25,26,27,29,30,31,32,33,34] Z (rG (evI ?_)))))))));refine eZ Z (oN ?_);refine lQ (_, _, _, _) ?_ ?_
  ·dsimp only
   subst hm;refine ⟨by omega, by omega, by simp, ?_, by simp; omega⟩;rw [N8, hys, Bf hi0 (by omega), ← hl, List.zip_append (by rw [N0]; omega), OU, hst];rfl
  ·(show Int.toNat _ < Int.toNat _); omega
 simp only [HS] at h1;refine AR (tE (AO (AN (tN (sQ ?_)))))
 obtain rfl : i = acts.length := by omega
 rw [show ((acts.length : Int)).toNat = acts.length from by omega, N8] at hys ⊢;subst hm hys;refine W_le (Le.gatherBox (u := 5) (j := 3) (id := 192) Z Z Z (Nm _) Z) (nY Z ?_);rw [N8];refine W_le (Le.nilBox (u := 5) (j := 4) 1 Z Z) (nY Z (W_le (Le.freezeB (u := 5) Z Z) (nY Z (NX (u := 5) (j := 3) (idr := 101) (T.Tasks (acts.map Fy)) Z Z Z (fun h1 h2 => relHTL (by omega) h1 h2) (nY Z (rG (eZ Z ?_)))))))
 try refine WO_le (Le.freeze (u := 36) rfl) ?_
 refine nZ Z (sT Z (nZ Z (nB (rT (eR ?_)))))
 ·exact rd_new rfl
open Go.Eng
def Ei (w : World) (p : Int) : List Int := at0 [] (Al w) (p.tmod (Al w).length)
def B4 (w : World) (n : Int) : List Int → World × Int
 | [] => (w, n)
 | p :: ps => if (Al w).length = 0 then (w, n) else if GA w (Ei w p) then B4 (doW w (Ei w p)) (n + 1) ps else (w, n)
def FB (room : List Int) (acts : List (List Act)) (picks : List Int) : Bool := AC (Dk room acts) && (decide (picks.length ≤ 120) && BD picks 0 999)
def pwR (room : List Int) (acts : List (List Act)) (picks : List Int) : World × Int := if FB room acts picks then B4 (Dk room acts) 0 picks else (world0, 0)
theorem KV {p : Int} {n : Nat} (hp : 0 ≤ p) (hn : n ≠ 0) : 0 ≤ p.tmod n ∧ p.tmod n < n := by
 rw [Int.tmod_eq_emod_of_nonneg hp];exact ⟨Int.emod_nonneg _ (Int.natCast_ne_zero.2 hn), Int.emod_lt_of_pos _ (Int.natCast_pos.2 (Nat.pos_of_ne_zero hn))⟩
theorem Gc {w : World} {p : Int} (hp : 0 ≤ p) (hn : (Al w).length ≠ 0) : Ei w p ∈ Al w := by
 obtain ⟨h0, h1⟩ := KV hp hn
 rw [Ei, AL h0 h1];exact Nl _
theorem Gb {w : World} {n k : Int} {l : List Int} (h0 : 0 ≤ k) (h1 : k < l.length) : B4 w n (l.drop k.toNat) = if (Al w).length = 0 then (w, n) else if GA w (Ei w (l[k.toNat]'(by omega))) then B4 (doW w (Ei w (l[k.toNat]'(by omega)))) (n + 1) (l.drop (k + 1).toNat) else (w, n) := by
 rw [Bg h0 h1, B4]
theorem Jg {l : List Int} {lo hi : Int} (h : BD l lo hi = true) {i : Nat} (hi' : i < l.length) : lo ≤ l[i] ∧ l[i] ≤ hi := by
 rw [BD, Np] at h;exact of_decide_eq_true (h _ (Nl hi'))
open Go.Eng
theorem Fv : ∀ (l : List Int) {w : World} {n : Int}, AC w = true → (∀ p, p ∈ l → 0 ≤ p) → AC (B4 w n l).1 = true
 | [], w, n, h, _ => h
 | p :: l, w, n, h, hp => by
  rw [B4];split
  ·exact h
  ·rename_i hne
   split
   ·rename_i hd
    exact Fv l (EI h (En (Gc (hp p (by simp)) hne)) hd) fun q hq => hp q (by simp [hq])
   ·exact h
open Go.Eng
theorem relWT {m : Go.World} {F : Nat → Prop} {w : World} {xs : List T} (hx : All2 CN xs (w.tasks.map Task.acts)) {vs : List Value} (h : RelL m F vs [T.ints w.room, Af w.held, T.bools w.shut, .list 4 ((xs.zip w.tasks).map ttT), T.ints w.trace]) :
  RelL m F vs [T.ints w.room, Af w.held, T.bools w.shut, T.Tasks w.tasks, T.ints w.trace] := by
 cases vs with
 | nil => cases h
 | cons v0 vs =>
  obtain ⟨h0, h⟩ := h.cons
  cases vs with
  | nil => cases h
  | cons v1 vs =>
   obtain ⟨h1, h⟩ := h.cons
   cases vs with
   | nil => cases h
   | cons v2 vs =>
    obtain ⟨h2, h⟩ := h.cons
    cases vs with
    | nil => cases h
    | cons v3 vs =>
     obtain ⟨h3, h4⟩ := h.cons
     exact RelL.cons' h0 (RelL.cons' h1 (RelL.cons' h2 (RelL.cons' (CT hx h3) h4)))
theorem HB (room : List Int) (acts : List (List Act)) (hr : room.length ≤ 1048576) (ha : okL 1048576 (okL 1048576 (Act.ok 1048576)) acts) : FunX Try.prog 87 [.t (T.ints room), .t (T.ActLs acts)] (fun (xs : List T) => tupD [ddW (nwR room acts) xs, .t (.bool (AC (Dk room acts)))]) (fun (xs : List T) => All2 CN xs ((nwR room acts).tasks.map Task.acts)) := by
 refine FunX.begin (rs := fun (xs : List T) => [ddW (nwR room acts) xs, .t (.bool (AC (Dk room acts)))]) (p := fun (xs : List T) => All2 CN xs ((nwR room acts).tasks.map Task.acts)) tys Try.func87 Z Z (N := 16) [(0, .t (T.ints room)), (1, .t (T.ActLs acts))] Z Z (fun w0 G F0 => ?_);refine sG (AK tys Z Z (AA Z) Z Z Z (nZ Z (eZ Z (nA (eK 2 Z (BG Z Z (AA Z) Z Z Z Z Z (F5 room acts hr ha) Z (AK tys Z Z (AA Z) Z Z Z (nZ Z (sT Z (nZ Z (nB (sQ (sQ (kY [4,5,6] Z (rG ?_)))))))))))))));refine eZ Z ?_
 try refine WO_le (Le.freeze (u := 10) rfl) ?_
 refine nZ Z (AQ ?_);refine ⟨_, A2 (Dk room acts) (Kt hr ha), rfl, ?_⟩;refine eZ Z (nB ?_);refine AD Z (fun h1 => ?_) (fun h1 => ?_)
 ·
  simp only [HS] at h1;refine sG (Ag tys Z Z (AA Z) Z Z Z (by kernel_rfl) Z Z Z Z Z Z (sT Z (nZ Z (eZ Z (nB (W_le (Le.nilBox (u := 4) (j := 0) 1 Z Z) (nY Z (W_le (Le.nilBox (u := 4) (j := 1) 1 Z Z) (nY Z (W_le (Le.nilBox (u := 4) (j := 2) 1 Z Z) (nY Z (W_le (Le.nilBox (u := 4) (j := 3) 4 Z Z) (nY Z (W_le (Le.nilBox (u := 4) (j := 4) 1 Z Z) (nY Z ?_)))))))))))))));refine rT (tR ?_)
  first
  | (have hng : AC (Dk room acts) = false := (by simp_all); have hnw : nwR room acts = world0 := (by rw [nwR, hng]; rfl); rw [hnw, hng]; refine EndsX.of [] .nil ?_)
  refine eR ?_
  ·rfl
 simp only [HS] at h1;refine AE (tN (sQ ?_))
 have hg : AC (Dk room acts) = true := by simp_all
 refine nY Z ?_;refine Cd (u := 6) (j := 3) (p := fun y => ∃ xs, All2 CN xs ((Dk room acts).tasks.map Task.acts) ∧ y = .list 4 ((xs.zip (Dk room acts).tasks).map ttT)) rfl rfl (fun h => by obtain ⟨xs, h1, h2⟩ := E0 (EJ hg) h; exact ⟨_, ⟨xs, h1, rfl⟩, h2⟩) (fun y hy => ?_)
 obtain ⟨xs, hx, rfl⟩ := hy
 refine nY Z (rG (eZ Z ?_))
 try refine WO_le (Le.freeze (u := 14) rfl) ?_
 refine nZ Z (AQ ?_);refine ⟨_, Gd (Dk room acts) xs (Kt hr ha) hx, rfl, ?_⟩;refine sT Z (nZ Z (eZ Z (nB ?_)))
 skip
 refine rT ?_
 first
 | (have hnw : nwR room acts = Dk room acts := (by rw [nwR, if_pos hg]); rw [hnw, hg]; refine EndsX.of xs hx ?_)
 refine eR ?_
 ·rfl
open Go.Eng
def posS : List Task → Int
 | [] => 0
 | t :: l => t.pos + posS l
def panT : List Task → Int
 | [] => 0
 | t :: l => (if t.state = 2 then 1 else 0) + panT l
def panS : List Task → List Task → Int
 | t :: l, u :: m => (if u.state = 2 ∧ ¬ t.state = 2 then 1 else 0) + panS l m
 | _, _ => 0
theorem Ek {t1 t : Task} : ∀ {l : List Task} {i : Nat}, l[i]? = some t → posS (l.set i t1) = posS l - t.pos + t1.pos
 | [], _, h => by simp at h
 | a :: l, 0, h => by simp at h; subst h; simp only [List.set_cons_zero, posS]; omega
 | a :: l, i + 1, h => by
  rw [List.set_cons_succ, posS, posS, Ek (by simpa using h)]; omega
theorem El {t1 t : Task} : ∀ {l : List Task} {i : Nat}, l[i]? = some t → panT (l.set i t1) = panT l - (if t.state = 2 then 1 else 0) + (if t1.state = 2 then 1 else 0)
 | [], _, h => by simp at h
 | a :: l, 0, h => by simp at h; subst h; simp only [List.set_cons_zero, panT]; omega
 | a :: l, i + 1, h => by
  rw [List.set_cons_succ, panT, panT, El (by simpa using h)]; omega
theorem FE : ∀ l : List Task, panS l l = 0
 | [] => rfl
 | t :: l => by rw [panS, FE l]; simp
theorem Em {t1 t : Task} (ht : ¬ t.state = 2) : ∀ {l m : List Task} {i : Nat}, l[i]? = some t → m[i]? = some t → panS l (m.set i t1) = panS l m + (if t1.state = 2 then 1 else 0)
 | [], _, _, h, _ => by simp at h
 | _ :: _, [], _, _, h => by simp at h
 | a :: l, b :: m, 0, h, h' => by
  simp at h h'; subst h h'
  simp only [List.set_cons_zero, panS]
  simp [ht]
  omega
 | a :: l, b :: m, i + 1, h, h' => by
  rw [List.set_cons_succ, panS, panS, Em ht (by simpa using h) (by simpa using h')]; omega
inductive MoveT (l m : List Task) : Prop
 | one (i : Nat) (t t1 : Task) : l[i]? = some t → t.state = 0 → m = l.set i t1 → ((t1.pos = t.pos + 1 ∧ ¬ t1.state = 2) ∨ (t1.pos = t.pos ∧ t1.state = 2)) → MoveT l m
 | two (i j : Nat) (t u t1 u1 : Task) : ¬ j = i → l[i]? = some t → l[j]? = some u → t.state = 0 → u.state = 0 → m = (l.set j u1).set i t1 → t1.pos = t.pos + 1 → ¬ t1.state = 2 → u1.pos = u.pos + 1 → ¬ u1.state = 2 → MoveT l m
theorem Gx {t : Task} (h : t.state = 0) : ¬ (advT t).state = 2 := by unfold advT; simp only; split <;> omega
theorem Jd {w : World} {mv : List Int} (hg : AC w = true) (hm : Ll w mv) : MoveT w.tasks (doW w mv).tasks := by
 have hi0 := hm.i0
 have hi1 := hm.i1
 have hat : Ax w mv ∈ ways (tk w (at0 0 mv 0)) := by rw [Ax, AL hm.k0 hm.k1]; exact Nl _
 have htm := Iy hi0 hi1
 obtain ⟨hk, hch, hn, hst, hp⟩ := CY hg htm hat
 have htk : ∀ {w' : World} {I : Int}, 0 ≤ I → I < w'.tasks.length → w'.tasks[I.toNat]? = some (tk w' I) := fun {w' I} h0 h1 => by rw [tk, AL h0 h1, List.getElem?_eq_getElem (by omega)]
 have hget := htk hi0 hi1
 have adv : ∀ {w' : World}, w'.tasks = w.tasks → tk w' (at0 0 mv 0) = tk w (at0 0 mv 0) → MoveT w.tasks (advW w' (at0 0 mv 0)).tasks := fun {w'} h1 h2 => by
  refine .one (at0 0 mv 0).toNat (tk w (at0 0 mv 0)) (advT (tk w (at0 0 mv 0))) hget hst ?_ (.inl ⟨rfl, Gx hst⟩);show w'.tasks.set _ (advT (tk w' _)) = _;rw [h1, h2]
 have adv0 : ∀ {w' : World} {n : Int}, w'.tasks = w.tasks.set (at0 0 mv 0).toNat { tk w (at0 0 mv 0) with last := n } → MoveT w.tasks (advW w' (at0 0 mv 0)).tasks := fun {w' n} h1 => by
  refine .one (at0 0 mv 0).toNat (tk w (at0 0 mv 0)) (advT { tk w (at0 0 mv 0) with last := n }) hget hst ?_ (.inl ⟨rfl, Gx hst⟩);show w'.tasks.set _ (advT (tk w' _)) = _
  have e : tk w' (at0 0 mv 0) = { tk w (at0 0 mv 0) with last := n } := by
   have e0 : w'.tasks[(at0 0 mv 0).toNat]? = some { tk w (at0 0 mv 0) with last := n } := by rw [h1]; exact List.getElem?_set_self (by omega)
   show (w'.tasks[(at0 0 mv 0).toNat]?).getD task0 = _;rw [e0]; rfl
  rw [e, h1, Nr]
 unfold doW;split
 ·exact adv rfl rfl
 ·split
  ·exact .one (at0 0 mv 0).toNat (tk w (at0 0 mv 0)) _ hget hst rfl (.inr ⟨rfl, rfl⟩)
  ·split
   ·exact adv rfl rfl
   ·split
    ·rename_i hs5
     obtain ⟨hj1, hj2, hj3⟩ := hm.j.resolve_left (by omega)
     have hjs : (tk w (at0 0 mv 2)).state = 0 := Classical.byContradiction fun hx => by unfold ways at hj3; rw [if_neg hx] at hj3; simp at hj3
     have e1 : tk (setT w (at0 0 mv 2) { tk w (at0 0 mv 2) with last := (Ax w mv).n }) (at0 0 mv 2) = { tk w (at0 0 mv 2) with last := (Ax w mv).n } := by rw [B5 hj1.1 hj1.2 hj1.1, if_pos rfl]
     have l1 : ∀ (w : World) (i : Int) (t : Task), (setT w i t).tasks.length = w.tasks.length := fun w i t => Ns
     have e2 : tk (advW (setT w (at0 0 mv 2) { tk w (at0 0 mv 2) with last := (Ax w mv).n }) (at0 0 mv 2)) (at0 0 mv 0) = tk w (at0 0 mv 0) := by
      rw [advW, B5 hj1.1 (by rw [l1]; exact hj1.2) hi0, if_neg hj2, B5 hj1.1 hj1.2 hi0, if_neg hj2]
     refine .two (at0 0 mv 0).toNat (at0 0 mv 2).toNat (tk w (at0 0 mv 0)) (tk w (at0 0 mv 2)) (advT (tk w (at0 0 mv 0))) (advT { tk w (at0 0 mv 2) with last := (Ax w mv).n }) (by omega) hget (htk hj1.1 hj1.2) hst hjs ?_ Z (Gx hst) Z (Gx hjs);show (((w.tasks.set _ _).set _ (advT (tk _ _)))).set _ (advT (tk _ _)) = _;rw [e1, e2, Nr]
    ·split
     ·exact adv rfl rfl
     ·split
      ·exact adv0 rfl
      ·exact adv0 rfl
theorem F3 {l m : List Task} (h : MoveT l m) : 0 ≤ posS m - posS l ∧ posS m - posS l ≤ 2 ∧ 0 ≤ panS l m ∧ panS l m ≤ 1 ∧ 1 ≤ posS m - posS l + panS l m ∧ 1 ≤ (posS m + panT m) - (posS l + panT l) := by
 cases h with
 | one i t t1 h1 h2 h3 h4 =>
  subst h3;rw [Ek h1, Em (by omega) h1 h1, FE, El h1]
  rcases h4 with ⟨a, b⟩ | ⟨a, b⟩
  ·simp [a, b, h2]; omega
  ·simp [a, b, h2]; omega
 | two i j t u t1 u1 hij h1 h2 h3 h4 h5 h6 h7 h8 h9 =>
  subst h5
  have h1' : (l.set j u1)[i]? = some t := by rw [List.getElem?_set_ne hij]; exact h1
  rw [Ek h1', Ek h2, Em (by omega) h1 h1', Em (by omega) h2 h2, FE, El h1', El h2]
  simp [h3, h4, h6, h7, h8, h9]
  omega
theorem Kn : ∀ {l : List Task}, (∀ t, t ∈ l → t.pos ≤ t.acts.length ∧ (t.state = 2 → t.pos < t.acts.length)) → posS l + panT l ≤ ((l.map fun t => (t.acts.length : Int)).sum)
 | [], _ => by simp [posS, panT]
 | t :: l, h => by
  have h1 := h t (by simp)
  have h2 := Kn (l := l) fun u hu => h u (by simp [hu])
  simp only [posS, panT, OA, List.sum_cons];split
  ·have := h1.2 (by assumption); omega
  ·omega
theorem K8 {w : World} (hg : AC w = true) : posS w.tasks + panT w.tasks ≤ (((w.tasks.map Task.acts).map fun l => (l.length : Int)).sum) := by
 rw [List.map_map]
 refine Kn fun t ht => ?_
 have h9 := (gw_iff.1 hg).ts t ht
 unfold AM at h9;simp only [Nk, decide_eq_true_eq] at h9
 obtain ⟨a, b, d, e, f⟩ := h9
 grind
theorem Hv (w : World) (mv : List Int) : (doW w mv).trace.length ≤ w.trace.length + 1 := by
 have a1 : ∀ (w : World) i t, (setT w i t).trace = w.trace := fun _ _ _ => rfl
 have a2 : ∀ (w : World) i, (advW w i).trace = w.trace := fun _ _ => rfl
 unfold doW
 split <;> first | (simp [a1, a2]; done) | skip
 split <;> first | (simp [a1, a2]; done) | skip
 split <;> first | (simp [a1, a2]; done) | skip
 split <;> first | (simp [a1, a2]; done) | skip
 split <;> first | (simp [a1, a2]; done) | skip
 split <;> (simp [a1, a2]; done)
theorem FC : ∀ (l : List Int) {w : World} {n : Int}, AC w = true → (∀ p, p ∈ l → 0 ≤ p) → (w.trace.length : Int) + l.length ≤ 120 →
  (B4 w n l).2 - n ≤ (posS (B4 w n l).1.tasks + panT (B4 w n l).1.tasks) - (posS w.tasks + panT w.tasks) ∧ n ≤ (B4 w n l).2 ∧ (B4 w n l).2 ≤ n + l.length ∧
  ((B4 w n l).2 < n + l.length → (Al (B4 w n l).1).length = 0) ∧ (B4 w n l).1.tasks.map Task.acts = w.tasks.map Task.acts ∧ B4 w n (l.take ((B4 w n l).2 - n).toNat) = B4 w n l
 | [], w, n, hg, _, _ => by simp [B4]
 | p :: l, w, n, hg, hp, ht => by
  have hp0 := hp p (by simp)
  rw [Nx] at ht;rw [B4];split
  ·rename_i he
   refine ⟨by simp, by simp, by simp; omega, fun _ => he, rfl, ?_⟩
   simp [B4]
  ·rename_i hne
   have hmm := Gc hp0 hne
   have hm := En hmm
   have hmt := F3 (Jd hg hm)
   have htl : (doW w (Ei w p)).trace.length ≤ w.trace.length + 1 := Hv w _
   have hd : GA w (Ei w p) = true := decide_eq_true (by omega)
   rw [if_pos hd]
   have ih := FC l (n := n + 1) (EI hg hm hd) (fun q hq => hp q (by simp [hq])) (by omega)
   obtain ⟨a, b, c, d, e, f⟩ := ih
   refine ⟨by omega, by omega, by rw [Nx]; omega, fun h => d (by rw [Nx] at h; omega), e.trans (doW_acts w _), ?_⟩;rw [show ((B4 (doW w (Ei w p)) (n + 1) l).2 - n).toNat = ((B4 (doW w (Ei w p)) (n + 1) l).2 - (n + 1)).toNat + 1 from by omega, List.take_succ_cons, B4, if_neg hne, if_pos hd, f]
open Go.Eng
theorem Km {room : List Int} {acts : List (List Act)} {picks : List Int} (h : FB room acts picks = false) : (pwR room acts picks).1 = world0 ∧ (pwR room acts picks).2 = 0 := by
 unfold pwR; rw [h]; exact ⟨rfl, rfl⟩
theorem Ga {room : List Int} {acts : List (List Act)} {picks : List Int} {w : World} {n : Int} (h : FB room acts picks = true) (hp : B4 (Dk room acts) 0 picks = (w, n)) : (pwR room acts picks).1 = w ∧ (pwR room acts picks).2 = n := by
 unfold pwR; rw [if_pos h, hp]; exact ⟨rfl, rfl⟩
theorem GN (room : List Int) (acts : List (List Act)) (picks : List Int) (hr : room.length ≤ 1048576) (ha : okL 1048576 (okL 1048576 (Act.ok 1048576)) acts) (hp : picks.length ≤ 1048576) : FunX Try.prog 57 [.t (T.ints room), .t (T.ActLs acts), .t (T.ints picks)] (fun (xs : List T) => tupD [ddW (pwR room acts picks).1 xs, .t (.int (pwR room acts picks).2), .t (.bool (FB room acts picks))]) (fun (xs : List T) => All2 CN xs ((pwR room acts picks).1.tasks.map Task.acts)) := by
 refine FunX.begin (rs := fun (xs : List T) => [ddW (pwR room acts picks).1 xs, .t (.int (pwR room acts picks).2), .t (.bool (FB room acts picks))]) (p := fun (xs : List T) => All2 CN xs ((pwR room acts picks).1.tasks.map Task.acts)) tys Try.func57 Z Z (N := 70) [(0, .t (T.ints room)), (1, .t (T.ActLs acts)), (2, .t (T.ints picks))] Z Z (fun w0 G F0 => ?_);refine sG (AK tys Z Z (AA Z) Z Z Z (nZ Z (eK 2 Z (nA (eK 2 Z ?_)))));refine Jj Z Z (AA Z) Z Z (by repeat (first | exact ResL.done | refine ResL.t ?_ | refine ResL.own ?_ | refine ResL.aggT (by repeat (first | exact ResL.done | refine ResL.own ?_ | refine ResL.t ?_)) ?_ | refine ResL.slA Z (by first | rfl | (simp; done) | (simp; omega)) ?_ | refine ResL.nil 1 ?_)) (HB room acts hr ha) (fun _ => rfl) (fun xs hx0 => ?_);refine nZ Z (nZ Z (Ae Z Z (AA Z) (.inr Z) Z Z (A3 Z Z (AA Z) Z Z Z Z ?_)))
 first | refine WO_le (Le.adoptE (u := 20) 20 rfl (by first | exact He | exact rfl)) ?_ | skip
 refine nZ Z (WO_evF tys Z Z (AA Z) (d := .t _) Z (nZ Z (kZ [2,6,7,8,20,21] Z (AK tys Z Z (AA Z) Z Z Z (nZ Z (sT Z (nZ Z (eZ Z (nB (sQ (sG (eK 3 Z ?_))))))))))));refine gB (fun h1 => ?_) (fun h1 => ?_)
 ·
  simp only [HS] at h1;refine xK 3 Z (kZ [2,6,7,8,9,28] Z (xK 5 Z (nB (AS Z (sG (Ag tys Z Z (AA Z) Z Z Z (by kernel_rfl) Z Z Z Z Z Z (sT Z (nZ Z (eK 2 Z (kZ [2,6,7,8,9] Z (nB (W_le (Le.nilBox (u := 6) (j := 0) 1 Z Z) (nY Z (W_le (Le.nilBox (u := 6) (j := 1) 1 Z Z) (nY Z ?_)))))))))))))));refine W_le (Le.nilBox (u := 6) (j := 2) 1 Z Z) (nY Z (W_le (Le.nilBox (u := 6) (j := 3) 4 Z Z) (nY Z (W_le (Le.nilBox (u := 6) (j := 4) 1 Z Z) (nY Z (rT (tR ?_)))))))
  first
  | (have hno : FB room acts picks = false := (by unfold FB; first | (simp_all; done) | (simp_all; omega)); obtain ⟨hw1, hw2⟩ := Km hno; refine EndsX.of [] (by rw [hw1]; exact .nil) ?_; rw [hw1, hw2, hno])
  refine eR ?_
  ·rfl
 simp only [HS] at h1;refine eZ Z (gY Z (evE ?_));refine xZ Z (kZ [2,6,7,8,9,24,27] Z (eK 2 Z ?_));refine gB (fun h2 => ?_) (fun h2 => ?_)
 ·
  simp only [HS] at h2;refine xK 3 Z (nB (AS Z (sG (Ag tys Z Z (AA Z) Z Z Z (by kernel_rfl) Z Z Z Z Z Z (sT Z (nZ Z (eK 2 Z (kZ [2,6,7,8,9] Z (nB (W_le (Le.nilBox (u := 6) (j := 0) 1 Z Z) (nY Z (W_le (Le.nilBox (u := 6) (j := 1) 1 Z Z) (nY Z (W_le (Le.nilBox (u := 6) (j := 2) 1 Z Z) (nY Z ?_)))))))))))))));refine W_le (Le.nilBox (u := 6) (j := 3) 4 Z Z) (nY Z (W_le (Le.nilBox (u := 6) (j := 4) 1 Z Z) (nY Z (rT (tR ?_)))))
  first
  | (have hno : FB room acts picks = false := (by unfold FB; first | (simp_all; done) | (simp_all; omega)); obtain ⟨hw1, hw2⟩ := Km hno; refine EndsX.of [] (by rw [hw1]; exact .nil) ?_; rw [hw1, hw2, hno])
  refine eR ?_
  ·rfl
 simp only [HS] at h2;refine eZ Z (gY Z (AQ ?_));refine ⟨_, EG _ _ _ (by omega), rfl, ?_⟩;refine xK 2 Z (nB ?_);refine AD Z (fun h3 => ?_) (fun h3 => ?_)
 ·
  simp only [HS] at h3;refine sG (Ag tys Z Z (AA Z) Z Z Z (by kernel_rfl) Z Z Z Z Z Z (sT Z (nZ Z (eZ Z (kZ [2,6,7,8,9] Z (eZ Z (nB (W_le (Le.nilBox (u := 6) (j := 0) 1 Z Z) (nY Z (W_le (Le.nilBox (u := 6) (j := 1) 1 Z Z) (nY Z (W_le (Le.nilBox (u := 6) (j := 2) 1 Z Z) (nY Z (W_le (Le.nilBox (u := 6) (j := 3) 4 Z Z) (nY Z ?_)))))))))))))));refine W_le (Le.nilBox (u := 6) (j := 4) 1 Z Z) (nY Z (rT (tR ?_)))
  first
  | (have hno : FB room acts picks = false := (by unfold FB; first | (simp_all; done) | (simp_all; omega)); obtain ⟨hw1, hw2⟩ := Km hno; refine EndsX.of [] (by rw [hw1]; exact .nil) ?_; rw [hw1, hw2, hno])
  refine eR ?_
  ·rfl
 simp only [HS] at h3;refine AE (tN (sQ (sQ ?_)))
 have hg : AC (Dk room acts) = true := by simp_all
 have hpl : picks.length ≤ 120 := by first | omega | (simp_all; done) | (simp_all; omega)
 have hpi : BD picks 0 999 = true := by simp_all
 have hok : FB room acts picks = true := by rw [FB, hg, hpi]; simp [hpl]
 have hnw : nwR room acts = Dk room acts := by rw [nwR, if_pos hg]
 rw [hnw] at hx0;rw [hnw];refine rG (eZ Z (evE ?_));refine eZ Z (kZ [2,6,7,8,9,35,36,37] Z (nB (AG ?_)));refine lK (α := Int × World) [2, 6, 8, 9, 35, 36] [6] (fun x => [(37, .t (.int (x.1)))]) (fun x => [(9, .box [.own (T.ints (x.2).room), .own (Af (x.2).held), .own (T.bools (x.2).shut), .own (.list 4 ((xs.zip (x.2).tasks).map ttT)), .own (T.ints (x.2).trace)])]) (fun x => 0 ≤ (x.1) ∧ (x.1) ≤ picks.length ∧ AC (x.2) = true ∧ (x.2).tasks.map Task.acts = (Dk room acts).tasks.map Task.acts ∧ ((x.2).trace.length : Int) ≤ (x.1) ∧ B4 (Dk room acts) 0 picks = B4 (x.2) (x.1) (picks.drop (x.1).toNat)) (fun x => Int.toNat (picks.length - (x.1))) (0, Dk room acts) ?_ (fun x hx => ?_)
 ·exact ⟨by omega, by omega, hg, rfl, by simp [Dk], rfl⟩
 obtain ⟨k, w⟩ := x
 obtain ⟨hk0, hk1, hgw, hac, htr, hpe⟩ := hx
 dsimp only at hk0 hk1 hgw hac htr hpe ⊢;refine nY Z (sG (eZ Z (nB (sQ ?_))));refine AD Z (fun h4 => ?_) (fun h4 => ?_)
 ·
  simp only [HS] at h4;refine AE (tN (sQ (AG (sG (eZ Z ?_)))));refine iY (k := ?_);refine eK 3 Z (nB (sQ ?_))
  have hkp : 0 ≤ picks[k.toNat]'(by omega) := (Jg hpi _).1
  have hlf := movesOf_four (good_of hgw)
  have hx : All2 CN xs (w.tasks.map Task.acts) := by rw [hac]; exact hx0
  refine nY Z (W_WO ?_);refine BV (u := 9) (idp := 140) (j := 0) Z Z Z (fun v0 => ?_);refine nZ Z ?_;refine BV (u := 9) (idp := 141) (j := 1) Z Z Z (fun v1 => ?_);refine nZ Z ?_;refine BV (u := 9) (idp := 142) (j := 2) Z Z Z (fun v2 => ?_);refine nZ Z ?_;refine BV (u := 9) (idp := 143) (j := 3) Z Z Z (fun v3 => ?_);refine nZ Z ?_;refine BV (u := 9) (idp := 144) (j := 4) Z Z Z (fun v4 => ?_);refine nZ Z (WO_le (Le.roNil 99) (nZ Z (oN (rG (eZ Z (nZ Z (MU Z Z (AA Z) Z Z (ViewL.told5 (i0 := 140) (i1 := 141) (i2 := 142) (i3 := 143) (i4 := 144) (idr := 99) Z Z Z Z Z Z (fun h1 h2 => relWT hx h1)) (CX w (good_of hgw)) Z (nZ Z (WO_le (Le.freeze (u := 43) Z) (nZ Z (WO_le (Le.claimBox (u := 9) (idp := 140) (j := 0) Z Z Z Z) (nZ Z (WO_le (Le.claimBox (u := 9) (idp := 141) (j := 1) Z Z Z Z) (nZ Z (WO_le (Le.claimBox (u := 9) (idp := 142) (j := 2) Z Z Z Z) ?_)))))))))))))));refine nZ Z (WO_le (Le.claimBox (u := 9) (idp := 143) (j := 3) Z Z Z Z) (nZ Z (WO_le (Le.claimBox (u := 9) (idp := 144) (j := 4) Z Z Z Z) (nZ Z (eZ Z (kZ [2,6,8,9,11,12,13,35,36,37,38,39,40,41,42,43] Z (nB (sQ (sG (eZ Z (evE ?_)))))))))));refine eZ Z (nB ?_);refine AD Z (fun h5 => ?_) (fun h5 => ?_)
  ·
   simp only [HS] at h5;refine sG (A7 tys Z Z (AA Z) Z Z Z Z Z Z (nZ Z (eZ Z (sT Z (nZ Z (eK 2 Z (nB ?_)))))))
   skip
   refine rT (tR (bR (tR (AU (bR (tR ?_))))))
   first
   | (have hw : (pwR room acts picks).1 = w ∧ (pwR room acts picks).2 = k := (by first | exact Ga hok (by rw [hpe, BB (by omega)]; rfl) | exact Ga hok (by rw [hpe, Gb hk0 (by omega), if_pos (by omega)])); refine EndsX.of xs (by rw [hw.1, hac]; exact hx0) ?_; rw [hw.1, hw.2, hok])
   refine eR ?_
   ·rfl
  simp only [HS] at h5;refine AE (tN (sQ ?_))
  have hne : (Al w).length ≠ 0 := by simp_all
  have htm := KV hkp hne
  obtain ⟨mv, hmv⟩ : ∃ mv, mv = Ei w (picks[k.toNat]'(by omega)) := ⟨_, rfl⟩
  have hmm : mv ∈ Al w := by rw [hmv]; exact Gc hkp hne
  have hm := En hmm
  have hgw2 := gw_iff.1 hgw
  have hdt := Hv w mv
  have hdk : GA w mv = true := by unfold GA; exact decide_eq_true (by omega)
  refine nY Z (W_le (Le.freezeB (u := 9) Z Z) (nY Z (KI 14 (VC 58 [158, 258, 358, 458]) [[14], [14], [14], [14], [14], [14], [14], [14], [14], [14], [14], [14], [58, 158, 258, 358, 458], []] Ac Z (by kernel_rfl) (by kernel_rfl) (KO (A9 (GG tys Z Z (AA Z) Z Z (AF (Av (KO (A9 (QG_ev tys Z Z (AA Z) Z (AF (Av (KO (A9 ?_)))))))))))))));refine QG_ev tys Z Z (AA Z) Z (AF (Av (KO (A9 (QG_ev tys Z Z (AA Z) Z (AF (Av (It Z (KO (A9 (De tys Z Z (AA Z) Z (by first | exact KQ | exact Z) ?_)))))))))));refine AF (Av (KO (A9 (QG_rem Z Z (AA Z) Z Z Z (by omega) (AF (Av (KO (AZ (C3 tys Z Z (AA Z) Z Z Z Z Z Z Z htm.1 _ (CM _ _ htm.1 htm.2) (AF (Av (KO (A9 (QG_ev tys Z Z (AA Z) Z (AF ?_)))))))))))))));refine Av (It Z ?_);rw [show (Al w)[(Int.tmod (picks[k.toNat]'(by omega)) (Al w).length).toNat]'(by omega) = mv from by rw [hmv, Ei, AL htm.1 htm.2]];refine La 158 258 358 458 Z Z (AA Z) Z Z Z Z Z (F6 w xs mv hgw hm (FG hgw (by decide)) hx) Z (fun s' h => h) Z Z Z Z Z Z Z Z Z Z Z (KO (A9 (QG_ev tys Z Z (AA Z) Z (AF (Av (KO (A9 (QG_ev tys Z Z (AA Z) Z (AF (Av (KO (A9 (QG_ev tys Z Z (AA Z) Z (AF (Av ?_)))))))))))))));refine It Z (KO (A9 (DY tys Z Z (AA Z) Z Z Z Z (AF (Av (KO (Bm tys 10013 Z Z Z Z Z Z Z Z Z (N3 Z) (Av (QV_nil ?_)))))))));refine ⟨by kernel_rfl, (fun X => VC_mrg (by kernel_rfl) _ X), ?_⟩;refine nZ Z (eZ Z (nB (sQ (sG (eK 2 Z (WO_le (Le.known (t := 62) false Z (by simp [hdk])) ?_))))));refine nB (A0 Z (AE (tN (nY Z (W_le (Le.gatherBox (u := 14) (j := 0) (id := 58) Z Z Z (Nm _) Z) (nY Z (W_le (Le.gatherBox (u := 14) (j := 1) (id := 158) Z Z Z (Nm _) Z) (nY Z (W_le (Le.gatherBox (u := 14) (j := 2) (id := 258) Z Z Z (Nm _) Z) (nY Z (W_le (Le.gatherBox (u := 14) (j := 3) (id := 358) Z Z Z (Nm _) Z) (nY Z (W_le (Le.gatherBox (u := 14) (j := 4) (id := 458) Z Z Z (Nm _) Z) (nY Z ?_))))))))))))));simp only [N8];refine rG (A7 tys Z Z (AA Z) Z Z Z Z Z Z (nZ Z (sT Z (nZ Z (oN (bN (tN (rG (evI ?_)))))))));refine eZ Z (oN ?_);refine lQ (_, doW w mv) ?_ ?_
  ·dsimp only
   refine ⟨by omega, by omega, EI hgw hm hdk, by rw [doW_acts]; exact hac, by omega, ?_⟩;rw [hpe, Gb hk0 (by omega), if_neg hne, ← hmv, if_pos hdk]
  ·(show Int.toNat _ < Int.toNat _); omega
 simp only [HS] at h4;refine AR (tE (AO (AN (tN (sG (A7 tys Z Z (AA Z) Z Z Z Z Z Z (nZ Z (eZ Z (evE ?_)))))))));refine sT Z (nZ Z (eK 2 Z (nB ?_)))
 skip
 refine rT ?_
 first
 | (have hw : (pwR room acts picks).1 = w ∧ (pwR room acts picks).2 = k := (by first | exact Ga hok (by rw [hpe, BB (by omega)]; rfl) | exact Ga hok (by rw [hpe, Gb hk0 (by omega), if_pos (by omega)])); refine EndsX.of xs (by rw [hw.1, hac]; exact hx0) ?_; rw [hw.1, hw.2, hok])
 refine eR ?_
 ·(rw [show (picks.length : Int) = k from by omega])
open Go.Eng
abbrev Cu := Int × Int
def Dd (cd : List Int) : Prop := cd.length ≤ 1048576 ∧ ∀ b, b ∈ cd → 0 ≤ b ∧ b ≤ 255
section
variable (cd : List Int)
def nxB (c : Cu) : Int := if c.1 < cd.length then at0 0 cd c.1 else 0
def nxC (c : Cu) : Cu := (c.1 + 1, IntKind.u64.wrap (IntKind.u64.wrap (IntKind.u64.wrap (c.2 * 6364136223846793005) + nxB cd c) + 1442695040888963407))
def nxH (s : Int) : Int := IntKind.i64.wrap (IntKind.u64.wrap ((BitVec.ofInt IntKind.u64.bits (s.fdiv (2 ^ min (40 : Int).toNat IntKind.u64.bits)) &&& BitVec.ofInt IntKind.u64.bits 255).toNat : Nat))
def nxV (c : Cu) : Int := if c.1 + 1 ≤ cd.length then nxB cd c else nxH (nxC cd c).2
def pickV (n : Int) (c : Cu) : Int := if n ≤ 1 then 0 else if 200 < n then (nxV cd c * 256 + nxV cd (nxC cd c)).tmod n else (nxV cd c).tmod n
def curC (n : Int) (c : Cu) : Cu := if n ≤ 1 then c else if 200 < n then nxC cd (nxC cd c) else nxC cd c
end
section
variable {cd : List Int} {c : Cu} {n : Int}
theorem nxH_in (s : Int) : 0 ≤ nxH s ∧ nxH s ≤ 255 := by
 have h : (BitVec.ofInt IntKind.u64.bits (s.fdiv (2 ^ min (40 : Int).toNat IntKind.u64.bits)) &&& BitVec.ofInt IntKind.u64.bits 255).toNat ≤ 255 := by
  rw [BitVec.toNat_and];exact N7 Nat.and_le_right (by decide)
 unfold nxH;generalize (BitVec.ofInt IntKind.u64.bits (s.fdiv (2 ^ min (40 : Int).toNat IntKind.u64.bits)) &&& BitVec.ofInt IntKind.u64.bits 255).toNat = m at h
 have e1 : IntKind.u64.wrap (m : Int) = m := by
  simp [IntKind.wrap, IntKind.bits, IntKind.signed]
  omega
 rw [e1]
 have e2 : IntKind.i64.wrap (m : Int) = m := Df (by omega) (by omega)
 rw [e2];omega
theorem Me (hc : Dd cd) (h0 : 0 ≤ c.1) : 0 ≤ nxB cd c ∧ nxB cd c ≤ 255 := by
 unfold nxB;split
 ·rename_i h
  rw [AL h0 h];exact hc.2 _ (Nl _)
 ·omega
theorem JG (hc : Dd cd) (h0 : 0 ≤ c.1) : 0 ≤ nxV cd c ∧ nxV cd c ≤ 255 := by
 unfold nxV;split
 ·exact Me hc h0
 ·exact nxH_in _
theorem AW : c.1 ≤ (curC cd n c).1 ∧ (curC cd n c).1 ≤ c.1 + 2 := by
 unfold curC nxC;split
 ·omega
 ·split <;> simp only <;> omega
theorem A8 (hc : Dd cd) (h0 : 0 ≤ c.1) : 0 ≤ pickV cd n c ∧ (1 ≤ n → pickV cd n c < n) ∧ pickV cd n c ≤ 65535 := by
 unfold pickV;split
 ·omega
 ·have h1 := JG (c := c) hc h0
  have h2 := JG (c := nxC cd c) hc (show 0 ≤ c.1 + 1 by omega)
  have key : ∀ z : Int, 0 ≤ z → z ≤ 65535 → 0 ≤ z.tmod n ∧ (1 ≤ n → z.tmod n < n) ∧ z.tmod n ≤ 65535 := fun z hz hz2 => by
   rw [Int.tmod_eq_emod_of_nonneg hz]
   have a := Int.emod_nonneg z (show n ≠ 0 by omega)
   have b := Int.emod_lt_of_pos z (show 0 < n by omega)
   have d : z % n ≤ z := by
    by_cases h : z < n
    ·rw [Int.emod_eq_of_lt hz h]; exact OZ _
    ·omega
   omega
  split
  ·exact key _ (by omega) (by omega)
  ·exact key _ (by omega) (by omega)
end
end Go.Proofs.Ytkllmdolplcklaa
