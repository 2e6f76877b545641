/- Walks and laws of the claim. -/
import Derived.Test.YtpgodgmgfhbngaaFm
import Derived.Test.YtpgodgmgfhbngaaMe
set_option linter.unusedVariables false
set_option linter.unusedSimpArgs false
set_option maxRecDepth 10000
set_option maxHeartbeats 4000000
namespace Go.Proofs.Ytpgodgmgfhbngaa
open Go.Eng
open Go.Eng
def wC (w : World) (ts : Value) : List D := [.own (T.ints w.room), .own (intss w.held), .own (T.bools w.shut), .t (.v ts), .own (T.ints w.trace)]
def doI (w : World) (mv : List Int) : Bool := !(decide ((actOf w mv).kind = 3) && decide (w.trace.length = 120))
def doR (w : World) (mv : List Int) : World := if doI w mv then doW w mv else w
theorem tcsT_zip : ∀ {hdr : List (Option Addr × Nat)} {l : List Task}, hdr.length = l.length → (l.map Task.tt).flatMap T.cells = tcsT (hdr.zip l)
 | [], [], _ => rfl
 | [], _ :: _, h => by simp at h
 | _ :: _, [], h => by simp at h
 | a :: hdr, t :: l, h => by
  rw [List.map_cons, List.flatMap_cons, tcsT_zip (hdr := hdr) (by simpa using h)]
  rfl
theorem tasks_cells {l : List Task} : ∀ x, x ∈ l.map Task.tt → (T.cells x).length = 4 := by
 intro x hx
 obtain ⟨t, _, rfl⟩ := List.mem_map.1 hx
 rfl
theorem ViewL.sl' {c : Ctx} {s : St} {id n : Nat} {xs : List T} (hM : lookM s.M id = some (.L n xs)) : ViewL c s [.sl id 0 xs.length] [.t (.list n xs)] := by
 have h : ResL s [.sl id 0 xs.length] [.t (.list n ((xs.drop 0).take xs.length))] := .sl hM (by omega) .done
 rw [List.drop_zero, List.take_length] at h
 intro a w F β fb mb ow hi
 exact ViewL.of h hi
theorem zip_set {α β : Type} {h : α} {t t' : β} : ∀ {hdr : List α} {l : List β} {i : Nat}, (hdr.zip l)[i]? = some (h, t) → (hdr.zip l).set i (h, t') = hdr.zip (l.set i t')
 | [], _, _, e => by simp at e
 | _ :: _, [], _, e => by simp at e
 | a :: hdr, b :: l, 0, e => by
  simp at e
  obtain ⟨rfl, rfl⟩ := e
  rfl
 | a :: hdr, b :: l, i + 1, e => by
  have := zip_set (t' := t') (hdr := hdr) (l := l) (i := i) (by simpa using e)
  simp [this]
theorem zip_some {α β : Type} {hdr : List α} {l : List β} {i : Nat} (h1 : i < hdr.length) (h2 : i < l.length) : (hdr.zip l)[i]? = some (hdr[i], l[i]) := by
 rw [List.getElem?_zip_eq_some]; exact ⟨List.getElem?_eq_getElem h1, List.getElem?_eq_getElem h2⟩
theorem adv_fin {hdr : List (Option Addr × Nat)} {W1 : World} {I : Int} {i : Nat} {h : Option Addr × Nat} {t1 : Task} (hie : i = I.toNat) (hc : (hdr.zip W1.tasks)[i]? = some (h, t1)) (ht : tk W1 I = t1) : (hdr.zip W1.tasks).set i (h, advT t1) = hdr.zip (advW W1 I).tasks := by
 rw [zip_set hc, hie, ← ht]; rfl
theorem set_fin {hdr : List (Option Addr × Nat)} {W1 : World} {I : Int} {i : Nat} {h : Option Addr × Nat} {t1 t2 : Task} (hie : i = I.toNat) (hc : (hdr.zip W1.tasks)[i]? = some (h, t1)) : (hdr.zip W1.tasks).set i (h, t2) = hdr.zip (setT W1 I t2).tasks := by
 rw [zip_set hc, hie]; rfl
theorem tk0_fin {hdr : List (Option Addr × Nat)} {w : World} {I : Int} {i : Nat} {h : Option Addr × Nat} {t t2 : Task} (hie : i = I.toNat) (h0 : 0 ≤ I) (h1 : I < w.tasks.length) (hc : (hdr.zip w.tasks)[i]? = some (h, t)) : ((hdr.zip w.tasks).set i (h, t2)).set i (h, advT t2) = hdr.zip (advW (setT w I t2) I).tasks := by
 rw [List.set_set, zip_set hc]
 have e1 : tk (setT w I t2) I = t2 := (tk_set h0 h1 h0).trans (if_pos rfl)
 show _ = hdr.zip ((w.tasks.set I.toNat _).set I.toNat (advT (tk _ _)))
 rw [e1, List.set_set, hie]
theorem tk2_fin {hdr : List (Option Addr × Nat)} {w : World} {I J n : Int} {i j : Nat} {h hj : Option Addr × Nat} {t u : Task} (hie : i = I.toNat) (hje : j = J.toNat) (h0 : 0 ≤ I) (h1 : I < w.tasks.length) (j0 : 0 ≤ J) (j1 : J < w.tasks.length) (hIJ : ¬ I = J) (hcj : (hdr.zip w.tasks)[j]? = some (hj, u)) (hc : (hdr.zip w.tasks)[i]? = some (h, t)) (htI : tk w I = t) :
  (((hdr.zip w.tasks).set j (hj, { u with last := n })).set j (hj, advT { u with last := n })).set i (h, advT t) = hdr.zip (advW (advW (setT w J { u with last := n }) J) I).tasks := by
 have hij : ¬ j = i := by omega
 have l1 : ∀ (w : World) (i : Int) (t : Task), (setT w i t).tasks.length = w.tasks.length := fun w i t => List.length_set
 have e1 : tk (setT w J { u with last := n }) J = { u with last := n } := (tk_set j0 j1 j0).trans (if_pos rfl)
 have e2 : tk (advW (setT w J { u with last := n }) J) I = t := by
  rw [advW, tk_set j0 (by rw [l1]; exact j1) h0, if_neg hIJ, tk_set j0 j1 h0, if_neg hIJ]; exact htI
 have hc' : (hdr.zip (w.tasks.set j (advT { u with last := n })))[i]? = some (h, t) := by
  rw [← zip_set hcj, List.getElem?_set_ne hij]; exact hc
 rw [List.set_set, zip_set hcj, zip_set hc']
 show _ = hdr.zip ((((w.tasks.set J.toNat _).set J.toNat (advT (tk (setT w J { u with last := n }) J)))).set I.toNat (advT (tk (advW (setT w J { u with last := n }) J) I)))
 rw [e1, e2, List.set_set, hie, hje]
theorem set_same {α : Type} {l : List α} {i : Nat} {x : α} (h : l[i]? = some x) : l.set i x = l := by
 obtain ⟨h1, rfl⟩ := List.getElem?_eq_some_iff.1 h
 exact List.set_getElem_self h1
theorem blk2 {p : Value} {A A' : List D} {b sz : Nat} {C C' : List TC} (h1 : A = A') (h2 : C = C') : [Blk.obox p A, Blk.raw b sz (tcsW C) (tcsT C)] = [Blk.obox p A', Blk.raw b sz (tcsW C') (tcsT C')] := by rw [h1, h2]
section
variable {w : World} {mv : List Int}
theorem doI_t (h : ¬ ((actOf w mv).kind = 3 ∧ w.trace.length = 120)) : doI w mv = true := by
 unfold doI; by_cases a : (actOf w mv).kind = 3 <;> by_cases b : w.trace.length = 120 <;> simp [a, b] <;> exact h ⟨a, b⟩
theorem doR_t (h : ¬ ((actOf w mv).kind = 3 ∧ w.trace.length = 120)) : doR w mv = doW w mv := by rw [doR, doI_t h, if_pos rfl]
end
theorem resl_drop {s : St} {id off len : Nat} {hl l : List Int} (hM : lookM s.M id = some (.L 1 (hl.map T.int))) (h : off + len = hl.length) (hd : hl.drop off = l) : ResL s [.sl id off len] [.t (T.ints l)] := by
 subst hd
 have h1 : ResL s [.sl id off len] [.t (.list 1 (((hl.map T.int).drop off).take len))] := .sl hM (by rw [List.length_map]; omega) .done
 rw [List.take_of_length_le (by rw [List.length_drop, List.length_map]; omega), ← List.map_drop] at h1
 exact h1
theorem flat_put {α β : Type} {f : α → List β} {x y : α} (h : f x = f y) : ∀ (l : List α) (i : Nat), (l.set i x).flatMap f = (l.set i y).flatMap f
 | [], _ => rfl
 | a :: l, 0 => by rw [List.set_cons_zero, List.set_cons_zero, List.flatMap_cons, List.flatMap_cons, h]
 | a :: l, i + 1 => by rw [List.set_cons_succ, List.set_cons_succ, List.flatMap_cons, List.flatMap_cons, flat_put h l i]
theorem held_same {l : List (List Int)} {c : Nat} {z1 z2 : T} {v : List Int} (h : T.cells z2 = [T.ints v]) : ((l.set c v).map T.ints).flatMap T.cells = (((l.map T.ints).set c z1).set (0 + c) z2).flatMap T.cells := by
 rw [Nat.zero_add, List.set_set, List.map_set]; exact flat_put h.symm _ _
theorem held_cells {l : List (List Int)} : ∀ y, y ∈ l.map T.ints → (T.cells y).length = 1 := by
 intro y hy
 obtain ⟨x, _, rfl⟩ := List.mem_map.1 hy
 rfl
theorem doI_fun (bw bt cap : Nat) (w : World) (hdr : List (Option Addr × Nat)) (mv : List Int) (hg : goodWorld w = true) (hm : MvOk w mv) (hh : hdr.length = w.tasks.length) (hcap : w.tasks.length ≤ cap) : Proc Try.prog 37 [.t (.v (.pointer (some ⟨bw, 0, none⟩))), .t (T.ints mv)] ([]) ([]) [.obox (.pointer (some ⟨bw, 0, none⟩)) (wC w (.slice (some ⟨bt, 0, none⟩) w.tasks.length cap)), .raw bt (cap * 4) (tcsW (hdr.zip w.tasks)) (tcsT (hdr.zip w.tasks))] (.t (.bool (doI w mv))) [.obox (.pointer (some ⟨bw, 0, none⟩)) (wC (doR w mv) (.slice (some ⟨bt, 0, none⟩) w.tasks.length cap)), .raw bt (cap * 4) (tcsW (hdr.zip (doR w mv).tasks)) (tcsT (hdr.zip (doR w mv).tasks))] := by
  have hgo := good_of hg
  have hgw := gw_iff.1 hg
  have hi0 := hm.i0
  have hi1 := hm.i1
  have hml := hm.len
  have hmi : mv[(0 : Int).toNat]'(by rw [hml]; decide) = at0 0 mv 0 := (at0_of (l := mv) (by omega) (by omega)).symm
  have hmk : mv[(1 : Int).toNat]'(by rw [hml]; decide) = at0 0 mv 1 := (at0_of (l := mv) (by omega) (by omega)).symm
  have hmj : mv[(2 : Int).toNat]'(by rw [hml]; decide) = at0 0 mv 2 := (at0_of (l := mv) (by omega) (by omega)).symm
  have hpp := hgo.pos _ (List.getElem_mem (l := w.tasks) (n := (at0 0 mv 0).toNat) (by omega))
  have hk0 := hm.k0
  have hk1 : at0 0 mv 1 < (ways (w.tasks[(at0 0 mv 0).toNat]'(by omega))).length := by
   have := hm.k1
   rw [tk, at0_of hi0 hi1] at this
   exact this
  obtain ⟨A, hA⟩ : ∃ A, A = (ways (w.tasks[(at0 0 mv 0).toNat]'(by omega)))[(at0 0 mv 1).toNat]'(by omega) := ⟨_, rfl⟩
  have hAo : actOf w mv = A := by rw [actOf, tk, at0_of hi0 hi1, at0_of hk0 hk1, hA]
  refine Proc.intro tys Try.func37 Z Z (N := 159) [100, 101] 99 ([(0, .t (.v (.pointer (some ⟨bw, 0, none⟩)))), (1, .t (T.ints mv))]) ([(100, .obox (.pointer (some ⟨bw, 0, none⟩)) (wC w (.slice (some ⟨bt, 0, none⟩) w.tasks.length cap))), (101, .raw bt (cap * 4) (tcsW (hdr.zip w.tasks)) (tcsT (hdr.zip w.tasks))), (99, .ro [] [])]) Z Z Z Z (by decide) (by decide) Z (fun w0 G F0 => ?_)
  refine nY Z (W_le (Le.openNew (u := 100) 1100 Z Z Z Z Z) (nY Z (W_le (Le.named (t := 0) (u := 100) 1100 Z Z) (nY Z (W_le (Le.adoptBox (u := 100) (j := 1) (id := 104) Z Z Z) (nY Z (W_le (Le.adoptBox (u := 100) (j := 2) (id := 105) Z Z Z) (nY Z (W_le (Le.adoptBox (u := 100) (j := 4) (id := 106) Z Z Z) (nY Z (sQ (rG (eZ Z (oN (tN ?_)))))))))))))))
  refine sQ (W_regionD mixed (by kernel_rfl) (evQ ?_))
  refine QL_nil' rfl Z (lt_of Z) Z Z Z (evQ ?_)
  refine evQ ?_
  refine evQ ?_
  refine QL_norm Z (QL_idxT tys Z Z (lt_of Z) Z Z Z Z Z Z Z (by omega) _ (getT _ _ (by omega) (by omega)) (evQ ?_))
  refine QL_idxV tys Z Z (lt_of Z) Z Z Z Z Z Z (by omega) (by omega) (evQ ?_)
  refine QL_nil (tN (sQ ?_))
  rw [hmi]
  refine nY Z ?_
  obtain ⟨i, hie⟩ : ∃ i, i = (at0 0 mv 0).toNat := ⟨_, rfl⟩
  rw [← hie]
  have hit : i < w.tasks.length := by omega
  obtain ⟨t, ht⟩ : ∃ t, t = w.tasks[i]'hit := ⟨_, rfl⟩
  obtain ⟨h, hh1⟩ : ∃ h, h = hdr[i]'(by omega) := ⟨_, rfl⟩
  have hc : (hdr.zip w.tasks)[i]? = some (h, t) := by rw [List.getElem?_zip_eq_some]; exact ⟨by rw [hh1, List.getElem?_eq_getElem (by omega)], by rw [ht, List.getElem?_eq_getElem hit]⟩
  refine W_of_WR mixed ?_
  refine WR_view 6 [.t (T.int A.kind), .t (T.int A.chan), .t (T.int A.n), .top] [16, 17, 18, 19, 20, 21, 22, 23, 24, 25, 26, 27, 6] [(0, .rp (.agg [T.ints w.room, intss w.held, T.bools w.shut, T.Tasks w.tasks, T.ints w.trace]) 0), (1, .t (T.ints mv))] (by kernel_rfl) ⟨ViewL.ref (id := 100) Z (ViewL.cons (ViewL.of (.own .done)) (ViewL.cons (ViewL.sl' (id := 104) Z) (ViewL.cons (ViewL.sl' (id := 105) Z) (ViewL.cons (ViewL.raw (id := 101) Z (tcsT_zip hh) tasks_cells (List.length_map _) hcap) (ViewL.cons (ViewL.sl' (id := 106) Z) ViewL.nil'))))), ViewL.of (.t .done), trivial⟩ rfl Z (fun w1 => ?_) ?_
  ·
    refine WR_Gm 13 Z (by kernel_rfl) (by kernel_rfl) (QG_ev tys Z Z (lt_of Z) Z (QG_nil' rfl Z (lt_of Z) Z Z Z (QG_norm Z (QG_ev tys Z Z (lt_of Z) Z (QG_ev tys Z Z (lt_of Z) Z (QG_idxT tys Z Z (lt_of Z) Z Z Z Z Z Z Z (by omega) _ (getT _ _ (by omega) (by omega)) (QG_ev tys Z Z (lt_of Z) Z ?_)))))))
    rw [hmi]
    refine QG_callF Z Z (lt_of Z) Z Z Z Z Z (casesOf_fun w (at0 0 mv 0) hi0 hi1 (by omega) hpp.1 hpp.2.1) Z (QG_ev tys Z Z (lt_of Z) Z (QG_norm Z (QG_idxT tys Z Z (lt_of Z) Z Z Z Z Z Z Z (by omega) _ (getT _ _ (by omega) (by omega)) (QG_ev tys Z Z (lt_of Z) Z ?_))))
    rw [hmk]
    refine QG_idxT tys Z Z (lt_of Z) Z Z Z Z Z Z Z (by omega) _ (getAct _ (by omega) (by omega)) ?_
    rw [← hA]
    refine QG_ev tys Z Z (lt_of Z) Z (QG_alloc tys Z Z (lt_of Z) Z Z Z Z (QG_nil ?_))
    refine ⟨by kernel_rfl, ?_⟩
    refine nZ Z (sT Z (nZ Z (oN ?_)))
    exact ⟨rfl, rfl, _, rfl, rfl⟩
  refine tN (sQ (W_block (sQ (nY Z ?_))))
  have htr := hgw.trace
  have htI : tk w (at0 0 mv 0) = t := by rw [tk, at0_of hi0 hi1, ht]; simp only [hie]
  have htm : t ∈ w.tasks := by rw [ht]; exact List.getElem_mem _
  have hAw : A ∈ ways t := by rw [hA, ht]; subst hie; exact List.getElem_mem _
  obtain ⟨hAk, ⟨hAc0, hAc1⟩, hAn, hts, htp⟩ := goodAct_ways hg htm hAw
  have hheld := hgw.held
  have hshut := hgw.shut
  have hrm := hgw.room
  have hta : t.acts.length ≤ 6 := (hgo.pos _ htm).2.2
  refine rG (eK 4 Z (oN (tN ?_)))
  refine W_cond Z (fun h1 => ?_) (fun h1 => ?_)
  ·
    simp only [HS] at h1
    refine sQ (sQ (rG (eZ Z (WO_nil' rfl Z (lt_of Z) Z Z Z (eK 2 Z (kZ [0,4,5,54] Z (evE ?_)))))))
    refine eZ Z (oN (tN ?_))
    refine W_cond Z (fun h2 => ?_) (fun h2 => ?_)
    ·
      simp only [HS] at h2
      refine sQ (rG (eZ Z (oN (tN ?_))))
      ((first | (refine W_le (Le.gatherBox (u := 100) (j := 1) (id := 104) rfl rfl rfl (by first | exact Nat.le_refl _ | simp) rfl) ?_; refine W_norm rfl ?_) | skip); (first | (refine W_le (Le.gatherBox (u := 100) (j := 2) (id := 105) rfl rfl rfl (by first | exact Nat.le_refl _ | simp) rfl) ?_; refine W_norm rfl ?_) | skip); (first | (refine W_le (Le.gatherBox (u := 100) (j := 4) (id := 106) rfl rfl rfl (by first | exact Nat.le_refl _ | simp) rfl) ?_; refine W_norm rfl ?_) | skip))
      refine W_le (Le.close (u := 100) 1100 Z Z Z) (nY Z (rT (tR (bR (tR ?_)))))
      refine EndsP_of (ks := [_, _]) (.inr Z) (ret_okF Z) (by decide) Z (noR_spec Z) (by repeat (first | exact trivial | refine ⟨rfl, rfl, ?_⟩)) ?_ ?_
      · (rw [show doI w mv = false from by (unfold doI; rw [hAo]; simp [h1]; omega)]; rfl)
      · (rw [show doR w mv = w from by rw [doR, show doI w mv = false from by (unfold doI; rw [hAo]; simp [h1]; omega)]; rfl]; refine blk2 ?_ rfl; simp [wC, T.ints, intss, T.bools, List.take_of_length_le]; done)
    simp only [HS] at h2
    refine W_skip (tN (W_le (Le.gatherBox (u := 100) (j := 4) (id := 106) Z Z Z (Nat.le_refl _) Z) (nY Z ?_)))
    have hdI : doI w mv = true := doI_t (fun h => h2 (by rw [h.2]; rfl))
    have hdo : doR w mv = advW { w with trace := w.trace ++ [t.last] } (at0 0 mv 0) := by rw [doR_t (fun h => h2 (by rw [h.2]; rfl)), doW, hAo, if_pos h1, htI]
    have hC1 := hc
    have hp1 : 0 ≤ t.pos ∧ t.pos ≤ 1048576 := by omega
    have hl1 : t.acts.length ≤ 1048576 := by omega
    have hfin := adv_fin (W1 := { w with trace := w.trace ++ [t.last] }) hie hc htI
    refine W_regionH [[100], [], [], [], [], [100], [100], [100], [100], [100], [], [], [], []] mixed (by kernel_rfl) (QH_G (QG_ev tys Z Z (lt_of Z) Z (QG_nil (QH_G0 (QG_ev tys Z Z (lt_of Z) Z (QG_nil (QH_G0 (QG_nil' rfl Z (lt_of Z) Z Z Z (QG_nil (QH_G0 (QG_ev tys Z Z (lt_of Z) Z (QG_nil (QH_norm Z (QH_loadOwn tys Z Z (lt_of Z) Z Z Z Z Z Z (QH_G ?_)))))))))))))))
    refine QG_ev tys Z Z (lt_of Z) Z (QG_nil (QH_G (QG_nil' rfl Z (lt_of Z) Z Z Z (QG_nil (QH_G (QG_fieldV tys Z Z (lt_of Z) Z Z Z Z Z (QG_nil (QH_norm Z (QH_G (QG_loadU (id := 101) (u := .int .i64 t.last) tys Z Z (lt_of Z) Z Z Z Z Z (tcT_at hc (by decide)) (tcW_at hc (by decide)) (QG_nil (QH_G ?_))))))))))))
    refine QG_buildS tys [T.int t.last] Z Z (lt_of Z) Z Z Z Z Z (lt_of Z) (by repeat (first | exact PartsOk.nil' | refine PartsOk.cons' rfl (by repeat (first | exact AbsL.nil' | refine AbsL.v' ?_ | refine AbsL.own' ?_ | refine AbsL.none' ?_)) Z ?_)) Z Z Z (by decide) ?_
    refine QG_nil (QH_G0 (QG_appendO tys Z Z (lt_of Z) Z Z Z Z Z Z Z Z Z ((fun x hx => by rw [List.mem_singleton] at hx; subst hx; exact ⟨rfl, fun z hz => ⟨_, by simpa [T.cells] using hz⟩⟩)) (by simp; omega) (by decide) Z ?_))
    refine QG_nil (QH_G0 (QG_nil' rfl Z (lt_of Z) Z Z Z (QG_nil (QH_norm Z (QH_G0 (QG_ev tys Z Z (lt_of Z) Z (QG_nil (QH_storeM tys Z Z Z Z Z Z Z Z Z (Nat.le_of_ble_eq_true Z) (QH_nil ?_)))))))))
    refine ⟨by kernel_rfl, ?_⟩
    refine nZ Z (oN (bN (tN (sQ ?_))))
    skip
    refine rG (eZ Z ?_)
    refine WO_callP (rid := 99) [101] Z Z (lt_of Z) Z Z (by repeat (first | exact ResP.done | refine ResP.pin0 1101 Z ?_ | refine ResP.t ?_ | refine ResP.nil 1 ?_ | refine ResP.nil' ?_ | refine ResP.own ?_ | refine ResP.sl Z Z (by first | omega | (simp; omega)) ?_ | refine ResP.aggT (by repeat (first | exact ResP.done | refine ResP.t ?_)) ?_)) Z (by repeat (first | exact trivial | refine ⟨rfl, rfl, ?_⟩)) (by decide) (advI_fun bt (cap * 4) i _ h _ hC1 hp1 hl1) Z Z Z ?_
    refine nZ Z (oN (tN (sQ (rG (eZ Z (oN (tN ?_)))))))
    ((first | (refine W_le (Le.gatherBox (u := 100) (j := 1) (id := 104) rfl rfl rfl (by first | exact Nat.le_refl _ | simp) rfl) ?_; refine W_norm rfl ?_) | skip); (first | (refine W_le (Le.gatherBox (u := 100) (j := 2) (id := 105) rfl rfl rfl (by first | exact Nat.le_refl _ | simp) rfl) ?_; refine W_norm rfl ?_) | skip); (first | (refine W_le (Le.gatherBox (u := 100) (j := 4) (id := 106) rfl rfl rfl (by first | exact Nat.le_refl _ | simp) rfl) ?_; refine W_norm rfl ?_) | skip))
    refine W_le (Le.close (u := 100) 1100 Z Z Z) (nY Z (rT ?_))
    refine EndsP_of (ks := [_, _]) (.inr Z) (ret_okF Z) (by decide) Z (noR_spec Z) (by repeat (first | exact trivial | refine ⟨rfl, rfl, ?_⟩)) ?_ ?_
    · rw [hdI]
      rfl
    · rw [hdo]
      refine blk2 ?_ hfin
      first | (simp [wC, advW, setT, T.ints, intss, T.bools, List.take_of_length_le, List.map_set]; done) | (rw [List.set_set, hset]; simp [wC, advW, setT, T.ints, intss, T.bools, List.take_of_length_le]; done)
  simp only [HS] at h1
  refine sQ (nY Z ?_)
  have hdI : doI w mv = true := doI_t (fun h => h1 (by rw [← hAo]; exact h.1))
  have hdW : doR w mv = doW w mv := doR_t (fun h => h1 (by rw [← hAo]; exact h.1))
  have hdW' := hdW
  rw [doW, hAo, if_neg h1] at hdW'
  have hsc : at0 false w.shut A.chan = w.shut[A.chan.toNat]'(by omega) := at0_of hAc0 (by omega)
  rw [hsc, htI] at hdW'
  have hhc : at0 [] w.held A.chan = w.held[A.chan.toNat]'(by omega) := at0_of hAc0 (by omega)
  obtain ⟨hl, hle⟩ : ∃ hl, hl = w.held[A.chan.toNat]'(by omega) := ⟨_, rfl⟩
  have hz : (w.held.map T.ints)[A.chan.toNat]? = some (T.ints hl) := by rw [hle, List.getElem?_map, List.getElem?_eq_getElem (by omega)]; rfl
  have hlx : hl.length ≤ 3 := by
   have e1 := gw_hold hgw hAc0 hAc1
   rw [hhc, ← hle] at e1
   have e2 := hgw.rooms
   rw [allIn, List.all_eq_true] at e2
   have e3 := e2 _ (List.getElem_mem (l := w.room) (n := A.chan.toNat) (by omega))
   rw [at0_of hAc0 hAc1] at e1
   simp only [decide_eq_true_eq] at e3
   omega
  refine W_regionD mixed (by kernel_rfl) (evQ ?_)
  refine QL_norm Z (evQ ?_)
  refine evQ ?_
  refine evQ ?_
  refine QL_split (fun h2 => ?_) (fun h2 => ?_)
  ·
    simp only [HS] at h2
    refine QL_guardY Z Z Z Z (lt_of Z) (evQ ?_)
    refine QL_guardY Z Z Z Z (lt_of Z) (QL_nil' rfl Z (lt_of Z) Z Z Z (QL_guardY Z Z Z Z (lt_of Z) (evQ ?_)))
    refine QL_norm Z (QL_guardY Z Z Z Z (lt_of Z) (evQ ?_))
    refine QL_guardY Z Z Z Z (lt_of Z) (evQ ?_)
    refine QL_guardY Z Z Z Z (lt_of Z) (evQ ?_)
    refine QL_guardY Z Z Z Z (lt_of Z) (QL_idxS tys Z Z (lt_of Z) Z Z Z Z Z Z Z Z hAc0 (by first | (rw [List.length_map]; omega) | (rw [List.length_set, List.length_map]; omega)) ?_)
    refine QL_guardY Z Z Z Z (lt_of Z) (QL_loadL tys Z Z (lt_of Z) Z Z Z Z (getT0 _ _ (by omega) (by omega)) Z (evQ ?_))
    refine QL_norm Z (evQ ?_)
    refine QL_nil (tN ?_)
    refine W_cond Z (fun h3 => ?_) (fun h3 => ?_)
    ·
      refine sQ (nY Z ?_)
      have hdo : doR w mv = setT w (at0 0 mv 0) { t with state := 2 } := by rw [hdW', if_pos]; exact ⟨by omega, by assumption⟩
      have hfin := set_fin (t2 := { t with state := 2 }) (W1 := w) hie hc
      refine rG (eZ Z (WO_nil' rfl Z (lt_of Z) Z Z Z (WO_fieldV tys Z Z (lt_of Z) Z Z Z Z Z (WO_storeV (id := 101) (u0 := .int .i64 t.state) (u := .int .i64 2) tys Z Z Z Z Z Z Z (tcT_at hc (by decide)) Z Z Z (nZ Z (WO_le (Le.eqK (id := 101) Z (tcs_to (c' := (h, { t with state := 2 })) hc (by decide) Z Z)) (nZ Z (oN (tN (sQ (rG (eZ Z (oN (tN ?_))))))))))))))
      ((first | (refine W_le (Le.gatherBox (u := 100) (j := 1) (id := 104) rfl rfl rfl (by first | exact Nat.le_refl _ | simp) rfl) ?_; refine W_norm rfl ?_) | skip); (first | (refine W_le (Le.gatherBox (u := 100) (j := 2) (id := 105) rfl rfl rfl (by first | exact Nat.le_refl _ | simp) rfl) ?_; refine W_norm rfl ?_) | skip); (first | (refine W_le (Le.gatherBox (u := 100) (j := 4) (id := 106) rfl rfl rfl (by first | exact Nat.le_refl _ | simp) rfl) ?_; refine W_norm rfl ?_) | skip))
      refine W_le (Le.close (u := 100) 1100 Z Z Z) (nY Z (rT (bR (tR ?_))))
      refine EndsP_of (ks := [_, _]) (.inr Z) (ret_okF Z) (by decide) Z (noR_spec Z) (by repeat (first | exact trivial | refine ⟨rfl, rfl, ?_⟩)) ?_ ?_
      · rw [hdI]
        rfl
      · rw [hdo]
        refine blk2 ?_ hfin
        first | (simp [wC, advW, setT, T.ints, intss, T.bools, List.take_of_length_le, List.map_set]; done) | (rw [List.set_set, hset]; simp [wC, advW, setT, T.ints, intss, T.bools, List.take_of_length_le]; done)
    refine sQ (rG (eK 4 Z (oN (tN ?_))))
    refine W_cond Z (fun h4 => ?_) (fun h4 => ?_)
    ·
      simp only [HS] at h4
      refine nY Z ?_
      have hnp : ¬ ((A.kind = 5 ∨ A.kind = 1) ∧ w.shut[A.chan.toNat]'(by omega) = true) := fun h => by first | omega | (simp_all; done) | (simp_all; omega)
      rw [if_neg hnp] at hdW'
      have hdo : doR w mv = advW { w with shut := w.shut.set A.chan.toNat true } (at0 0 mv 0) := by rw [hdW', if_pos (by assumption)]
      have hC1 := hc
      have hp1 : 0 ≤ t.pos ∧ t.pos ≤ 1048576 := by omega
      have hl1 : t.acts.length ≤ 1048576 := by omega
      have hfin := adv_fin (W1 := { w with shut := w.shut.set A.chan.toNat true }) hie hc htI
      refine W_regionDm 7 mixed Z (by kernel_rfl) (by kernel_rfl) (evQ ?_)
      refine QL_norm Z (QL_nil' rfl Z (lt_of Z) Z Z Z (evQ ?_))
      refine evQ ?_
      refine evQ ?_
      refine evQ ?_
      refine QL_idxS tys Z Z (lt_of Z) Z Z Z Z Z Z Z Z hAc0 (by first | (rw [List.length_map]; omega) | (rw [List.length_set, List.length_map]; omega)) ?_
      refine QL_norm Z (QL_nil (WO_storeE tys (T.bool true) Z Z Z Z Z Z (Nat.zero_add _) (by rw [List.length_map]; omega) Z (AbsL.v' AbsL.nil') Z Z Z ?_))
      refine nZ Z (oN (bN (tN (sQ ?_))))
      skip
      refine rG (eZ Z ?_)
      refine WO_callP (rid := 99) [101] Z Z (lt_of Z) Z Z (by repeat (first | exact ResP.done | refine ResP.pin0 1101 Z ?_ | refine ResP.t ?_ | refine ResP.nil 1 ?_ | refine ResP.nil' ?_ | refine ResP.own ?_ | refine ResP.sl Z Z (by first | omega | (simp; omega)) ?_ | refine ResP.aggT (by repeat (first | exact ResP.done | refine ResP.t ?_)) ?_)) Z (by repeat (first | exact trivial | refine ⟨rfl, rfl, ?_⟩)) (by decide) (advI_fun bt (cap * 4) i _ h _ hC1 hp1 hl1) Z Z Z ?_
      refine nZ Z (oN (tN (sQ (rG (eZ Z (oN (tN ?_)))))))
      ((first | (refine W_le (Le.gatherBox (u := 100) (j := 1) (id := 104) rfl rfl rfl (by first | exact Nat.le_refl _ | simp) rfl) ?_; refine W_norm rfl ?_) | skip); (first | (refine W_le (Le.gatherBox (u := 100) (j := 2) (id := 105) rfl rfl rfl (by first | exact Nat.le_refl _ | simp) rfl) ?_; refine W_norm rfl ?_) | skip); (first | (refine W_le (Le.gatherBox (u := 100) (j := 4) (id := 106) rfl rfl rfl (by first | exact Nat.le_refl _ | simp) rfl) ?_; refine W_norm rfl ?_) | skip))
      refine W_le (Le.close (u := 100) 1100 Z Z Z) (nY Z (rT ?_))
      refine EndsP_of (ks := [_, _]) (.inr Z) (ret_okF Z) (by decide) Z (noR_spec Z) (by repeat (first | exact trivial | refine ⟨rfl, rfl, ?_⟩)) ?_ ?_
      · rw [hdI]
        rfl
      · rw [hdo]
        refine blk2 ?_ hfin
        first | (simp [wC, advW, setT, T.ints, intss, T.bools, List.take_of_length_le, List.map_set]; done) | (rw [List.set_set, hset]; simp [wC, advW, setT, T.ints, intss, T.bools, List.take_of_length_le]; done)
    simp only [HS] at h4
    refine sQ (rG (eK 4 Z (kZ [0,1,4,5,6,98] Z (oN (tN ?_)))))
    refine W_cond Z (fun h5 => ?_) (fun h5 => ?_)
    ·
      simp only [HS] at h5
      refine sQ (nY Z ?_)
      have hk2 : A.kind = 2 := by assumption
      have hnp : ¬ ((A.kind = 5 ∨ A.kind = 1) ∧ w.shut[A.chan.toNat]'(by omega) = true) := fun h => by omega
      rw [if_neg hnp, if_neg (by omega), if_neg (by omega), if_neg (by omega)] at hdW'
      rw [hhc, ← hle] at hdW'
      refine rG (eZ Z (WO_nil' rfl Z (lt_of Z) Z Z Z (WO_fieldV tys Z Z (lt_of Z) Z Z Z Z Z (WO_storeV (id := 101) (u0 := .int .i64 t.last) (u := .int .i64 0) tys Z Z Z Z Z Z Z (tcT_at hc (by decide)) Z Z Z (nZ Z (WO_le (Le.eqK (id := 101) Z (tcs_to (c' := (h, { t with last := 0 })) hc (by decide) Z Z)) ?_))))))
      have hcA : ((hdr.zip w.tasks).set i (h, { t with last := 0 }))[i]? = some (h, { t with last := 0 }) := tc_mid hc
      refine nZ Z (oN (tN (sQ (nY Z ?_))))
      refine W_takeL (id := 104) (i := A.chan.toNat) (off := 0) 107 Z hz Z Z Z (fun ad cp => ?_)
      refine nY Z (W_regionD mixed (by kernel_rfl) (evQ ?_))
      refine QL_nil' rfl Z (lt_of Z) Z Z Z (QL_norm Z (evQ ?_))
      refine evQ ?_
      refine evQ ?_
      refine evQ ?_
      refine QL_idxS tys Z Z (lt_of Z) Z Z Z Z Z Z Z Z hAc0 (by first | (rw [List.length_map]; omega) | (rw [List.length_set, List.length_map]; omega)) ?_
      refine QL_loadL tys Z Z (lt_of Z) Z Z Z Z (by rw [Nat.zero_add]; exact List.getElem?_set_self (by rw [List.length_map]; omega)) Z ?_
      refine QL_norm Z (evQ ?_)
      refine QL_nil (tN (sQ (rG (eZ Z (WO_lenV Z Z (lt_of Z) Z ⟨3, by kernel_rfl⟩ rfl (eZ Z (oN (tN ?_))))))))
      refine W_cond Z (fun h6 => ?_) (fun h6 => ?_)
      ·
        simp only [HS] at h6
        refine sQ (nY Z (W_le (Le.ownBack (t := 7) (id := 107) Z Z) (nY Z (W_le (Le.adoptE (u := 7) 107 Z Z) (nY Z ?_)))))
        have hlp : 0 < hl.length := by simp_all
        have hdo : doR w mv = advW { setT w (at0 0 mv 0) { t with last := hl[0] } with held := w.held.set A.chan.toNat (hl.drop 1) } (at0 0 mv 0) := by rw [hdW', if_pos hlp, show at0 0 hl 0 = hl[0] from at0_of (l := hl) (i := 0) (by omega) (by omega)]
        have hC1 : (((hdr.zip w.tasks).set i (h, { t with last := 0 })).set i (h, { t with last := hl[0] }))[i]? = some (h, { t with last := hl[0] }) := tc_mid hcA
        have hp1 : 0 ≤ t.pos ∧ t.pos ≤ 1048576 := by omega
        have hl1 : t.acts.length ≤ 1048576 := by omega
        have hfin : (((hdr.zip w.tasks).set i (h, { t with last := 0 })).set i (h, { t with last := hl[0] })).set i (h, advT { t with last := hl[0] }) = hdr.zip (advW { setT w (at0 0 mv 0) { t with last := hl[0] } with held := w.held.set A.chan.toNat (hl.drop 1) } (at0 0 mv 0)).tasks := by
         rw [List.set_set, List.set_set, zip_set hc]
         have e1 : tk { setT w (at0 0 mv 0) { t with last := hl[0] } with held := w.held.set A.chan.toNat (hl.drop 1) } (at0 0 mv 0) = { t with last := hl[0] } := (tk_set hi0 hi1 hi0).trans (if_pos rfl)
         show _ = hdr.zip ((w.tasks.set (at0 0 mv 0).toNat _).set (at0 0 mv 0).toNat (advT (tk _ _)))
         rw [e1, List.set_set, hie]
        refine rG (eK 2 Z (WO_idxS tys Z Z (lt_of Z) Z Z Z Z Z Z Z Z (by omega) (by rw [List.length_map]; omega) ?_))
        refine WO_loadL tys Z Z (lt_of Z) Z Z Z Z (getT0 _ _ (by omega) (by omega)) Z (WO_nil' rfl Z (lt_of Z) Z Z Z (kZ [0,4,5,6,7,119,120] Z (WO_fieldV tys Z Z (lt_of Z) Z Z Z Z Z (WO_storeV (id := 101) (u0 := .int .i64 0) (u := .int .i64 hl[0]) tys Z Z Z Z Z Z Z (tcT_at hcA (by decide)) Z Z Z (nZ Z (WO_le (Le.eqK (id := 101) Z (tcs_to (c' := (h, { t with last := hl[0] })) hcA (by decide) Z Z)) (nZ Z (oN (tN (W_regionGm 9 mixed Z (by kernel_rfl) (by kernel_rfl) (QG_ev tys Z Z (lt_of Z) Z (QG_nil' rfl Z (lt_of Z) Z Z Z (QG_ev tys Z Z (lt_of Z) Z (QG_ev tys Z Z (lt_of Z) Z (QG_norm Z ?_)))))))))))))))
        refine QG_ev tys Z Z (lt_of Z) Z (QG_ev tys Z Z (lt_of Z) Z (QG_ev tys Z Z (lt_of Z) Z (QG_sliceS tys Z Z (lt_of Z) Z Z Z Z Z Z Z Z Z (by omega) (by rw [List.length_map]; omega) (by rw [List.length_map]; omega) ?_)))
        refine QG_call Z Z (lt_of Z) Z Z (resl_drop (id := 107) Z (by show 1 + (((List.map T.int hl).length : Int).toNat - 1) = hl.length; rw [List.length_map]; omega) Z) (cloneI_fun (hl.drop 1) (by rw [List.length_drop]; omega)) Z ?_
        refine QG_nil ?_
        refine ⟨by kernel_rfl, ?_⟩
        refine nZ Z (WO_idxS tys Z Z (lt_of Z) Z Z Z Z Z Z Z Z hAc0 (by first | (rw [List.length_map]; omega) | (rw [List.length_set, List.length_map]; omega)) ?_)
        refine WO_storeE tys (T.ints (hl.drop 1)) Z Z Z Z Z Z (Nat.zero_add _) (by rw [List.length_set, List.length_map]; omega) Z (AbsL.own' AbsL.nil') Z Z Z ?_
        refine nZ Z (oN (bN (tN (sQ ?_))))
        skip
        refine rG (eZ Z ?_)
        refine WO_callP (rid := 99) [101] Z Z (lt_of Z) Z Z (by repeat (first | exact ResP.done | refine ResP.pin0 1101 Z ?_ | refine ResP.t ?_ | refine ResP.nil 1 ?_ | refine ResP.nil' ?_ | refine ResP.own ?_ | refine ResP.sl Z Z (by first | omega | (simp; omega)) ?_ | refine ResP.aggT (by repeat (first | exact ResP.done | refine ResP.t ?_)) ?_)) Z (by repeat (first | exact trivial | refine ⟨rfl, rfl, ?_⟩)) (by decide) (advI_fun bt (cap * 4) i _ h _ hC1 hp1 hl1) Z Z Z ?_
        refine nZ Z (oN (tN (sQ (rG (eZ Z (oN (tN ?_)))))))
        ((first | (refine W_le (Le.gatherBox (u := 100) (j := 1) (id := 104) rfl rfl rfl (by first | exact Nat.le_refl _ | simp) rfl) ?_; refine W_norm rfl ?_) | skip); (first | (refine W_le (Le.gatherBox (u := 100) (j := 2) (id := 105) rfl rfl rfl (by first | exact Nat.le_refl _ | simp) rfl) ?_; refine W_norm rfl ?_) | skip); (first | (refine W_le (Le.gatherBox (u := 100) (j := 4) (id := 106) rfl rfl rfl (by first | exact Nat.le_refl _ | simp) rfl) ?_; refine W_norm rfl ?_) | skip))
        refine W_le (Le.close (u := 100) 1100 Z Z Z) (nY Z (rT ?_))
        refine EndsP_of (ks := [_, _]) (.inr Z) (ret_okF Z) (by decide) Z (noR_spec Z) (by repeat (first | exact trivial | refine ⟨rfl, rfl, ?_⟩)) ?_ ?_
        · rw [hdI]
          rfl
        · rw [hdo]
          refine blk2 ?_ hfin
          first | (simp [wC, advW, setT, T.ints, intss, T.bools, List.take_of_length_le, List.map_set]; done) | (rw [List.set_set, hset]; simp [wC, advW, setT, T.ints, intss, T.bools, List.take_of_length_le]; done)
      simp only [HS] at h6
      refine W_skip (bN (tN (sQ ?_)))
      (refine W_le (Le.putBack (id := 104) (idq := 107) (i := A.chan.toNat) (off := 0) (T.ints hl) rfl rfl (List.getElem?_set_self (by rw [List.length_map]; omega)) rfl rfl rfl) ?_; refine W_norm rfl ?_; have hlp : ¬ 0 < hl.length := (by simp_all); have hdo : doR w mv = advW (setT w (at0 0 mv 0) { t with last := 0 }) (at0 0 mv 0) := (by rw [hdW', if_neg hlp]); have hC1 := hcA; have hp1 : 0 ≤ t.pos ∧ t.pos ≤ 1048576 := (by omega); have hl1 : t.acts.length ≤ 1048576 := (by omega); have hfin := tk0_fin (t2 := { t with last := 0 }) hie hi0 hi1 hc; have hset : (w.held.map T.ints).set A.chan.toNat (T.ints hl) = w.held.map T.ints := set_same hz)
      refine rG (eZ Z ?_)
      refine WO_callP (rid := 99) [101] Z Z (lt_of Z) Z Z (by repeat (first | exact ResP.done | refine ResP.pin0 1101 Z ?_ | refine ResP.t ?_ | refine ResP.nil 1 ?_ | refine ResP.nil' ?_ | refine ResP.own ?_ | refine ResP.sl Z Z (by first | omega | (simp; omega)) ?_ | refine ResP.aggT (by repeat (first | exact ResP.done | refine ResP.t ?_)) ?_)) Z (by repeat (first | exact trivial | refine ⟨rfl, rfl, ?_⟩)) (by decide) (advI_fun bt (cap * 4) i _ h _ hC1 hp1 hl1) Z Z Z ?_
      refine nZ Z (oN (tN (sQ (rG (eZ Z (oN (tN ?_)))))))
      ((first | (refine W_le (Le.gatherBox (u := 100) (j := 1) (id := 104) rfl rfl rfl (by first | exact Nat.le_refl _ | simp) rfl) ?_; refine W_norm rfl ?_) | skip); (first | (refine W_le (Le.gatherBox (u := 100) (j := 2) (id := 105) rfl rfl rfl (by first | exact Nat.le_refl _ | simp) rfl) ?_; refine W_norm rfl ?_) | skip); (first | (refine W_le (Le.gatherBox (u := 100) (j := 4) (id := 106) rfl rfl rfl (by first | exact Nat.le_refl _ | simp) rfl) ?_; refine W_norm rfl ?_) | skip))
      refine W_le (Le.close (u := 100) 1100 Z Z Z) (nY Z (rT ?_))
      refine EndsP_of (ks := [_, _]) (.inr Z) (ret_okF Z) (by decide) Z (noR_spec Z) (by repeat (first | exact trivial | refine ⟨rfl, rfl, ?_⟩)) ?_ ?_
      · rw [hdI]
        rfl
      · rw [hdo]
        refine blk2 ?_ hfin
        first | (simp [wC, advW, setT, T.ints, intss, T.bools, List.take_of_length_le, List.map_set]; done) | (rw [List.set_set, hset]; simp [wC, advW, setT, T.ints, intss, T.bools, List.take_of_length_le]; done)
    simp only [HS] at h5
    refine sQ (rG (eZ Z (WO_idxT tys Z Z (lt_of Z) Z Z Z Z Z Z Z (by omega) _ (getT _ _ (by omega) (by omega)) (eK 3 Z (oN (tN ?_))))))
    refine W_cond Z (fun h6 => ?_) (fun h6 => ?_)
    ·
      simp only [HS] at h6
      refine sQ (nY Z ?_)
      have hk1 : A.kind = 1 := by omega
      have hJ0 : 0 ≤ at0 0 mv 2 := by rw [← hmj]; omega
      obtain ⟨⟨_, hJ1⟩, hIJ, hJw⟩ := hm.j.resolve_left (by omega)
      obtain ⟨j, hje⟩ : ∃ j, j = (at0 0 mv 2).toNat := ⟨_, rfl⟩
      have hjt : j < w.tasks.length := by omega
      have hij : ¬ j = i := by omega
      obtain ⟨u, hu⟩ : ∃ u, u = w.tasks[j]'hjt := ⟨_, rfl⟩
      obtain ⟨hj, hhj⟩ : ∃ hj, hj = hdr[j]'(by omega) := ⟨_, rfl⟩
      have hcj : (hdr.zip w.tasks)[j]? = some (hj, u) := by rw [hhj, hu]; exact zip_some _ _
      have hum : u ∈ w.tasks := by rw [hu]; exact List.getElem_mem _
      have huJ : tk w (at0 0 mv 2) = u := by rw [tk, at0_of hJ0 hJ1, hu]; simp only [hje]
      have hup := hgo.pos _ hum
      have hus : u.state = 0 := Classical.byContradiction fun hx => by rw [huJ] at hJw; unfold ways at hJw; rw [if_neg hx] at hJw; simp at hJw
      have hup1 := hup.2.1 hus
      have hnp : ¬ ((A.kind = 5 ∨ A.kind = 1) ∧ w.shut[A.chan.toNat]'(by omega) = true) := fun h => by first | omega | (simp_all; done) | (simp_all; omega)
      rw [if_neg hnp, if_neg (by omega), if_pos ⟨hk1, hJ0⟩, huJ] at hdW'
      have hdo := hdW'
      have hC2 : ((hdr.zip w.tasks).set j (hj, { u with last := A.n }))[j]? = some (hj, { u with last := A.n }) := tc_mid hcj
      have hp2 : 0 ≤ u.pos ∧ u.pos ≤ 1048576 := by omega
      have hl2 : u.acts.length ≤ 1048576 := by omega
      have hp1 : 0 ≤ t.pos ∧ t.pos ≤ 1048576 := by omega
      have hl1 : t.acts.length ≤ 1048576 := by omega
      have hC1 : (((hdr.zip w.tasks).set j (hj, { u with last := A.n })).set j (hj, advT { u with last := A.n }))[i]? = some (h, t) := by rw [List.getElem?_set_ne hij, List.getElem?_set_ne hij]; exact hc
      have hfin := tk2_fin hie hje hi0 hi1 hJ0 hJ1 hIJ hcj hc htI (n := A.n)
      refine W_regionDm 11 mixed Z (by kernel_rfl) (by kernel_rfl) (evQ ?_)
      refine QL_norm Z (QL_nil' rfl Z (lt_of Z) Z Z Z (evQ ?_))
      refine evQ ?_
      refine evQ ?_
      refine QL_idxT tys Z Z (lt_of Z) Z Z Z Z Z Z Z (by omega) _ (getT _ _ (by omega) (by omega)) (evQ ?_)
      refine QL_norm Z ?_
      rw [hmj]
      refine evQ ?_
      refine evQ ?_
      refine QL_idxV tys Z Z (lt_of Z) Z Z Z Z Z Z (by omega) (by omega) ?_
      rw [← hje]
      refine QL_fieldV tys Z Z (lt_of Z) Z Z Z Z Z (QL_nil (WO_storeV (id := 101) (u0 := .int .i64 u.last) (u := .int .i64 A.n) tys Z Z Z Z Z Z Z (tcT_at hcj (by decide)) Z Z Z (nZ Z (WO_le (Le.eqK (id := 101) Z (tcs_to (c' := (hj, { u with last := A.n })) hcj (by decide) Z Z)) (nZ Z (oN (tN (W_regionH [[], [], [], [], [], [], [], [], []] mixed (by kernel_rfl) (QH_G0 (QG_ev tys Z Z (lt_of Z) Z (QG_nil (QH_G0 (QG_nil' rfl Z (lt_of Z) Z Z Z (QG_nil (QH_G0 ?_)))))))))))))))
      refine QG_ev tys Z Z (lt_of Z) Z (QG_nil (QH_G0 (QG_ev tys Z Z (lt_of Z) Z (QG_nil (QH_norm Z (QH_G0 (QG_ev tys Z Z (lt_of Z) Z (QG_nil (QH_G0 (QG_idxT tys Z Z (lt_of Z) Z Z Z Z Z Z Z (by omega) _ (getT _ _ (by omega) (by omega)) (QG_nil (QH_G0 (QG_ev tys Z Z (lt_of Z) Z (QG_nil (QH_G0 ?_)))))))))))))))
      rw [hmj]
      refine QG_idxV tys Z Z (lt_of Z) Z Z Z Z Z Z (by omega) (by omega) ?_
      rw [← hje]
      refine QG_nil (QH_norm Z ?_)
      refine QH_callP (rid := 99) [101] Z Z (lt_of Z) Z Z (by repeat (first | exact ResP.done | refine ResP.pin0 1101 Z ?_ | refine ResP.t ?_ | refine ResP.nil 1 ?_ | refine ResP.nil' ?_ | refine ResP.own ?_ | refine ResP.sl Z Z (by first | omega | (simp; omega)) ?_ | refine ResP.aggT (by repeat (first | exact ResP.done | refine ResP.t ?_)) ?_)) Z (by repeat (first | exact trivial | refine ⟨rfl, rfl, ?_⟩)) (by decide) (advI_fun bt (cap * 4) j _ hj _ hC2 hp2 hl2) Z Z Z ?_
      refine QH_nil ?_
      refine ⟨by kernel_rfl, ?_⟩
      refine nZ Z (oN (bN (tN (sQ ?_))))
      skip
      refine rG (eZ Z ?_)
      refine WO_callP (rid := 99) [101] Z Z (lt_of Z) Z Z (by repeat (first | exact ResP.done | refine ResP.pin0 1101 Z ?_ | refine ResP.t ?_ | refine ResP.nil 1 ?_ | refine ResP.nil' ?_ | refine ResP.own ?_ | refine ResP.sl Z Z (by first | omega | (simp; omega)) ?_ | refine ResP.aggT (by repeat (first | exact ResP.done | refine ResP.t ?_)) ?_)) Z (by repeat (first | exact trivial | refine ⟨rfl, rfl, ?_⟩)) (by decide) (advI_fun bt (cap * 4) i _ h _ hC1 hp1 hl1) Z Z Z ?_
      refine nZ Z (oN (tN (sQ (rG (eZ Z (oN (tN ?_)))))))
      ((first | (refine W_le (Le.gatherBox (u := 100) (j := 1) (id := 104) rfl rfl rfl (by first | exact Nat.le_refl _ | simp) rfl) ?_; refine W_norm rfl ?_) | skip); (first | (refine W_le (Le.gatherBox (u := 100) (j := 2) (id := 105) rfl rfl rfl (by first | exact Nat.le_refl _ | simp) rfl) ?_; refine W_norm rfl ?_) | skip); (first | (refine W_le (Le.gatherBox (u := 100) (j := 4) (id := 106) rfl rfl rfl (by first | exact Nat.le_refl _ | simp) rfl) ?_; refine W_norm rfl ?_) | skip))
      refine W_le (Le.close (u := 100) 1100 Z Z Z) (nY Z (rT ?_))
      refine EndsP_of (ks := [_, _]) (.inr Z) (ret_okF Z) (by decide) Z (noR_spec Z) (by repeat (first | exact trivial | refine ⟨rfl, rfl, ?_⟩)) ?_ ?_
      · rw [hdI]
        rfl
      · rw [hdo]
        refine blk2 ?_ hfin
        first | (simp [wC, advW, setT, T.ints, intss, T.bools, List.take_of_length_le, List.map_set]; done) | (rw [List.set_set, hset]; simp [wC, advW, setT, T.ints, intss, T.bools, List.take_of_length_le]; done)
    simp only [HS] at h6
    refine nY Z ?_
    have hk1 : A.kind = 1 := by omega
    have hJ0 : ¬ 0 ≤ at0 0 mv 2 := by rw [← hmj]; omega
    have hnp : ¬ ((A.kind = 5 ∨ A.kind = 1) ∧ w.shut[A.chan.toNat]'(by omega) = true) := fun h => by first | omega | (simp_all; done) | (simp_all; omega)
    rw [if_neg hnp, if_neg (by omega), if_neg (fun e => hJ0 e.2), if_pos hk1, hhc, ← hle] at hdW'
    have hdo := hdW'
    have hC1 := hc
    have hp1 : 0 ≤ t.pos ∧ t.pos ≤ 1048576 := by omega
    have hl1 : t.acts.length ≤ 1048576 := by omega
    have hfin := adv_fin (W1 := { w with held := w.held.set A.chan.toNat (hl ++ [A.n]) }) hie hc htI
    refine W_takeL (id := 104) (i := A.chan.toNat) (off := 0) 107 Z hz Z Z Z (fun ad cp => ?_)
    refine nY Z (W_regionH [[107], [107], [107], [107], [107], [107], [], [], [], [], [], [], [], [], [107], [107], [107], [], [], []] mixed (by kernel_rfl) (QH_G (QG_ev tys Z Z (lt_of Z) Z (QG_nil (QH_G (QG_nil' rfl Z (lt_of Z) Z Z Z (QG_nil (QH_G (QG_ev tys Z Z (lt_of Z) Z (QG_nil (QH_G (QG_ev tys Z Z (lt_of Z) Z (QG_nil (QH_norm Z (QH_G ?_)))))))))))))))
    refine QG_ev tys Z Z (lt_of Z) Z (QG_nil (QH_G (QG_ev tys Z Z (lt_of Z) Z (QG_nil (QH_G0 (QG_ev tys Z Z (lt_of Z) Z (QG_nil (QH_G0 (QG_nil' rfl Z (lt_of Z) Z Z Z (QG_nil (QH_norm Z (QH_G0 (QG_ev tys Z Z (lt_of Z) Z (QG_nil (QH_G0 ?_)))))))))))))))
    refine QG_ev tys Z Z (lt_of Z) Z (QG_nil (QH_G0 (QG_ev tys Z Z (lt_of Z) Z (QG_nil (QH_G0 (QG_ev tys Z Z (lt_of Z) Z (QG_nil (QH_norm Z (QH_G0 (QG_idxS tys Z Z (lt_of Z) Z Z Z Z Z Z Z Z hAc0 (by first | (rw [List.length_map]; omega) | (rw [List.length_set, List.length_map]; omega)) ?_))))))))))
    refine QG_nil ?_
    refine QH_loadBack tys 107 Z Z (lt_of Z) Z Z Z Z (by rw [Nat.zero_add]; exact List.getElem?_set_self (by rw [List.length_map]; omega)) Z Z ?_
    refine QH_G (QG_ev tys Z Z (lt_of Z) Z (QG_nil (QH_G (QG_ev tys Z Z (lt_of Z) Z (QG_nil (QH_norm Z (QH_G ?_)))))))
    refine QG_buildS tys [T.int A.n] Z Z (lt_of Z) Z Z Z Z Z (lt_of Z) (by repeat (first | exact PartsOk.nil' | refine PartsOk.cons' rfl (by repeat (first | exact AbsL.nil' | refine AbsL.v' ?_ | refine AbsL.own' ?_ | refine AbsL.none' ?_)) Z ?_)) Z Z Z (by decide) ?_
    refine QG_nil (QH_G0 (QG_appendO tys Z Z (lt_of Z) Z Z Z Z Z Z Z Z Z ((fun x hx => by rw [List.mem_singleton] at hx; subst hx; exact ⟨rfl, fun z hz => ⟨_, by simpa [T.cells] using hz⟩⟩)) (by simp; omega) (by decide) Z ?_))
    refine QG_nil (QH_G0 (QG_idxS tys Z Z (lt_of Z) Z Z Z Z Z Z Z Z hAc0 (by first | (rw [List.length_map]; omega) | (rw [List.length_set, List.length_map]; omega)) ?_))
    refine QG_nil ?_
    refine QH_storeL tys [.list 1 (hl.map T.int ++ [T.int A.n])] Z Z Z Z Z Z (by rw [Nat.zero_add]; exact List.getElem?_set_self (by rw [List.length_map]; omega)) Z Z (AbsL.own' AbsL.nil') Z (by decide) (Nat.le_of_ble_eq_true Z) ?_
    refine QH_norm Z (QH_nil ?_)
    refine ⟨by kernel_rfl, ?_⟩
    refine nZ Z (WO_le (Le.sameL (id := 104) (ys := (w.held.set A.chan.toNat (hl ++ [A.n])).map T.ints) Z (held_same (by show [T.list 1 _] = [T.list 1 _]; rw [List.map_append]; rfl)) (by simp) held_cells) ?_)
    refine nZ Z (oN (bN (tN (sQ ?_))))
    skip
    refine rG (eZ Z ?_)
    refine WO_callP (rid := 99) [101] Z Z (lt_of Z) Z Z (by repeat (first | exact ResP.done | refine ResP.pin0 1101 Z ?_ | refine ResP.t ?_ | refine ResP.nil 1 ?_ | refine ResP.nil' ?_ | refine ResP.own ?_ | refine ResP.sl Z Z (by first | omega | (simp; omega)) ?_ | refine ResP.aggT (by repeat (first | exact ResP.done | refine ResP.t ?_)) ?_)) Z (by repeat (first | exact trivial | refine ⟨rfl, rfl, ?_⟩)) (by decide) (advI_fun bt (cap * 4) i _ h _ hC1 hp1 hl1) Z Z Z ?_
    refine nZ Z (oN (tN (sQ (rG (eZ Z (oN (tN ?_)))))))
    ((first | (refine W_le (Le.gatherBox (u := 100) (j := 1) (id := 104) rfl rfl rfl (by first | exact Nat.le_refl _ | simp) rfl) ?_; refine W_norm rfl ?_) | skip); (first | (refine W_le (Le.gatherBox (u := 100) (j := 2) (id := 105) rfl rfl rfl (by first | exact Nat.le_refl _ | simp) rfl) ?_; refine W_norm rfl ?_) | skip); (first | (refine W_le (Le.gatherBox (u := 100) (j := 4) (id := 106) rfl rfl rfl (by first | exact Nat.le_refl _ | simp) rfl) ?_; refine W_norm rfl ?_) | skip))
    refine W_le (Le.close (u := 100) 1100 Z Z Z) (nY Z (rT ?_))
    refine EndsP_of (ks := [_, _]) (.inr Z) (ret_okF Z) (by decide) Z (noR_spec Z) (by repeat (first | exact trivial | refine ⟨rfl, rfl, ?_⟩)) ?_ ?_
    · rw [hdI]
      rfl
    · rw [hdo]
      refine blk2 ?_ hfin
      first | (simp [wC, advW, setT, T.ints, intss, T.bools, List.take_of_length_le, List.map_set]; done) | (rw [List.set_set, hset]; simp [wC, advW, setT, T.ints, intss, T.bools, List.take_of_length_le]; done)
  simp only [HS] at h2
  iterate 8 (refine QL_guardN rfl rfl rfl rfl rfl (lt_of rfl) ?_)
  refine evQ ?_
  refine evQ ?_
  refine QL_nil (tN (W_condF Z (sQ (rG (eK 4 Z (kZ [0,1,4,5,6,87] Z (oN (tN ?_))))))))
  refine W_cond Z (fun h3 => ?_) (fun h3 => ?_)
  ·
    simp only [HS] at h3
    refine nY Z ?_
    have hnp : ¬ ((A.kind = 5 ∨ A.kind = 1) ∧ w.shut[A.chan.toNat]'(by omega) = true) := fun h => by first | omega | (simp_all; done) | (simp_all; omega)
    rw [if_neg hnp] at hdW'
    have hdo : doR w mv = advW { w with shut := w.shut.set A.chan.toNat true } (at0 0 mv 0) := by rw [hdW', if_pos (by assumption)]
    have hC1 := hc
    have hp1 : 0 ≤ t.pos ∧ t.pos ≤ 1048576 := by omega
    have hl1 : t.acts.length ≤ 1048576 := by omega
    have hfin := adv_fin (W1 := { w with shut := w.shut.set A.chan.toNat true }) hie hc htI
    refine W_regionDm 7 mixed Z (by kernel_rfl) (by kernel_rfl) (evQ ?_)
    refine QL_nil' rfl Z (lt_of Z) Z Z Z (evQ ?_)
    refine evQ ?_
    refine evQ ?_
    refine evQ ?_
    refine QL_norm Z (QL_idxS tys Z Z (lt_of Z) Z Z Z Z Z Z Z Z hAc0 (by first | (rw [List.length_map]; omega) | (rw [List.length_set, List.length_map]; omega)) ?_)
    refine QL_nil (WO_storeE tys (T.bool true) Z Z Z Z Z Z (Nat.zero_add _) (by rw [List.length_map]; omega) Z (AbsL.v' AbsL.nil') Z Z Z ?_)
    refine nZ Z (oN (bN (tN (sQ ?_))))
    skip
    refine rG (eZ Z ?_)
    refine WO_callP (rid := 99) [101] Z Z (lt_of Z) Z Z (by repeat (first | exact ResP.done | refine ResP.pin0 1101 Z ?_ | refine ResP.t ?_ | refine ResP.nil 1 ?_ | refine ResP.nil' ?_ | refine ResP.own ?_ | refine ResP.sl Z Z (by first | omega | (simp; omega)) ?_ | refine ResP.aggT (by repeat (first | exact ResP.done | refine ResP.t ?_)) ?_)) Z (by repeat (first | exact trivial | refine ⟨rfl, rfl, ?_⟩)) (by decide) (advI_fun bt (cap * 4) i _ h _ hC1 hp1 hl1) Z Z Z ?_
    refine nZ Z (oN (tN (sQ (rG (eZ Z (oN (tN ?_)))))))
    ((first | (refine W_le (Le.gatherBox (u := 100) (j := 1) (id := 104) rfl rfl rfl (by first | exact Nat.le_refl _ | simp) rfl) ?_; refine W_norm rfl ?_) | skip); (first | (refine W_le (Le.gatherBox (u := 100) (j := 2) (id := 105) rfl rfl rfl (by first | exact Nat.le_refl _ | simp) rfl) ?_; refine W_norm rfl ?_) | skip); (first | (refine W_le (Le.gatherBox (u := 100) (j := 4) (id := 106) rfl rfl rfl (by first | exact Nat.le_refl _ | simp) rfl) ?_; refine W_norm rfl ?_) | skip))
    refine W_le (Le.close (u := 100) 1100 Z Z Z) (nY Z (rT ?_))
    refine EndsP_of (ks := [_, _]) (.inr Z) (ret_okF Z) (by decide) Z (noR_spec Z) (by repeat (first | exact trivial | refine ⟨rfl, rfl, ?_⟩)) ?_ ?_
    · rw [hdI]
      rfl
    · rw [hdo]
      refine blk2 ?_ hfin
      first | (simp [wC, advW, setT, T.ints, intss, T.bools, List.take_of_length_le, List.map_set]; done) | (rw [List.set_set, hset]; simp [wC, advW, setT, T.ints, intss, T.bools, List.take_of_length_le]; done)
  simp only [HS] at h3
  refine sQ (rG (eK 4 Z (oN (tN ?_))))
  refine W_cond Z (fun h4 => ?_) (fun h4 => ?_)
  ·
    simp only [HS] at h4
    refine sQ (nY Z ?_)
    have hk2 : A.kind = 2 := by assumption
    have hnp : ¬ ((A.kind = 5 ∨ A.kind = 1) ∧ w.shut[A.chan.toNat]'(by omega) = true) := fun h => by omega
    rw [if_neg hnp, if_neg (by omega), if_neg (by omega), if_neg (by omega)] at hdW'
    rw [hhc, ← hle] at hdW'
    refine rG (eZ Z (WO_nil' rfl Z (lt_of Z) Z Z Z (WO_fieldV tys Z Z (lt_of Z) Z Z Z Z Z (WO_storeV (id := 101) (u0 := .int .i64 t.last) (u := .int .i64 0) tys Z Z Z Z Z Z Z (tcT_at hc (by decide)) Z Z Z (nZ Z (WO_le (Le.eqK (id := 101) Z (tcs_to (c' := (h, { t with last := 0 })) hc (by decide) Z Z)) ?_))))))
    have hcA : ((hdr.zip w.tasks).set i (h, { t with last := 0 }))[i]? = some (h, { t with last := 0 }) := tc_mid hc
    refine nZ Z (oN (tN (sQ (nY Z ?_))))
    refine W_takeL (id := 104) (i := A.chan.toNat) (off := 0) 107 Z hz Z Z Z (fun ad cp => ?_)
    refine nY Z (kY [0,4,5,6] Z (W_regionD mixed (by kernel_rfl) (evQ ?_)))
    refine QL_nil' rfl Z (lt_of Z) Z Z Z (evQ ?_)
    refine evQ ?_
    refine evQ ?_
    refine evQ ?_
    refine QL_norm Z (QL_idxS tys Z Z (lt_of Z) Z Z Z Z Z Z Z Z hAc0 (by first | (rw [List.length_map]; omega) | (rw [List.length_set, List.length_map]; omega)) ?_)
    refine QL_loadL tys Z Z (lt_of Z) Z Z Z Z (by rw [Nat.zero_add]; exact List.getElem?_set_self (by rw [List.length_map]; omega)) Z ?_
    refine evQ ?_
    refine QL_nil (tN (sQ (rG (eZ Z (WO_lenV Z Z (lt_of Z) Z ⟨3, by kernel_rfl⟩ rfl (eZ Z (oN (tN ?_))))))))
    refine W_cond Z (fun h5 => ?_) (fun h5 => ?_)
    ·
      simp only [HS] at h5
      refine sQ (nY Z (W_le (Le.ownBack (t := 7) (id := 107) Z Z) (nY Z (W_le (Le.adoptE (u := 7) 107 Z Z) (nY Z ?_)))))
      have hlp : 0 < hl.length := by simp_all
      have hdo : doR w mv = advW { setT w (at0 0 mv 0) { t with last := hl[0] } with held := w.held.set A.chan.toNat (hl.drop 1) } (at0 0 mv 0) := by rw [hdW', if_pos hlp, show at0 0 hl 0 = hl[0] from at0_of (l := hl) (i := 0) (by omega) (by omega)]
      have hC1 : (((hdr.zip w.tasks).set i (h, { t with last := 0 })).set i (h, { t with last := hl[0] }))[i]? = some (h, { t with last := hl[0] }) := tc_mid hcA
      have hp1 : 0 ≤ t.pos ∧ t.pos ≤ 1048576 := by omega
      have hl1 : t.acts.length ≤ 1048576 := by omega
      have hfin : (((hdr.zip w.tasks).set i (h, { t with last := 0 })).set i (h, { t with last := hl[0] })).set i (h, advT { t with last := hl[0] }) = hdr.zip (advW { setT w (at0 0 mv 0) { t with last := hl[0] } with held := w.held.set A.chan.toNat (hl.drop 1) } (at0 0 mv 0)).tasks := by
       rw [List.set_set, List.set_set, zip_set hc]
       have e1 : tk { setT w (at0 0 mv 0) { t with last := hl[0] } with held := w.held.set A.chan.toNat (hl.drop 1) } (at0 0 mv 0) = { t with last := hl[0] } := (tk_set hi0 hi1 hi0).trans (if_pos rfl)
       show _ = hdr.zip ((w.tasks.set (at0 0 mv 0).toNat _).set (at0 0 mv 0).toNat (advT (tk _ _)))
       rw [e1, List.set_set, hie]
      refine rG (eK 2 Z (WO_idxS tys Z Z (lt_of Z) Z Z Z Z Z Z Z Z (by omega) (by rw [List.length_map]; omega) ?_))
      refine kZ [0,4,5,6,7,116,118] Z (WO_loadL tys Z Z (lt_of Z) Z Z Z Z (getT0 _ _ (by omega) (by omega)) Z (WO_nil' rfl Z (lt_of Z) Z Z Z (WO_fieldV tys Z Z (lt_of Z) Z Z Z Z Z (WO_storeV (id := 101) (u0 := .int .i64 0) (u := .int .i64 hl[0]) tys Z Z Z Z Z Z Z (tcT_at hcA (by decide)) Z Z Z (nZ Z (WO_le (Le.eqK (id := 101) Z (tcs_to (c' := (h, { t with last := hl[0] })) hcA (by decide) Z Z)) (nZ Z (oN (tN (W_regionGm 9 mixed Z (by kernel_rfl) (by kernel_rfl) (QG_ev tys Z Z (lt_of Z) Z (QG_nil' rfl Z (lt_of Z) Z Z Z (QG_norm Z (QG_ev tys Z Z (lt_of Z) Z (QG_ev tys Z Z (lt_of Z) Z ?_)))))))))))))))
      refine QG_ev tys Z Z (lt_of Z) Z (QG_ev tys Z Z (lt_of Z) Z (QG_ev tys Z Z (lt_of Z) Z (QG_sliceS tys Z Z (lt_of Z) Z Z Z Z Z Z Z Z Z (by omega) (by rw [List.length_map]; omega) (by rw [List.length_map]; omega) ?_)))
      refine QG_norm Z (QG_call Z Z (lt_of Z) Z Z (resl_drop (id := 107) Z (by show 1 + (((List.map T.int hl).length : Int).toNat - 1) = hl.length; rw [List.length_map]; omega) Z) (cloneI_fun (hl.drop 1) (by rw [List.length_drop]; omega)) Z ?_)
      refine QG_nil ?_
      refine ⟨by kernel_rfl, ?_⟩
      refine nZ Z (WO_idxS tys Z Z (lt_of Z) Z Z Z Z Z Z Z Z hAc0 (by first | (rw [List.length_map]; omega) | (rw [List.length_set, List.length_map]; omega)) ?_)
      refine WO_storeE tys (T.ints (hl.drop 1)) Z Z Z Z Z Z (Nat.zero_add _) (by rw [List.length_set, List.length_map]; omega) Z (AbsL.own' AbsL.nil') Z Z Z ?_
      refine nZ Z (oN (bN (tN (sQ ?_))))
      skip
      refine rG (eZ Z ?_)
      refine WO_callP (rid := 99) [101] Z Z (lt_of Z) Z Z (by repeat (first | exact ResP.done | refine ResP.pin0 1101 Z ?_ | refine ResP.t ?_ | refine ResP.nil 1 ?_ | refine ResP.nil' ?_ | refine ResP.own ?_ | refine ResP.sl Z Z (by first | omega | (simp; omega)) ?_ | refine ResP.aggT (by repeat (first | exact ResP.done | refine ResP.t ?_)) ?_)) Z (by repeat (first | exact trivial | refine ⟨rfl, rfl, ?_⟩)) (by decide) (advI_fun bt (cap * 4) i _ h _ hC1 hp1 hl1) Z Z Z ?_
      refine nZ Z (oN (tN (sQ (rG (eZ Z (oN (tN ?_)))))))
      ((first | (refine W_le (Le.gatherBox (u := 100) (j := 1) (id := 104) rfl rfl rfl (by first | exact Nat.le_refl _ | simp) rfl) ?_; refine W_norm rfl ?_) | skip); (first | (refine W_le (Le.gatherBox (u := 100) (j := 2) (id := 105) rfl rfl rfl (by first | exact Nat.le_refl _ | simp) rfl) ?_; refine W_norm rfl ?_) | skip); (first | (refine W_le (Le.gatherBox (u := 100) (j := 4) (id := 106) rfl rfl rfl (by first | exact Nat.le_refl _ | simp) rfl) ?_; refine W_norm rfl ?_) | skip))
      refine W_le (Le.close (u := 100) 1100 Z Z Z) (nY Z (rT ?_))
      refine EndsP_of (ks := [_, _]) (.inr Z) (ret_okF Z) (by decide) Z (noR_spec Z) (by repeat (first | exact trivial | refine ⟨rfl, rfl, ?_⟩)) ?_ ?_
      · rw [hdI]
        rfl
      · rw [hdo]
        refine blk2 ?_ hfin
        first | (simp [wC, advW, setT, T.ints, intss, T.bools, List.take_of_length_le, List.map_set]; done) | (rw [List.set_set, hset]; simp [wC, advW, setT, T.ints, intss, T.bools, List.take_of_length_le]; done)
    simp only [HS] at h5
    refine W_skip (bN (tN (sQ ?_)))
    (refine W_le (Le.putBack (id := 104) (idq := 107) (i := A.chan.toNat) (off := 0) (T.ints hl) rfl rfl (List.getElem?_set_self (by rw [List.length_map]; omega)) rfl rfl rfl) ?_; refine W_norm rfl ?_; have hlp : ¬ 0 < hl.length := (by simp_all); have hdo : doR w mv = advW (setT w (at0 0 mv 0) { t with last := 0 }) (at0 0 mv 0) := (by rw [hdW', if_neg hlp]); have hC1 := hcA; have hp1 : 0 ≤ t.pos ∧ t.pos ≤ 1048576 := (by omega); have hl1 : t.acts.length ≤ 1048576 := (by omega); have hfin := tk0_fin (t2 := { t with last := 0 }) hie hi0 hi1 hc; have hset : (w.held.map T.ints).set A.chan.toNat (T.ints hl) = w.held.map T.ints := set_same hz)
    refine rG (eZ Z ?_)
    refine WO_callP (rid := 99) [101] Z Z (lt_of Z) Z Z (by repeat (first | exact ResP.done | refine ResP.pin0 1101 Z ?_ | refine ResP.t ?_ | refine ResP.nil 1 ?_ | refine ResP.nil' ?_ | refine ResP.own ?_ | refine ResP.sl Z Z (by first | omega | (simp; omega)) ?_ | refine ResP.aggT (by repeat (first | exact ResP.done | refine ResP.t ?_)) ?_)) Z (by repeat (first | exact trivial | refine ⟨rfl, rfl, ?_⟩)) (by decide) (advI_fun bt (cap * 4) i _ h _ hC1 hp1 hl1) Z Z Z ?_
    refine nZ Z (oN (tN (sQ (kY [4] Z (rG (eZ Z (oN (tN ?_))))))))
    ((first | (refine W_le (Le.gatherBox (u := 100) (j := 1) (id := 104) rfl rfl rfl (by first | exact Nat.le_refl _ | simp) rfl) ?_; refine W_norm rfl ?_) | skip); (first | (refine W_le (Le.gatherBox (u := 100) (j := 2) (id := 105) rfl rfl rfl (by first | exact Nat.le_refl _ | simp) rfl) ?_; refine W_norm rfl ?_) | skip); (first | (refine W_le (Le.gatherBox (u := 100) (j := 4) (id := 106) rfl rfl rfl (by first | exact Nat.le_refl _ | simp) rfl) ?_; refine W_norm rfl ?_) | skip))
    refine W_le (Le.close (u := 100) 1100 Z Z Z) (nY Z (rT ?_))
    refine EndsP_of (ks := [_, _]) (.inr Z) (ret_okF Z) (by decide) Z (noR_spec Z) (by repeat (first | exact trivial | refine ⟨rfl, rfl, ?_⟩)) ?_ ?_
    · rw [hdI]
      rfl
    · rw [hdo]
      refine blk2 ?_ hfin
      first | (simp [wC, advW, setT, T.ints, intss, T.bools, List.take_of_length_le, List.map_set]; done) | (rw [List.set_set, hset]; simp [wC, advW, setT, T.ints, intss, T.bools, List.take_of_length_le]; done)
  simp only [HS] at h4
  refine sQ (rG (eZ Z (WO_idxT tys Z Z (lt_of Z) Z Z Z Z Z Z Z (by omega) _ (getT _ _ (by omega) (by omega)) (eK 3 Z (kZ [0,1,4,5,6,132] Z (oN (tN ?_)))))))
  refine W_cond Z (fun h5 => ?_) (fun h5 => ?_)
  ·
    simp only [HS] at h5
    refine sQ (nY Z ?_)
    have hk1 : A.kind = 1 := by omega
    have hJ0 : 0 ≤ at0 0 mv 2 := by rw [← hmj]; omega
    obtain ⟨⟨_, hJ1⟩, hIJ, hJw⟩ := hm.j.resolve_left (by omega)
    obtain ⟨j, hje⟩ : ∃ j, j = (at0 0 mv 2).toNat := ⟨_, rfl⟩
    have hjt : j < w.tasks.length := by omega
    have hij : ¬ j = i := by omega
    obtain ⟨u, hu⟩ : ∃ u, u = w.tasks[j]'hjt := ⟨_, rfl⟩
    obtain ⟨hj, hhj⟩ : ∃ hj, hj = hdr[j]'(by omega) := ⟨_, rfl⟩
    have hcj : (hdr.zip w.tasks)[j]? = some (hj, u) := by rw [hhj, hu]; exact zip_some _ _
    have hum : u ∈ w.tasks := by rw [hu]; exact List.getElem_mem _
    have huJ : tk w (at0 0 mv 2) = u := by rw [tk, at0_of hJ0 hJ1, hu]; simp only [hje]
    have hup := hgo.pos _ hum
    have hus : u.state = 0 := Classical.byContradiction fun hx => by rw [huJ] at hJw; unfold ways at hJw; rw [if_neg hx] at hJw; simp at hJw
    have hup1 := hup.2.1 hus
    have hnp : ¬ ((A.kind = 5 ∨ A.kind = 1) ∧ w.shut[A.chan.toNat]'(by omega) = true) := fun h => by first | omega | (simp_all; done) | (simp_all; omega)
    rw [if_neg hnp, if_neg (by omega), if_pos ⟨hk1, hJ0⟩, huJ] at hdW'
    have hdo := hdW'
    have hC2 : ((hdr.zip w.tasks).set j (hj, { u with last := A.n }))[j]? = some (hj, { u with last := A.n }) := tc_mid hcj
    have hp2 : 0 ≤ u.pos ∧ u.pos ≤ 1048576 := by omega
    have hl2 : u.acts.length ≤ 1048576 := by omega
    have hp1 : 0 ≤ t.pos ∧ t.pos ≤ 1048576 := by omega
    have hl1 : t.acts.length ≤ 1048576 := by omega
    have hC1 : (((hdr.zip w.tasks).set j (hj, { u with last := A.n })).set j (hj, advT { u with last := A.n }))[i]? = some (h, t) := by rw [List.getElem?_set_ne hij, List.getElem?_set_ne hij]; exact hc
    have hfin := tk2_fin hie hje hi0 hi1 hJ0 hJ1 hIJ hcj hc htI (n := A.n)
    refine W_regionDm 11 mixed Z (by kernel_rfl) (by kernel_rfl) (evQ ?_)
    refine QL_nil' rfl Z (lt_of Z) Z Z Z (evQ ?_)
    refine evQ ?_
    refine evQ ?_
    refine QL_idxT tys Z Z (lt_of Z) Z Z Z Z Z Z Z (by omega) _ (getT _ _ (by omega) (by omega)) (QL_norm Z (evQ ?_))
    rw [hmj]
    refine evQ ?_
    refine evQ ?_
    refine QL_idxV tys Z Z (lt_of Z) Z Z Z Z Z Z (by omega) (by omega) ?_
    rw [← hje]
    refine QL_fieldV tys Z Z (lt_of Z) Z Z Z Z Z (QL_nil (WO_storeV (id := 101) (u0 := .int .i64 u.last) (u := .int .i64 A.n) tys Z Z Z Z Z Z Z (tcT_at hcj (by decide)) Z Z Z (nZ Z (WO_le (Le.eqK (id := 101) Z (tcs_to (c' := (hj, { u with last := A.n })) hcj (by decide) Z Z)) (nZ Z (oN (tN (W_regionH [[], [], [], [], [], [], [], [], []] mixed (by kernel_rfl) (QH_G0 (QG_ev tys Z Z (lt_of Z) Z (QG_nil (QH_G0 (QG_nil' rfl Z (lt_of Z) Z Z Z (QG_nil (QH_G0 ?_)))))))))))))))
    refine QG_ev tys Z Z (lt_of Z) Z (QG_nil (QH_G0 (QG_ev tys Z Z (lt_of Z) Z (QG_nil (QH_norm Z (QH_G0 (QG_ev tys Z Z (lt_of Z) Z (QG_nil (QH_G0 (QG_idxT tys Z Z (lt_of Z) Z Z Z Z Z Z Z (by omega) _ (getT _ _ (by omega) (by omega)) (QG_nil (QH_G0 (QG_ev tys Z Z (lt_of Z) Z (QG_nil (QH_G0 ?_)))))))))))))))
    rw [hmj]
    refine QG_idxV tys Z Z (lt_of Z) Z Z Z Z Z Z (by omega) (by omega) ?_
    rw [← hje]
    refine QG_nil (QH_norm Z ?_)
    refine QH_callP (rid := 99) [101] Z Z (lt_of Z) Z Z (by repeat (first | exact ResP.done | refine ResP.pin0 1101 Z ?_ | refine ResP.t ?_ | refine ResP.nil 1 ?_ | refine ResP.nil' ?_ | refine ResP.own ?_ | refine ResP.sl Z Z (by first | omega | (simp; omega)) ?_ | refine ResP.aggT (by repeat (first | exact ResP.done | refine ResP.t ?_)) ?_)) Z (by repeat (first | exact trivial | refine ⟨rfl, rfl, ?_⟩)) (by decide) (advI_fun bt (cap * 4) j _ hj _ hC2 hp2 hl2) Z Z Z ?_
    refine QH_nil ?_
    refine ⟨by kernel_rfl, ?_⟩
    refine nZ Z (oN (bN (tN (sQ ?_))))
    skip
    refine rG (eZ Z ?_)
    refine WO_callP (rid := 99) [101] Z Z (lt_of Z) Z Z (by repeat (first | exact ResP.done | refine ResP.pin0 1101 Z ?_ | refine ResP.t ?_ | refine ResP.nil 1 ?_ | refine ResP.nil' ?_ | refine ResP.own ?_ | refine ResP.sl Z Z (by first | omega | (simp; omega)) ?_ | refine ResP.aggT (by repeat (first | exact ResP.done | refine ResP.t ?_)) ?_)) Z (by repeat (first | exact trivial | refine ⟨rfl, rfl, ?_⟩)) (by decide) (advI_fun bt (cap * 4) i _ h _ hC1 hp1 hl1) Z Z Z ?_
    refine nZ Z (oN (tN (sQ (rG (eZ Z (oN (tN ?_)))))))
    ((first | (refine W_le (Le.gatherBox (u := 100) (j := 1) (id := 104) rfl rfl rfl (by first | exact Nat.le_refl _ | simp) rfl) ?_; refine W_norm rfl ?_) | skip); (first | (refine W_le (Le.gatherBox (u := 100) (j := 2) (id := 105) rfl rfl rfl (by first | exact Nat.le_refl _ | simp) rfl) ?_; refine W_norm rfl ?_) | skip); (first | (refine W_le (Le.gatherBox (u := 100) (j := 4) (id := 106) rfl rfl rfl (by first | exact Nat.le_refl _ | simp) rfl) ?_; refine W_norm rfl ?_) | skip))
    refine W_le (Le.close (u := 100) 1100 Z Z Z) (nY Z (rT ?_))
    refine EndsP_of (ks := [_, _]) (.inr Z) (ret_okF Z) (by decide) Z (noR_spec Z) (by repeat (first | exact trivial | refine ⟨rfl, rfl, ?_⟩)) ?_ ?_
    · rw [hdI]
      rfl
    · rw [hdo]
      refine blk2 ?_ hfin
      first | (simp [wC, advW, setT, T.ints, intss, T.bools, List.take_of_length_le, List.map_set]; done) | (rw [List.set_set, hset]; simp [wC, advW, setT, T.ints, intss, T.bools, List.take_of_length_le]; done)
  simp only [HS] at h5
  refine nY Z ?_
  have hk1 : A.kind = 1 := by omega
  have hJ0 : ¬ 0 ≤ at0 0 mv 2 := by rw [← hmj]; omega
  have hnp : ¬ ((A.kind = 5 ∨ A.kind = 1) ∧ w.shut[A.chan.toNat]'(by omega) = true) := fun h => by first | omega | (simp_all; done) | (simp_all; omega)
  rw [if_neg hnp, if_neg (by omega), if_neg (fun e => hJ0 e.2), if_pos hk1, hhc, ← hle] at hdW'
  have hdo := hdW'
  have hC1 := hc
  have hp1 : 0 ≤ t.pos ∧ t.pos ≤ 1048576 := by omega
  have hl1 : t.acts.length ≤ 1048576 := by omega
  have hfin := adv_fin (W1 := { w with held := w.held.set A.chan.toNat (hl ++ [A.n]) }) hie hc htI
  refine W_takeL (id := 104) (i := A.chan.toNat) (off := 0) 107 Z hz Z Z Z (fun ad cp => ?_)
  refine nY Z (W_regionH [[107], [107], [107], [107], [107], [107], [], [], [], [], [], [], [], [], [107], [107], [107], [], [], []] mixed (by kernel_rfl) (QH_G (QG_ev tys Z Z (lt_of Z) Z (QG_nil (QH_G (QG_nil' rfl Z (lt_of Z) Z Z Z (QG_nil (QH_G (QG_ev tys Z Z (lt_of Z) Z (QG_nil (QH_G (QG_ev tys Z Z (lt_of Z) Z (QG_nil (QH_norm Z (QH_G ?_)))))))))))))))
  refine QG_ev tys Z Z (lt_of Z) Z (QG_nil (QH_G (QG_ev tys Z Z (lt_of Z) Z (QG_nil (QH_G0 (QG_ev tys Z Z (lt_of Z) Z (QG_nil (QH_G0 (QG_nil' rfl Z (lt_of Z) Z Z Z (QG_nil (QH_norm Z (QH_G0 (QG_ev tys Z Z (lt_of Z) Z (QG_nil (QH_G0 ?_)))))))))))))))
  refine QG_ev tys Z Z (lt_of Z) Z (QG_nil (QH_G0 (QG_ev tys Z Z (lt_of Z) Z (QG_nil (QH_G0 (QG_ev tys Z Z (lt_of Z) Z (QG_nil (QH_norm Z (QH_G0 (QG_idxS tys Z Z (lt_of Z) Z Z Z Z Z Z Z Z hAc0 (by first | (rw [List.length_map]; omega) | (rw [List.length_set, List.length_map]; omega)) ?_))))))))))
  refine QG_nil ?_
  refine QH_loadBack tys 107 Z Z (lt_of Z) Z Z Z Z (by rw [Nat.zero_add]; exact List.getElem?_set_self (by rw [List.length_map]; omega)) Z Z ?_
  refine QH_G (QG_ev tys Z Z (lt_of Z) Z (QG_nil (QH_G (QG_ev tys Z Z (lt_of Z) Z (QG_nil (QH_norm Z (QH_G ?_)))))))
  refine QG_buildS tys [T.int A.n] Z Z (lt_of Z) Z Z Z Z Z (lt_of Z) (by repeat (first | exact PartsOk.nil' | refine PartsOk.cons' rfl (by repeat (first | exact AbsL.nil' | refine AbsL.v' ?_ | refine AbsL.own' ?_ | refine AbsL.none' ?_)) Z ?_)) Z Z Z (by decide) ?_
  refine QG_nil (QH_G0 (QG_appendO tys Z Z (lt_of Z) Z Z Z Z Z Z Z Z Z ((fun x hx => by rw [List.mem_singleton] at hx; subst hx; exact ⟨rfl, fun z hz => ⟨_, by simpa [T.cells] using hz⟩⟩)) (by simp; omega) (by decide) Z ?_))
  refine QG_nil (QH_G0 (QG_idxS tys Z Z (lt_of Z) Z Z Z Z Z Z Z Z hAc0 (by first | (rw [List.length_map]; omega) | (rw [List.length_set, List.length_map]; omega)) ?_))
  refine QG_nil ?_
  refine QH_storeL tys [.list 1 (hl.map T.int ++ [T.int A.n])] Z Z Z Z Z Z (by rw [Nat.zero_add]; exact List.getElem?_set_self (by rw [List.length_map]; omega)) Z Z (AbsL.own' AbsL.nil') Z (by decide) (Nat.le_of_ble_eq_true Z) ?_
  refine QH_norm Z (QH_nil ?_)
  refine ⟨by kernel_rfl, ?_⟩
  refine nZ Z (WO_le (Le.sameL (id := 104) (ys := (w.held.set A.chan.toNat (hl ++ [A.n])).map T.ints) Z (held_same (by show [T.list 1 _] = [T.list 1 _]; rw [List.map_append]; rfl)) (by simp) held_cells) ?_)
  refine nZ Z (oN (bN (tN (sQ ?_))))
  skip
  refine rG (eZ Z ?_)
  refine WO_callP (rid := 99) [101] Z Z (lt_of Z) Z Z (by repeat (first | exact ResP.done | refine ResP.pin0 1101 Z ?_ | refine ResP.t ?_ | refine ResP.nil 1 ?_ | refine ResP.nil' ?_ | refine ResP.own ?_ | refine ResP.sl Z Z (by first | omega | (simp; omega)) ?_ | refine ResP.aggT (by repeat (first | exact ResP.done | refine ResP.t ?_)) ?_)) Z (by repeat (first | exact trivial | refine ⟨rfl, rfl, ?_⟩)) (by decide) (advI_fun bt (cap * 4) i _ h _ hC1 hp1 hl1) Z Z Z ?_
  refine nZ Z (oN (tN (sQ (rG (eZ Z (oN (tN ?_)))))))
  ((first | (refine W_le (Le.gatherBox (u := 100) (j := 1) (id := 104) rfl rfl rfl (by first | exact Nat.le_refl _ | simp) rfl) ?_; refine W_norm rfl ?_) | skip); (first | (refine W_le (Le.gatherBox (u := 100) (j := 2) (id := 105) rfl rfl rfl (by first | exact Nat.le_refl _ | simp) rfl) ?_; refine W_norm rfl ?_) | skip); (first | (refine W_le (Le.gatherBox (u := 100) (j := 4) (id := 106) rfl rfl rfl (by first | exact Nat.le_refl _ | simp) rfl) ?_; refine W_norm rfl ?_) | skip))
  refine W_le (Le.close (u := 100) 1100 Z Z Z) (nY Z (rT ?_))
  refine EndsP_of (ks := [_, _]) (.inr Z) (ret_okF Z) (by decide) Z (noR_spec Z) (by repeat (first | exact trivial | refine ⟨rfl, rfl, ?_⟩)) ?_ ?_
  · rw [hdI]
    rfl
  · rw [hdo]
    refine blk2 ?_ hfin
    first | (simp [wC, advW, setT, T.ints, intss, T.bools, List.take_of_length_le, List.map_set]; done) | (rw [List.set_set, hset]; simp [wC, advW, setT, T.ints, intss, T.bools, List.take_of_length_le]; done)
open Go.Eng
section
variable {P : Program} {c : Ctx} {s : St} {Q : Exit → St → Prop} {ops : Array Oper}
theorem WO_ofRaw {l : List Oper} {id b sz : Nat} {vs : List Value} {ts : List T} {p : Prop} (hM : lookM s.M id = some (.raw b sz vs ts)) (h : ∀ w bs, OwnL w vs ts bs → p) (k : p → WO P c ops l s Q) : WO P c ops l s Q := by
 intro a w hi
 obtain ⟨F, β, fb, mb, ow, hc⟩ := hi
 have hm := hc.mem id
 rw [hM] at hm
 obtain ⟨arr, e, bs', h1, h2, h3, h4, h5⟩ := hm
 exact k (h _ _ h4) a w ⟨F, β, fb, mb, ow, hc⟩
end
theorem own_tcs {w : Go.World} : ∀ {l : List Task} {ws : List Value} {bs : List Nat}, OwnL w ws ((l.map Task.tt).flatMap T.cells) bs → ∃ hdr : List (Option Addr × Nat), hdr.length = l.length ∧ ws = tcsW (hdr.zip l)
 | [], ws, bs, h => by
  cases ws with
  | nil => exact ⟨[], rfl, rfl⟩
  | cons _ _ => cases h
 | t :: l, ws, bs, h => by
  rw [List.map_cons, List.flatMap_cons] at h
  change OwnL w ws (T.Acts t.acts :: T.int t.pos :: T.int t.state :: T.int t.last :: (l.map Task.tt).flatMap T.cells) bs at h
  match ws, h with
  | v0 :: ws, h =>
   obtain ⟨b1, b2, h1, h2, _⟩ := h.cons
   match ws, h2 with
   | v1 :: ws, h2 =>
    obtain ⟨b3, b4, h3, h4, _⟩ := h2.cons
    match ws, h4 with
    | v2 :: ws, h4 =>
     obtain ⟨b5, b6, h5, h6, _⟩ := h4.cons
     match ws, h6 with
     | v3 :: ws, h6 =>
      obtain ⟨b7, b8, h7, h8, _⟩ := h6.cons
      obtain ⟨hdr, g1, g2⟩ := own_tcs h8
      have e0 : ∃ ad cap, v0 = .slice ad t.acts.length cap := by
       generalize hx : T.Acts t.acts = x at h1
       cases h1 with
       | v _ _ => cases hx
       | none _ =>
        have := (T.list.inj hx).2
        rw [List.map_eq_nil_iff] at this
        exact ⟨_, _, by rw [this]; rfl⟩
       | list _ _ _ _ _ _ _ _ =>
        have := congrArg List.length (T.list.inj hx).2
        rw [List.length_map] at this
        exact ⟨_, _, by rw [this]⟩
      obtain ⟨ad, cap, rfl⟩ := e0
      have e1 : v1 = .int .i64 t.pos := by cases h3; rfl
      have e2 : v2 = .int .i64 t.state := by cases h5; rfl
      have e3 : v3 = .int .i64 t.last := by cases h7; rfl
      subst e1 e2 e3 g2
      exact ⟨(ad, cap) :: hdr, by simp [g1], rfl⟩
theorem doI_eq {w : World} {mv : List Int} (hg : GW w) : doI w mv = doOk w mv := by
 have h := hg.trace
 have a1 : ∀ (w : World) i t, (setT w i t).trace = w.trace := fun _ _ _ => rfl
 have a2 : ∀ (w : World) i, (advW w i).trace = w.trace := fun _ _ => rfl
 unfold doI doOk doW
 by_cases h3 : (actOf w mv).kind = 3
 ·rw [if_pos h3, a2]
  by_cases h4 : w.trace.length = 120
  ·simp [h3, h4]
  ·have : w.trace.length + 1 ≤ 120 := by omega
   simp [h3, h4, this]
 ·rw [if_neg h3]
  have : w.trace.length ≤ 120 := by omega
  split <;> first | (simp [h3, a1, a2, this]; done) | skip
  split <;> first | (simp [h3, a1, a2, this]; done) | skip
  split <;> first | (simp [h3, a1, a2, this]; done) | skip
  split <;> first | (simp [h3, a1, a2, this]; done) | skip
  split <;> (simp [h3, a1, a2, this]; done)
theorem doW_len (w : World) (mv : List Int) : (doW w mv).tasks.length = w.tasks.length := by
 have a1 : ∀ (w : World) i t, (setT w i t).tasks.length = w.tasks.length := fun _ _ _ => List.length_set
 have a2 : ∀ (w : World) i, (advW w i).tasks.length = w.tasks.length := fun _ _ => List.length_set
 unfold doW
 split <;> first | (simp only [a1, a2]; done) | skip
 split <;> first | (simp only [a1, a2]; done) | skip
 split <;> first | (simp only [a1, a2]; done) | skip
 split <;> first | (simp only [a1, a2]; done) | skip
 split <;> first | (simp only [a1, a2]; done) | skip
 split <;> (simp only [a1, a2]; done)
theorem doR_len (w : World) (mv : List Int) : (doR w mv).tasks.length = w.tasks.length := by
 unfold doR; split
 ·exact doW_len w mv
 ·rfl
def world0 : World := ⟨[], [], [], [], []⟩
abbrev World.dd (w : World) : D := .agg [.own (T.ints w.room), .own (intss w.held), .own (T.bools w.shut), .own (T.Tasks w.tasks), .own (T.ints w.trace)]
open Go.Eng
inductive All2 {α β : Type} (p : α → β → Prop) : List α → List β → Prop
 | nil : All2 p [] []
 | cons {a b l m} : p a b → All2 p l m → All2 p (a :: l) (b :: m)
theorem All2.len {α β : Type} {p : α → β → Prop} {l : List α} {m : List β} (h : All2 p l m) : l.length = m.length := by
 induction h with
 | nil => rfl
 | cons _ _ ih => simp [ih]
theorem All2.at {α β : Type} {p : α → β → Prop} {l : List α} {m : List β} (h : All2 p l m) : ∀ {i : Nat} (h1 : i < l.length) (h2 : i < m.length), p l[i] m[i] := by
 induction h with
 | nil => intro i h1; simp at h1
 | cons h _ ih =>
  intro i h1 h2
  cases i with
  | zero => exact h
  | succ i => exact ih (by simpa using h1) (by simpa using h2)
theorem All2.left {α β : Type} {p : α → β → Prop} {l : List α} {m : List β} (h : All2 p l m) : ∀ {a}, a ∈ l → ∃ b, b ∈ m ∧ p a b := by
 induction h with
 | nil => intro a h; cases h
 | cons h _ ih =>
  intro a ha
  rcases List.mem_cons.1 ha with rfl | ha
  ·exact ⟨_, List.mem_cons_self .., h⟩
  ·obtain ⟨b, h1, h2⟩ := ih ha
   exact ⟨b, List.mem_cons_of_mem _ h1, h2⟩
def TCase (z : T) (b : Act) : Prop := b.cases = [] ∧ ∃ a c, z = .agg [T.int b.kind, T.int b.chan, T.int b.n, .v (.slice a 0 c)]
def TAct (y : T) (a : Act) : Prop := ∃ zs, y = .agg [T.int a.kind, T.int a.chan, T.int a.n, .list 4 zs] ∧ All2 TCase zs a.cases
def TActs (x : T) (l : List Act) : Prop := ∃ ys, x = .list 4 ys ∧ All2 TAct ys l
def ttT (p : T × Task) : T := .agg [p.1, T.int p.2.pos, T.int p.2.state, T.int p.2.last]
abbrev ttW (w : World) (xs : List T) : T := .agg [T.ints w.room, intss w.held, T.bools w.shut, .list 4 ((xs.zip w.tasks).map ttT), T.ints w.trace]
abbrev ddW (w : World) (xs : List T) : D := .agg [.own (T.ints w.room), .own (intss w.held), .own (T.bools w.shut), .own (.list 4 ((xs.zip w.tasks).map ttT)), .own (T.ints w.trace)]
theorem case_read {zs : List T} {l : List Act} (h : All2 TCase zs l) : ∀ x, x ∈ zs → (T.cells x).length = 4 ∧ ∀ y, y ∈ T.cells x → ∃ v, y = .v v := by
 intro x hx
 obtain ⟨b, _, _, a, c, rfl⟩ := h.left hx
 refine ⟨rfl, fun y hy => ?_⟩
 simp [T.cells] at hy
 rcases hy with rfl | rfl | rfl | rfl <;> exact ⟨_, rfl⟩
theorem l1OwnW_fun (l : List Int) (hl : l.length ≤ 1073741824) : Fun Try.prog 84 [.t (T.ints l)] (tupD [.own (T.ints l)]) := by
 refine Fun.begin tys Try.func84 Z Z (N := 6) [(0, .t (T.ints l))] Z Z (fun w0 G F0 => ?_)
 refine sQ (rG (eZ Z (oN (tN (sQ (rG ?_))))))
 refine WO_buildSlice tys [] Z Z (lt_of Z) Z Z Z Z Z (by decide) (by repeat (first | exact PartsOk.nil' | refine PartsOk.cons' rfl (by repeat (first | exact AbsL.nil' | refine AbsL.v' ?_ | refine AbsL.own' ?_ | refine AbsL.none' ?_)) Z ?_)) (by first | exact List.nodup_nil | exact nodup1 _ | decide | exact nodupB_sound Z) Z (by decide) ?_
 refine nZ Z (eZ Z (WO_append tys Z Z (lt_of Z) Z Z Z Z Z (.own Z (by first | omega | (simp only [List.length_append]; omega))) Z (.read (readIz l)) (by decide) (by simp; omega) (by decide) Z ?_))
 refine nZ Z (eZ Z (oN (tN (W_le (Le.gather (u := 2) (id := 3) Z Z (by simp)) ?_))))
 refine rT (eR ?_)
 ·(simp only [List.take_append, List.take_length, List.nil_append, List.length_nil, Nat.zero_add, List.take_nil, Nat.sub_zero]; rfl)
theorem ownAct_fun (k c n : Int) (zs : List T) (hl : zs.length ≤ 1048576) (hz : ∀ x, x ∈ zs → (T.cells x).length = 4 ∧ ∀ y, y ∈ T.cells x → ∃ v, y = .v v) : Fun Try.prog 91 [.t (.agg [T.int k, T.int c, T.int n, .list 4 zs])] (tupD [.agg [.t (T.int k), .t (T.int c), .t (T.int n), .own (.list 4 zs)]]) := by
 refine Fun.begin tys Try.func91 Z Z (N := 9) [(0, .t (.agg [T.int k, T.int c, T.int n, .list 4 zs]))] Z Z (fun w0 G F0 => ?_)
 refine sQ (rG (WO_box Z Z (lt_of Z) Z Z (nZ Z (WO_alloc tys Z Z (lt_of Z) Z Z Z (nZ Z (oN (tN (sQ (rG ?_)))))))))
 refine WO_buildSlice tys [] Z Z (lt_of Z) Z Z Z Z Z (by decide) (by repeat (first | exact PartsOk.nil' | refine PartsOk.cons' rfl (by repeat (first | exact AbsL.nil' | refine AbsL.v' ?_ | refine AbsL.own' ?_ | refine AbsL.none' ?_)) Z ?_)) (by first | exact List.nodup_nil | exact nodup1 _ | decide | exact nodupB_sound Z) Z (by decide) ?_
 refine nZ Z (eK 2 Z (WO_append tys Z Z (lt_of Z) Z Z Z Z Z (.own Z (by first | omega | (simp only [List.length_append]; omega))) Z (.read hz) (by decide) (by simp; omega) (by decide) Z ?_))
 refine nZ Z (WO_le (Le.gather (u := 6) (id := 3) Z Z (by first | (simp; done) | (simp; omega) | omega)) ?_)
 refine nZ Z (eZ Z (sT Z (nZ Z (oN (tN (sQ (kY [1,2] Z (rG (WO_loadMove tys Z Z (lt_of Z) Z Z Z Z Z Z (nZ Z (sT Z (nZ Z (oN (tN (rT ?_)))))))))))))))
 refine eR ?_
 ·simp only [List.take_append, List.take_length, List.nil_append, List.length_nil, Nat.zero_add, List.take_nil, Nat.sub_zero]
theorem ownW_fun (w : World) (xs : List T) (hw : w.ok 1048576) (hx : All2 TActs xs (w.tasks.map Task.acts)) : Fun Try.prog 46 [.t (ttW w xs)] (tupD [ddW w xs]) := by
 have hw1 : w.room.length ≤ 1048576 := hw.1
 have hw2 : w.held.length ≤ 1048576 := hw.2.1.1
 have hw3 : w.shut.length ≤ 1048576 := hw.2.2.1
 have hw4 : w.tasks.length ≤ 1048576 := hw.2.2.2.1.1
 have hw5 : w.trace.length ≤ 1048576 := hw.2.2.2.2.1
 have hxl : xs.length = w.tasks.length := by have := hx.len; rw [List.length_map] at this; exact this
 have hzz : (xs.zip w.tasks).length = w.tasks.length := by rw [List.length_zip]; omega
 have hzl : ((xs.zip w.tasks).map ttT).length = w.tasks.length := by rw [List.length_map, List.length_zip]; omega
 refine Fun.begin tys Try.func46 Z Z (N := 67) [(0, .t (ttW w xs))] Z Z (fun w0 G F0 => ?_)
 refine sQ (rG (WO_box Z Z (lt_of Z) Z Z (nZ Z (WO_alloc tys Z Z (lt_of Z) Z Z Z (nZ Z (oN (tN (sQ (W_regionGm 12 mixed Z (by kernel_rfl) (by kernel_rfl) (QG_ev tys Z Z (lt_of Z) Z (QG_ev tys Z Z (lt_of Z) Z (callBG ?_))))))))))))
 refine ⟨_, l1OwnW_fun w.room (by omega), rfl, ?_⟩
 refine QG_buildS tys [] Z Z (lt_of Z) Z Z Z Z Z (by decide) (by repeat (first | exact PartsOk.nil' | refine PartsOk.cons' rfl (by repeat (first | exact AbsL.nil' | refine AbsL.v' ?_ | refine AbsL.own' ?_ | refine AbsL.none' ?_)) Z ?_)) Z Z Z (by decide) ?_
 refine QG_norm Z (QG_ev tys Z Z (lt_of Z) Z (QG_ev tys Z Z (lt_of Z) Z (QG_append tys Z Z (lt_of Z) Z Z Z Z Z Z Z Z (fun _ => .read (readBz _)) (by simp; omega) (by decide) Z ?_)))
 refine QG_ev tys Z Z (lt_of Z) Z (QG_ev tys Z Z (lt_of Z) Z (callBG ?_))
 refine ⟨_, l1OwnW_fun w.trace (by omega), rfl, ?_⟩
 refine QG_norm Z (QG_struct tys Z Z (lt_of Z) Z Z Z (by kernel_rfl) Z Z Z Z Z Z (QG_alloc tys Z Z (lt_of Z) Z Z Z Z (QG_nil ?_)))
 refine ⟨by kernel_rfl, ?_⟩
 refine nZ Z (sT Z (nZ Z (oN (tN (sQ (sQ (rG (nZ Z (WO_le (Le.nilBox (u := 3) (j := 1) 1 Z Z) (nZ Z (WO_le (Le.adoptBox (u := 3) (j := 1) (id := 191) Z Z Z) (nZ Z (eK 2 Z (evE ?_))))))))))))))
 refine eZ Z (oN (tN (W_block ?_)))
 refine lK (α := Int × Nat × List T) [1, 2, 3, 23, 24] [1, 2] (fun x => [(25, .t (.int (x.1)))]) (fun x => [(3, .box [.own (T.ints w.room), .sl 191 0 (x.2.1), .own (T.bools w.shut), .nil, .own (T.ints w.trace)]), (191, .L 1 (x.2.2))]) (fun x => 0 ≤ (x.1) ∧ (x.1) ≤ w.held.length ∧ (x.2.1) = (x.2.2).length ∧ (x.2.2) = (w.held.take (x.1).toNat).map T.ints) (fun x => Int.toNat (w.held.length - (x.1))) (0, 0, []) ?_ (fun x hx => ?_)
 ·exact ⟨by omega, by omega, rfl, rfl⟩
 obtain ⟨k, m, hs⟩ := x
 obtain ⟨hk0, hk1, hm, hxs⟩ := hx
 dsimp only at hk0 hk1 hm hxs ⊢
 refine nY Z (sQ (rG (eZ Z (oN (tN (sQ ?_))))))
 refine W_cond Z (fun h1 => ?_) (fun h1 => ?_)
 ·
  simp only [HS] at h1
  refine W_skip (tN (sQ (W_block (sQ (rG (WO_idxT tys Z Z (lt_of Z) Z Z Z Z Z Z Z (by omega) _ (getT _ _ (by omega) (by omega)) (eK 2 Z (oN (tN (W_regionGm 5 mixed Z (by kernel_rfl) (by kernel_rfl) (QG_ev tys Z Z (lt_of Z) Z (QG_ev tys Z Z (lt_of Z) Z (QG_norm Z (QG_ev tys Z Z (lt_of Z) Z (callBG ?_)))))))))))))))
  refine ⟨_, l1OwnW_fun (w.held[k.toNat]'(by omega)) (by have : (w.held[k.toNat]'(by omega)).length ≤ 1048576 := hw.2.1.2 _ (List.getElem_mem _); omega), rfl, ?_⟩
  refine QG_buildS tys [T.ints (w.held[k.toNat]'(by omega))] Z Z (lt_of Z) Z Z Z Z Z (lt_of Z) (by repeat (first | exact PartsOk.nil' | refine PartsOk.cons' rfl (by repeat (first | exact AbsL.nil' | refine AbsL.v' ?_ | refine AbsL.own' ?_ | refine AbsL.none' ?_)) Z ?_)) Z Z Z (by decide) ?_
  refine QG_nil ?_
  refine ⟨by kernel_rfl, ?_⟩
  refine nZ Z (WO_le (Le.adoptE (u := 33) 33 Z Z) (nZ Z (WO_append tys Z Z (lt_of Z) Z Z Z Z Z (.own Z (by first | omega | (simp only [List.length_append]; omega))) Z (.own Z (by first | decide | omega)) (by decide) (by simp only [List.length_take, List.length_cons, List.length_nil]; rw [hxs, List.length_map, List.length_take]; omega) (by decide) Z ?_)))
  refine nZ Z (eZ Z (sT Z (nZ Z (oN (bN (tN (rG (evI ?_))))))))
  refine eZ Z (oN ?_)
  refine lQ (_, _, _) ?_ ?_
  ·dsimp only
   subst hm
   refine ⟨by omega, by omega, by simp, ?_⟩
   rw [List.take_length, hxs, take_at hk0 (by omega), List.map_append]
   rfl
  ·(show Int.toNat _ < Int.toNat _); omega
 simp only [HS] at h1
 refine W_exit (tE (loopQ_e (inBlk_y (tN (sQ (sQ (rG (nZ Z (WO_le (Le.gatherBox (u := 3) (j := 1) (id := 191) Z Z Z (by omega) Z) (nZ Z (WO_le (Le.nilBox (u := 3) (j := 3) 4 Z Z) (nZ Z (WO_le (Le.adoptBox (u := 3) (j := 3) (id := 192) Z Z Z) (nZ Z (eK 2 Z ?_)))))))))))))))
 refine evE ?_
 refine eZ Z (oN (tN (W_block ?_)))
 refine lK (α := Int × Nat × List T) [2, 3, 38, 39] [2] (fun x => [(40, .t (.int (x.1)))]) (fun x => [(3, .box [.own (T.ints w.room), .own (.list 1 (hs.take m)), .own (T.bools w.shut), .sl 192 0 (x.2.1), .own (T.ints w.trace)]), (192, .L 4 (x.2.2))]) (fun x => 0 ≤ (x.1) ∧ (x.1) ≤ w.tasks.length ∧ (x.2.1) = (x.2.2).length ∧ (x.2.2) = ((xs.zip w.tasks).map ttT).take (x.1).toNat) (fun x => Int.toNat (w.tasks.length - (x.1))) (0, 0, []) ?_ (fun x hx => ?_)
 ·exact ⟨by omega, by omega, rfl, rfl⟩
 obtain ⟨i, m2, ys⟩ := x
 obtain ⟨hi0, hi1, hm2, hys⟩ := hx
 dsimp only at hi0 hi1 hm2 hys ⊢
 refine nY Z (sQ (rG (eZ Z (oN (tN (sQ ?_))))))
 refine W_cond Z (fun h2 => ?_) (fun h2 => ?_)
 ·
  simp only [HS] at h2
  refine W_skip (tN (sQ (W_block (sQ ?_))))
  have hi2 : i < w.tasks.length := by rw [List.length_map, List.length_zip] at hzl; omega
  obtain ⟨t, ht⟩ : ∃ t, t = w.tasks[i.toNat]'(by omega) := ⟨_, rfl⟩
  have htm : t ∈ w.tasks := by rw [ht]; exact List.getElem_mem _
  have hto := hw.2.2.2.1.2 t htm
  have hta : t.acts.length ≤ 1048576 := hto.1.1
  have hxa := hx.at (i := i.toNat) (by omega) (by rw [List.length_map]; omega)
  rw [List.getElem_map, ← ht] at hxa
  obtain ⟨zs, hzs, hA⟩ := hxa
  have hzsl := hA.len
  have hget : (List.map ttT (xs.zip w.tasks))[i.toNat]? = some (.agg [.list 4 zs, T.int t.pos, T.int t.state, T.int t.last]) := by rw [List.getElem?_map, zip_some (by omega) (by omega), hzs, ← ht]; rfl
  refine rG (WO_idxT tys Z Z (lt_of Z) Z Z Z Z Z Z Z (by omega) _ hget (eZ Z ?_))
  try refine WO_le (Le.freeze (u := 43) rfl) ?_
  refine nZ Z (WO_alloc tys Z Z (lt_of Z) Z Z Z (nZ Z (sT Z (nZ Z (oN (tN (sQ (rG (eZ Z (WO_le (Le.nilOwn (u := 8) 4 Z) (nZ Z (WO_le (Le.adoptE (u := 8) 193 Z Z) (nZ Z (oN (tN ?_)))))))))))))))
  refine sQ (sQ (rG (eK 2 Z (evE ?_))))
  refine kZ [2,3,7,8,38,39,40,41,42,43,44,45,46] Z (eZ Z (oN (tN (W_block ?_))))
  refine lK (α := Int × Nat × List T) [2, 3, 7, 38, 39, 40, 45, 46] [2, 3, 7, 192] (fun x => [(47, .t (.int (x.1))), (8, .sl 193 0 (x.2.1))]) (fun x => [(193, .L 4 (x.2.2))]) (fun x => 0 ≤ (x.1) ∧ (x.1) ≤ zs.length ∧ (x.2.1) = (x.2.2).length ∧ (x.2.2) = zs.take (x.1).toNat) (fun x => Int.toNat (zs.length - (x.1))) (0, 0, []) ?_ (fun x hx => ?_)
  ·exact ⟨by omega, by omega, rfl, rfl⟩
  obtain ⟨k, m3, ms⟩ := x
  obtain ⟨hk0', hk1', hm3, hms⟩ := hx
  dsimp only at hk0' hk1' hm3 hms ⊢
  refine nY Z (sQ (rG (eZ Z (oN (tN (sQ ?_))))))
  refine W_cond Z (fun h3 => ?_) (fun h3 => ?_)
  ·
   simp only [HS] at h3
   refine W_skip (tN (sQ (W_block (sQ (rG ?_)))))
   have hkz : k.toNat < zs.length := by omega
   obtain ⟨cs, hcs, hcA⟩ := hA.at hkz (by omega)
   obtain ⟨a, ha⟩ : ∃ a, a = t.acts[k.toNat]'(by omega) := ⟨_, rfl⟩
   rw [← ha] at hcs hcA
   have hcl : cs.length ≤ 1048576 := by rw [hcA.len]; exact (hto.1.2 a (by rw [ha]; exact List.getElem_mem _)).cases'.1
   have hgetk : zs[k.toNat]? = some (.agg [T.int a.kind, T.int a.chan, T.int a.n, .list 4 cs]) := by rw [List.getElem?_eq_getElem hkz, hcs]
   refine WO_idxT tys Z Z (lt_of Z) Z Z Z Z Z Z Z (by omega) _ hgetk (eZ Z ?_)
   try refine WO_le (Le.freeze (u := 50) rfl) ?_
   refine nZ Z (WO_alloc tys Z Z (lt_of Z) Z Z Z (nZ Z (sT Z (nZ Z (oN (tN (rG (eK 2 Z ?_))))))))
   try refine WO_le (Le.freeze (u := 52) rfl) ?_
   refine nZ Z (callB ?_)
   refine ⟨_, ownAct_fun _ _ _ cs hcl (case_read hcA), rfl, ?_⟩
   refine WO_buildSlice tys [.agg [T.int a.kind, T.int a.chan, T.int a.n, .list 4 cs]] Z Z (lt_of Z) Z Z Z Z Z (lt_of Z) (by repeat (first | exact PartsOk.nil' | refine PartsOk.cons' rfl (by repeat (first | exact AbsL.nil' | refine AbsL.v' ?_ | refine AbsL.own' ?_ | refine AbsL.none' ?_)) Z ?_)) (by first | exact List.nodup_nil | exact nodup1 _ | decide | exact nodupB_sound Z) Z (by decide) ?_
   refine nZ Z (kZ [2,3,7,8,10,38,39,40,45,46,47,48,49,50,51,52,53,54] Z (WO_append tys Z Z (lt_of Z) Z Z Z Z Z (.own Z (by first | omega | (simp only [List.length_append]; omega))) Z (.own Z (by first | decide | omega)) (by decide) (by simp only [List.length_take, List.length_cons, List.length_nil]; rw [hms, List.length_take]; omega) (by decide) Z ?_))
   refine nZ Z (eZ Z (oN (bN (tN (rG (evI ?_))))))
   refine eZ Z (oN ?_)
   refine lQ (_, _, _) ?_ ?_
   ·dsimp only
    subst hm3
    refine ⟨by omega, by omega, by simp, ?_⟩
    rw [List.take_length, hms, take_at hk0' (by omega), hcs]
    rfl
   ·(show Int.toNat _ < Int.toNat _); omega
  simp only [HS] at h3
  refine W_exit (tE (loopQ_e (inBlk_y (tN (sQ (rG (eZ Z (WO_le (Le.gather (u := 57) (id := 193) Z Z (by first | (simp; done) | (simp; omega) | omega)) ?_))))))))
  refine nZ Z (eZ Z (sT Z (nZ Z (oN (tN (rG (eK 2 Z (WO_loadMove tys Z Z (lt_of Z) Z Z Z Z Z Z (nZ Z ?_)))))))))
  refine WO_buildSlice tys [.agg [.list 4 (ms.take m3), T.int t.pos, T.int t.state, T.int t.last]] Z Z (lt_of Z) Z Z Z Z Z (lt_of Z) (by repeat (first | exact PartsOk.nil' | refine PartsOk.cons' rfl (by repeat (first | exact AbsL.nil' | refine AbsL.v' ?_ | refine AbsL.own' ?_ | refine AbsL.none' ?_)) Z ?_)) (by first | exact List.nodup_nil | exact nodup1 _ | decide | exact nodupB_sound Z) Z (by decide) ?_
  refine nZ Z (WO_append tys Z Z (lt_of Z) Z Z Z Z Z (.own Z (by first | omega | (simp only [List.length_append]; omega))) Z (.own Z (by first | decide | omega)) (by decide) (by simp only [List.length_take, List.length_cons, List.length_nil]; rw [hys, List.length_take]; omega) (by decide) Z ?_)
  refine nZ Z (kZ [2,3,7,8,38,39,40,45,46,47,48,57,58,59,60,61,62,63] Z (eZ Z (sT Z (nZ Z (oN (bN (tN (rG (evI ?_)))))))))
  refine eZ Z (oN ?_)
  refine lQ (_, _, _) ?_ ?_
  ·dsimp only
   subst hm2
   refine ⟨by omega, by omega, by simp, ?_⟩
   have hmz : ms.take m3 = zs := by rw [hm3, List.take_length, hms, take_end (by omega)]
   rw [List.take_length, hys, take_at hi0 (by rw [hzl]; omega), (List.getElem?_eq_some_iff.1 hget).2, hmz]
   rfl
  ·(show Int.toNat _ < Int.toNat _); omega
 simp only [HS] at h2
 refine W_exit (tE (loopQ_e (inBlk_y (tN (sQ (rG (nZ Z (WO_le (Le.gatherBox (u := 3) (j := 3) (id := 192) Z Z Z (by omega) Z) (nZ Z (WO_loadMove tys Z Z (lt_of Z) Z Z Z Z Z Z (nZ Z (sT Z (nZ Z (oN (tN ?_)))))))))))))))
 refine rT (eR ?_)
 ·rw [hm2, List.take_length, hys, hm, List.take_length, hxs, take_end (l := w.held) (by omega), take_end (l := List.map ttT (xs.zip w.tasks)) (by omega)]
  all_goals rfl
open Go.Eng
abbrev TX := (Option Addr × Nat) × (T × Task)
def xcW (c : TX) : List Value := [.slice c.1.1 c.2.2.acts.length c.1.2, .int .i64 c.2.2.pos, .int .i64 c.2.2.state, .int .i64 c.2.2.last]
def xcT (c : TX) : List T := [c.2.1, T.int c.2.2.pos, T.int c.2.2.state, T.int c.2.2.last]
def xcsW (C : List TX) : List Value := C.flatMap xcW
def xcsT (C : List TX) : List T := C.flatMap xcT
section
variable {α β : Type} {f : β → List α} {C : List ((Option Addr × Nat) × (T × Task))} {c c' : (Option Addr × Nat) × (T × Task)} {d d' : β} {i j : Nat} {y : α}
theorem ccs_at (hf : ∀ c, (f c).length = 4) : ∀ {C : List β} {i : Nat}, C[i]? = some d → j < 4 → (C.flatMap f)[i * 4 + j]? = (f d)[j]?
 | [], _, h, _ => by simp at h
 | e :: C, 0, h, hj => by
  simp at h; subst h
  rw [List.flatMap_cons, Nat.zero_mul, Nat.zero_add, List.getElem?_append_left (by rw [hf]; exact hj)]
 | e :: C, i + 1, h, hj => by
  rw [List.flatMap_cons, List.getElem?_append_right (by rw [hf]; omega), hf, show (i + 1) * 4 + j - 4 = i * 4 + j from by omega]
  exact ccs_at hf (by simpa using h) hj
theorem ccs_set (hf : ∀ c, (f c).length = 4) (hy : f d' = (f d).set j y) : ∀ {C : List β} {i : Nat}, C[i]? = some d → j < 4 → (C.flatMap f).set (i * 4 + j) y = (C.set i d').flatMap f
 | [], _, h, _ => by simp at h
 | e :: C, 0, h, hj => by
  simp at h; subst h
  rw [List.flatMap_cons, Nat.zero_mul, Nat.zero_add, List.set_append_left _ _ (by rw [hf]; exact hj), List.set_cons_zero, List.flatMap_cons, hy]
 | e :: C, i + 1, h, hj => by
  rw [List.flatMap_cons, List.set_append_right _ _ (by rw [hf]; omega), hf, show (i + 1) * 4 + j - 4 = i * 4 + j from by omega, ccs_set hf hy (by simpa using h) hj, List.set_cons_succ, List.flatMap_cons]
theorem ccs_cut (hf : ∀ c, (f c).length = 4) : ∀ {C : List β} {i : Nat}, C[i]? = some d → ((C.flatMap f).drop (i * 4)).take 4 = f d
 | [], _, h => by simp at h
 | e :: C, 0, h => by
  simp at h; subst h
  rw [List.flatMap_cons, Nat.zero_mul, List.drop_zero, List.take_append_of_le_length (by rw [hf]; exact Nat.le_refl _), List.take_of_length_le (by rw [hf]; exact Nat.le_refl _)]
 | e :: C, i + 1, h => by
  rw [List.flatMap_cons, show (i + 1) * 4 = (f e).length + i * 4 from by rw [hf]; omega, List.drop_append]
  rw [List.drop_eq_nil_of_le (by omega), List.nil_append, show (f e).length + i * 4 - (f e).length = i * 4 from by omega]
  exact ccs_cut hf (by simpa using h)
theorem xcW_at (hc : C[i]? = some c) (hj : j < 4) : (xcsW C)[i * 4 + j]? = (xcW c)[j]? := ccs_at (fun _ => rfl) hc hj
theorem xcT_at (hc : C[i]? = some c) (hj : j < 4) : (xcsT C)[i * 4 + j]? = (xcT c)[j]? := ccs_at (fun _ => rfl) hc hj
theorem xcs_to {b sz : Nat} {k : Nat} {u : Value} (hc : C[i]? = some c) (hj : k < 4) (h1 : xcW c' = (xcW c).set k u) (h2 : xcT c' = (xcT c).set k (T.v u)) :
  Blk.raw b sz ((xcsW C).set (i * 4 + k) u) ((xcsT C).set (i * 4 + k) (T.v u)) = .raw b sz (xcsW (C.set i c')) (xcsT (C.set i c')) := by
 unfold xcsW xcsT
 rw [ccs_set (fun _ => rfl) h1 hc hj, ccs_set (fun _ => rfl) h2 hc hj]
theorem xc_mid (hc : C[i]? = some c) : (C.set i c')[i]? = some c' := by
 rw [List.getElem?_set_self (List.getElem?_eq_some_iff.1 hc).1]
end
theorem xcsT_zip : ∀ {hdr : List (Option Addr × Nat)} {l : List (T × Task)}, hdr.length = l.length → (l.map ttT).flatMap T.cells = xcsT (hdr.zip l)
 | [], [], _ => rfl
 | [], _ :: _, h => by simp at h
 | _ :: _, [], h => by simp at h
 | a :: hdr, t :: l, h => by
  rw [List.map_cons, List.flatMap_cons, xcsT_zip (hdr := hdr) (by simpa using h)]
  rfl
theorem ttT_cells {l : List (T × Task)} : ∀ x, x ∈ l.map ttT → (T.cells x).length = 4 := by
 intro x hx
 obtain ⟨t, _, rfl⟩ := List.mem_map.1 hx
 rfl
theorem own_xcs {w : Go.World} : ∀ {l : List (T × Task)} {ws : List Value} {bs : List Nat}, (∀ p, p ∈ l → TActs p.1 p.2.acts) → OwnL w ws ((l.map ttT).flatMap T.cells) bs → ∃ hdr : List (Option Addr × Nat), hdr.length = l.length ∧ ws = xcsW (hdr.zip l)
 | [], ws, bs, _, h => by
  cases ws with
  | nil => exact ⟨[], rfl, rfl⟩
  | cons _ _ => cases h
 | (x, t) :: l, ws, bs, hp, h => by
  obtain ⟨ys, hx, hA⟩ := hp (x, t) (by simp)
  dsimp only at hx hA
  subst hx
  rw [List.map_cons, List.flatMap_cons] at h
  change OwnL w ws (T.list 4 ys :: T.int t.pos :: T.int t.state :: T.int t.last :: (l.map ttT).flatMap T.cells) bs at h
  match ws, h with
  | v0 :: ws, h =>
   obtain ⟨b1, b2, h1, h2, _⟩ := h.cons
   match ws, h2 with
   | v1 :: ws, h2 =>
    obtain ⟨b3, b4, h3, h4, _⟩ := h2.cons
    match ws, h4 with
    | v2 :: ws, h4 =>
     obtain ⟨b5, b6, h5, h6, _⟩ := h4.cons
     match ws, h6 with
     | v3 :: ws, h6 =>
      obtain ⟨b7, b8, h7, h8, _⟩ := h6.cons
      obtain ⟨hdr, g1, g2⟩ := own_xcs (fun p h => hp p (by simp [h])) h8
      have e0 : ∃ ad cap, v0 = .slice ad t.acts.length cap := by
       rw [← hA.len]
       cases h1 with
       | none _ => exact ⟨_, _, rfl⟩
       | list _ _ _ _ _ _ _ _ => exact ⟨_, _, rfl⟩
      obtain ⟨ad, cap, rfl⟩ := e0
      have e1 : v1 = .int .i64 t.pos := by cases h3; rfl
      have e2 : v2 = .int .i64 t.state := by cases h5; rfl
      have e3 : v3 = .int .i64 t.last := by cases h7; rfl
      subst e1 e2 e3 g2
      exact ⟨(ad, cap) :: hdr, by simp [g1], rfl⟩
theorem goX_fun (b sz i : Nat) (C : List TX) (h : Option Addr × Nat) (x : T) (t : Task) (hc : C[i]? = some (h, x, t)) (hp : 0 ≤ t.pos ∧ t.pos ≤ 1048576) (hl : t.acts.length ≤ 1048576) : Proc Try.prog 83 [.t (.v (.pointer (some ⟨b, i * 4, none⟩)))] ([]) ([]) [.raw b sz (xcsW C) (xcsT C)] (.tup []) [.raw b sz (xcsW (C.set i (h, x, advT t))) (xcsT (C.set i (h, x, advT t)))] := by
 refine Proc.intro tys Try.func83 Z Z (N := 22) [100] 99 ([(0, .t (.v (.pointer (some ⟨b, i * 4, none⟩))))]) ([(100, .raw b sz (xcsW C) (xcsT C)), (99, .ro [] [])]) Z Z Z Z (by decide) (by decide) Z (fun w0 G F0 => ?_)
 refine nY Z (sQ (rG (eZ Z (WO_nil' rfl Z (lt_of Z) Z Z Z (WO_fieldV tys Z Z (lt_of Z) Z Z Z Z Z (WO_loadU (id := 100) (u := .int .i64 t.pos) tys Z Z (lt_of Z) Z Z Z Z Z (xcT_at hc (by decide)) (xcW_at hc (by decide)) (evI ?_)))))))
 refine WO_nil' rfl Z (lt_of Z) Z Z Z (WO_fieldV tys Z Z (lt_of Z) Z Z Z Z Z (WO_storeV (id := 100) (u0 := .int .i64 t.pos) (u := .int .i64 (t.pos + 1)) tys Z Z Z Z Z Z Z (xcT_at hc (by decide)) Z Z Z (nZ Z (WO_le (Le.eqK (id := 100) Z (xcs_to (c' := (h, x, { t with pos := t.pos + 1 })) hc (by decide) Z Z)) ?_))))
 have hc1 : (C.set i (h, x, { t with pos := t.pos + 1 }))[i]? = some (h, x, { t with pos := t.pos + 1 }) := xc_mid hc
 refine nZ Z (oN (tN (sQ (kY [0] Z (W_regionD mixed (by kernel_rfl) (evQ ?_))))))
 refine QL_nil' rfl Z (lt_of Z) Z Z Z (QL_fieldV tys Z Z (lt_of Z) Z Z Z Z Z (QL_loadU (id := 100) (u := .int .i64 (t.pos + 1)) tys Z Z (lt_of Z) Z Z Z Z Z (xcT_at hc1 (by decide)) (xcW_at hc1 (by decide)) (evQ ?_)))
 refine QL_nil' rfl Z (lt_of Z) Z Z Z (QL_norm Z (QL_fieldV tys Z Z (lt_of Z) Z Z Z Z Z (QL_loadU (id := 100) (u := .slice h.1 t.acts.length h.2) tys Z Z (lt_of Z) Z Z Z Z Z (xcT_at hc1 (by decide)) (xcW_at hc1 (by decide)) (QL_lenV Z Z (lt_of Z) Z ⟨86, by kernel_rfl⟩ rfl (evQ ?_)))))
 refine QL_nil (tN ?_)
 refine W_cond Z (fun h1 => ?_) (fun h1 => ?_)
 ·
  simp only [HS] at h1
  refine rG (eZ Z (WO_nil' rfl Z (lt_of Z) Z Z Z (WO_fieldV tys Z Z (lt_of Z) Z Z Z Z Z (WO_storeV (id := 100) (u0 := .int .i64 t.state) (u := .int .i64 1) tys Z Z Z Z Z Z Z (xcT_at hc1 (by decide)) Z Z Z (nZ Z (WO_le (Le.eqK (id := 100) Z (xcs_to (c' := (h, x, { t with pos := t.pos + 1, state := 1 })) hc1 (by decide) Z Z)) (nZ Z (oN ?_))))))))
  refine EndsP_of (ks := [_]) (.inl Z) (ret_okF Z) (by decide) Z (noR_spec Z) (by repeat (first | exact trivial | refine ⟨rfl, rfl, ?_⟩)) ?_ ?_
  ·rfl
  ·rw [List.set_set, advT, if_pos h1]
   done
 simp only [HS] at h1
 refine W_skip ?_
 refine EndsP_of (ks := [_]) (.inl Z) (ret_okF Z) (by decide) Z (noR_spec Z) (by repeat (first | exact trivial | refine ⟨rfl, rfl, ?_⟩)) ?_ ?_
 ·rfl
 ·rw [advT, if_neg h1]
  done
/-! What is told reads as what it is. -/
theorem relCase {w : Go.World} {F : Nat → Prop} : ∀ {zs : List T} {l : List Act}, All2 TCase zs l → ∀ {vs}, RelL w F vs (zs.flatMap T.cells) → RelL w F vs ((l.map Act.toT).flatMap T.cells)
 | _, _, .nil, vs, h => h
 | _, _, .cons (a := z) (b := b) (l := zs) (m := l) h1 h2, vs, h => by
  obtain ⟨hb, a, c, rfl⟩ := h1
  rw [List.flatMap_cons] at h
  rw [List.map_cons, List.flatMap_cons, Act.toT_eq]
  change RelL w F vs (T.int b.kind :: T.int b.chan :: T.int b.n :: .v (.slice a 0 c) :: zs.flatMap T.cells) at h
  show RelL w F vs (T.int b.kind :: T.int b.chan :: T.int b.n :: .list 4 (b.cases.map Act.toT) :: (l.map Act.toT).flatMap T.cells)
  rw [hb]
  cases h with
  | v q1 h =>
   cases h with
   | v q2 h =>
    cases h with
    | v q3 h =>
     cases h with
     | v q4 h => exact .v q1 (.v q2 (.v q3 (.none (relCase h2 h))))
theorem relAct {w : Go.World} {F : Nat → Prop} : ∀ {zs : List T} {l : List Act}, All2 TAct zs l → ∀ {vs}, RelL w F vs (zs.flatMap T.cells) → RelL w F vs ((l.map Act.toT).flatMap T.cells)
 | _, _, .nil, vs, h => h
 | _, _, .cons (a := z) (b := b) (l := zs) (m := l) h1 h2, vs, h => by
  obtain ⟨cs, rfl, hcs⟩ := h1
  rw [List.flatMap_cons] at h
  rw [List.map_cons, List.flatMap_cons, Act.toT_eq]
  change RelL w F vs (T.int b.kind :: T.int b.chan :: T.int b.n :: .list 4 cs :: zs.flatMap T.cells) at h
  show RelL w F vs (T.int b.kind :: T.int b.chan :: T.int b.n :: .list 4 (b.cases.map Act.toT) :: (l.map Act.toT).flatMap T.cells)
  cases h with
  | v q1 h =>
   cases h with
   | v q2 h =>
    cases h with
    | v q3 h =>
     refine .v q1 (.v q2 (.v q3 ?_))
     have hl := hcs.len
     cases h with
     | none h =>
      have : b.cases = [] := List.eq_nil_of_length_eq_zero (by simpa using hl.symm)
      rw [this]; exact .none (relAct h2 h)
     | list p1 p2 p3 p4 p5 p6 h =>
      have e : cs.length = (b.cases.map Act.toT).length := by rw [List.length_map]; exact hl
      rw [e] at p5 ⊢
      exact .list p1 p2 p3 (cellsA b.cases) p5 (relCase hcs p6) (relAct h2 h)
theorem relActs {w : Go.World} {F : Nat → Prop} {x : T} {l : List Act} (hx : TActs x l) {v vs : _} {ts : List T} (h : RelL w F (v :: vs) (x :: ts)) : RelL w F (v :: vs) (T.Acts l :: ts) := by
 obtain ⟨ys, rfl, hA⟩ := hx
 have hl := hA.len
 cases h with
 | none h =>
  have : l = [] := List.eq_nil_of_length_eq_zero (by simpa using hl.symm)
  subst this; exact .none h
 | list p1 p2 p3 p4 p5 p6 h =>
  have e : ys.length = (l.map Act.toT).length := by rw [List.length_map]; exact hl
  rw [e] at p5 ⊢
  exact .list p1 p2 p3 (cellsA l) p5 (relAct hA p6) h
theorem relTask {w : Go.World} {F : Nat → Prop} {x : T} {t : Task} (hx : TActs x t.acts) {vs : List Value} (h : RelL w F vs [x, T.int t.pos, T.int t.state, T.int t.last]) : RelL w F vs (T.cells t.tt) := by
 cases vs with
 | nil => cases h
 | cons v vs => exact relActs hx h
end Go.Proofs.Ytpgodgmgfhbngaa
