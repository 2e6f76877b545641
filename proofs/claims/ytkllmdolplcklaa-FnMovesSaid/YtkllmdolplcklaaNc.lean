/- Walks and laws of the claim. -/
import Derived.Test.YtkllmdolplcklaaFm
import Derived.Test.YtkllmdolplcklaaMe
set_option linter.unusedVariables false
set_option linter.unusedSimpArgs false
set_option maxRecDepth 10000
set_option maxHeartbeats 4000000
namespace Go.Proofs.Ytkllmdolplcklaa
open Go.Eng
open Go.Eng
def wC (w : World) (ts : Value) : List D := [.own (T.ints w.room), .own (Af w.held), .own (T.bools w.shut), .t (.v ts), .own (T.ints w.trace)]
def doI (w : World) (mv : List Int) : Bool := !(decide ((Ax w mv).kind = 3) && decide (w.trace.length = 120))
def doR (w : World) (mv : List Int) : World := if doI w mv then doW w mv else w
theorem Ej : ∀ {hdr : List (Option Addr × Nat)} {l : List Task}, hdr.length = l.length → (l.map Task.tt).flatMap T.cells = tcsT (hdr.zip l)
 | [], [], _ => rfl
 | [], _ :: _, h => by simp at h
 | _ :: _, [], h => by simp at h
 | a :: hdr, t :: l, h => by
  rw [OA, Nt, Ej (hdr := hdr) (by simpa using h)];rfl
theorem tasks_cells {l : List Task} : ∀ x, x ∈ l.map Task.tt → (T.cells x).length = 4 := by
 intro x hx
 obtain ⟨t, _, rfl⟩ := OM.1 hx
 rfl
theorem ViewL.sl' {c : Ctx} {s : St} {id n : Nat} {xs : List T} (hM : lookM s.M id = some (.L n xs)) : ViewL c s [.sl id 0 xs.length] [.t (.list n xs)] := by
 have h : ResL s [.sl id 0 xs.length] [.t (.list n ((xs.drop 0).take xs.length))] := .sl hM (by omega) .done
 rw [List.drop_zero, N8] at h;intro a w F β fb mb ow hi;exact ViewL.of h hi
theorem CO {α β : Type} {h : α} {t t' : β} : ∀ {hdr : List α} {l : List β} {i : Nat}, (hdr.zip l)[i]? = some (h, t) → (hdr.zip l).set i (h, t') = hdr.zip (l.set i t')
 | [], _, _, e => by simp at e
 | _ :: _, [], _, e => by simp at e
 | a :: hdr, b :: l, 0, e => by
  simp at e
  obtain ⟨rfl, rfl⟩ := e
  rfl
 | a :: hdr, b :: l, i + 1, e => by
  have := CO (t' := t') (hdr := hdr) (l := l) (i := i) (by simpa using e)
  simp [this]
theorem Cv {α β : Type} {hdr : List α} {l : List β} {i : Nat} (h1 : i < hdr.length) (h2 : i < l.length) : (hdr.zip l)[i]? = some (hdr[i], l[i]) := by
 rw [List.getElem?_zip_eq_some]; exact ⟨List.getElem?_eq_getElem h1, List.getElem?_eq_getElem h2⟩
theorem FT {hdr : List (Option Addr × Nat)} {W1 : World} {I : Int} {i : Nat} {h : Option Addr × Nat} {t1 : Task} (hie : i = I.toNat) (hc : (hdr.zip W1.tasks)[i]? = some (h, t1)) (ht : tk W1 I = t1) : (hdr.zip W1.tasks).set i (h, advT t1) = hdr.zip (advW W1 I).tasks := by
 rw [CO hc, hie, ← ht]; rfl
theorem M2 {hdr : List (Option Addr × Nat)} {W1 : World} {I : Int} {i : Nat} {h : Option Addr × Nat} {t1 t2 : Task} (hie : i = I.toNat) (hc : (hdr.zip W1.tasks)[i]? = some (h, t1)) : (hdr.zip W1.tasks).set i (h, t2) = hdr.zip (setT W1 I t2).tasks := by
 rw [CO hc, hie]; rfl
theorem KX {hdr : List (Option Addr × Nat)} {w : World} {I : Int} {i : Nat} {h : Option Addr × Nat} {t t2 : Task} (hie : i = I.toNat) (h0 : 0 ≤ I) (h1 : I < w.tasks.length) (hc : (hdr.zip w.tasks)[i]? = some (h, t)) : ((hdr.zip w.tasks).set i (h, t2)).set i (h, advT t2) = hdr.zip (advW (setT w I t2) I).tasks := by
 rw [Nr, CO hc]
 have e1 : tk (setT w I t2) I = t2 := (B5 h0 h1 h0).trans (if_pos rfl)
 show _ = hdr.zip ((w.tasks.set I.toNat _).set I.toNat (advT (tk _ _)));rw [e1, Nr, hie]
theorem KW {hdr : List (Option Addr × Nat)} {w : World} {I J n : Int} {i j : Nat} {h hj : Option Addr × Nat} {t u : Task} (hie : i = I.toNat) (hje : j = J.toNat) (h0 : 0 ≤ I) (h1 : I < w.tasks.length) (j0 : 0 ≤ J) (j1 : J < w.tasks.length) (hIJ : ¬ I = J) (hcj : (hdr.zip w.tasks)[j]? = some (hj, u)) (hc : (hdr.zip w.tasks)[i]? = some (h, t)) (htI : tk w I = t) :
  (((hdr.zip w.tasks).set j (hj, { u with last := n })).set j (hj, advT { u with last := n })).set i (h, advT t) = hdr.zip (advW (advW (setT w J { u with last := n }) J) I).tasks := by
 have hij : ¬ j = i := by omega
 have l1 : ∀ (w : World) (i : Int) (t : Task), (setT w i t).tasks.length = w.tasks.length := fun w i t => Ns
 have e1 : tk (setT w J { u with last := n }) J = { u with last := n } := (B5 j0 j1 j0).trans (if_pos rfl)
 have e2 : tk (advW (setT w J { u with last := n }) J) I = t := by
  rw [advW, B5 j0 (by rw [l1]; exact j1) h0, if_neg hIJ, B5 j0 j1 h0, if_neg hIJ]; exact htI
 have hc' : (hdr.zip (w.tasks.set j (advT { u with last := n })))[i]? = some (h, t) := by
  rw [← CO hcj, List.getElem?_set_ne hij]; exact hc
 rw [Nr, CO hcj, CO hc'];show _ = hdr.zip ((((w.tasks.set J.toNat _).set J.toNat (advT (tk (setT w J { u with last := n }) J)))).set I.toNat (advT (tk (advW (setT w J { u with last := n }) J) I)));rw [e1, e2, Nr, hie, hje]
theorem D4 {α : Type} {l : List α} {i : Nat} {x : α} (h : l[i]? = some x) : l.set i x = l := by
 obtain ⟨h1, rfl⟩ := List.getElem?_eq_some_iff.1 h
 exact List.set_getElem_self h1
theorem blk2 {p : Value} {A A' : List D} {b sz : Nat} {C C' : List TC} (h1 : A = A') (h2 : C = C') : [Blk.obox p A, Blk.raw b sz (tcsW C) (tcsT C)] = [Blk.obox p A', Blk.raw b sz (tcsW C') (tcsT C')] := by rw [h1, h2]
section
variable {w : World} {mv : List Int}
theorem NM (h : ¬ ((Ax w mv).kind = 3 ∧ w.trace.length = 120)) : doI w mv = true := by
 unfold doI; by_cases a : (Ax w mv).kind = 3 <;> by_cases b : w.trace.length = 120 <;> simp [a, b] <;> exact h ⟨a, b⟩
theorem doR_t (h : ¬ ((Ax w mv).kind = 3 ∧ w.trace.length = 120)) : doR w mv = doW w mv := by rw [doR, NM h, if_pos rfl]
end
theorem D8 {s : St} {id off len : Nat} {hl l : List Int} (hM : lookM s.M id = some (.L 1 (hl.map T.int))) (h : off + len = hl.length) (hd : hl.drop off = l) : ResL s [.sl id off len] [.t (T.ints l)] := by
 subst hd
 have h1 : ResL s [.sl id off len] [.t (.list 1 (((hl.map T.int).drop off).take len))] := .sl hM (by rw [Nj]; omega) .done
 rw [Ni (by rw [OS, Nj]; omega), ← List.map_drop] at h1;exact h1
theorem Gn {α β : Type} {f : α → List β} {x y : α} (h : f x = f y) : ∀ (l : List α) (i : Nat), (l.set i x).flatMap f = (l.set i y).flatMap f
 | [], _ => rfl
 | a :: l, 0 => by rw [List.set_cons_zero, List.set_cons_zero, Nt, Nt, h]
 | a :: l, i + 1 => by rw [List.set_cons_succ, List.set_cons_succ, Nt, Nt, Gn h l i]
theorem held_same {l : List (List Int)} {c : Nat} {z1 z2 : T} {v : List Int} (h : T.cells z2 = [T.ints v]) : ((l.set c v).map T.ints).flatMap T.cells = (((l.map T.ints).set c z1).set (0 + c) z2).flatMap T.cells := by
 rw [N5, Nr, Nv]; exact Gn h.symm _ _
theorem held_cells {l : List (List Int)} : ∀ y, y ∈ l.map T.ints → (T.cells y).length = 1 := by
 intro y hy
 obtain ⟨x, _, rfl⟩ := OM.1 hy
 rfl
theorem NN (bw bt cap : Nat) (w : World) (hdr : List (Option Addr × Nat)) (mv : List Int) (hg : AC w = true) (hm : Ll w mv) (hh : hdr.length = w.tasks.length) (hcap : w.tasks.length ≤ cap) : Proc Try.prog 32 [.t (.v (.pointer (some ⟨bw, 0, none⟩))), .t (T.ints mv)] ([]) ([]) [.obox (.pointer (some ⟨bw, 0, none⟩)) (wC w (.slice (some ⟨bt, 0, none⟩) w.tasks.length cap)), .raw bt (cap * 4) (tcsW (hdr.zip w.tasks)) (tcsT (hdr.zip w.tasks))] (.t (.bool (doI w mv))) [.obox (.pointer (some ⟨bw, 0, none⟩)) (wC (doR w mv) (.slice (some ⟨bt, 0, none⟩) w.tasks.length cap)), .raw bt (cap * 4) (tcsW (hdr.zip (doR w mv).tasks)) (tcsT (hdr.zip (doR w mv).tasks))] := by
  have hgo := good_of hg
  have hgw := gw_iff.1 hg
  have hi0 := hm.i0
  have hi1 := hm.i1
  have hml := hm.len
  have hmi : mv[(0 : Int).toNat]'(by rw [hml]; decide) = at0 0 mv 0 := (AL (l := mv) (by omega) (by omega)).symm
  have hmk : mv[(1 : Int).toNat]'(by rw [hml]; decide) = at0 0 mv 1 := (AL (l := mv) (by omega) (by omega)).symm
  have hmj : mv[(2 : Int).toNat]'(by rw [hml]; decide) = at0 0 mv 2 := (AL (l := mv) (by omega) (by omega)).symm
  have hpp := hgo.pos _ (Nl (l := w.tasks) (n := (at0 0 mv 0).toNat) (by omega))
  have hk0 := hm.k0
  have hk1 : at0 0 mv 1 < (ways (w.tasks[(at0 0 mv 0).toNat]'(by omega))).length := by
   have := hm.k1
   rw [tk, AL hi0 hi1] at this;exact this
  obtain ⟨A, hA⟩ : ∃ A, A = (ways (w.tasks[(at0 0 mv 0).toNat]'(by omega)))[(at0 0 mv 1).toNat]'(by omega) := ⟨_, rfl⟩
  have hAo : Ax w mv = A := by rw [Ax, tk, AL hi0 hi1, AL hk0 hk1, hA]
  refine Proc.intro tys Try.func32 Z Z (N := 159) [100, 101] 99 ([(0, .t (.v (.pointer (some ⟨bw, 0, none⟩)))), (1, .t (T.ints mv))]) ([(100, .obox (.pointer (some ⟨bw, 0, none⟩)) (wC w (.slice (some ⟨bt, 0, none⟩) w.tasks.length cap))), (101, .raw bt (cap * 4) (tcsW (hdr.zip w.tasks)) (tcsT (hdr.zip w.tasks))), (99, .ro [] [])]) Z Z Z Z (by decide) (by decide) Z (fun w0 G F0 => ?_);refine nY Z (W_le (Le.openNew (u := 100) 1100 Z Z Z Z Z) (nY Z (W_le (Le.named (t := 0) (u := 100) 1100 Z Z) (nY Z (W_le (Le.adoptBox (u := 100) (j := 1) (id := 104) Z Z Z) (nY Z (W_le (Le.adoptBox (u := 100) (j := 2) (id := 105) Z Z Z) (nY Z (W_le (Le.adoptBox (u := 100) (j := 4) (id := 106) Z Z Z) (nY Z (sG (eZ Z (nB (sQ (AV Ac (by kernel_rfl) ?_)))))))))))))));refine evQ ?_;refine BQ rfl Z (AA Z) Z Z Z (evQ ?_);refine evQ ?_;refine evQ ?_;refine AH Z (AP tys Z Z (AA Z) Z Z Z Z Z Z Z (by omega) _ (CM _ _ (by omega) (by omega)) (evQ ?_));refine FZ tys Z Z (AA Z) Z Z Z Z Z Z (by omega) (by omega) (evQ ?_);refine Aj (tN (sQ ?_));rw [hmi];refine nY Z ?_
  obtain ⟨i, hie⟩ : ∃ i, i = (at0 0 mv 0).toNat := ⟨_, rfl⟩
  rw [← hie]
  have hit : i < w.tasks.length := by omega
  obtain ⟨t, ht⟩ : ∃ t, t = w.tasks[i]'hit := ⟨_, rfl⟩
  obtain ⟨h, hh1⟩ : ∃ h, h = hdr[i]'(by omega) := ⟨_, rfl⟩
  have hc : (hdr.zip w.tasks)[i]? = some (h, t) := by rw [List.getElem?_zip_eq_some]; exact ⟨by rw [hh1, List.getElem?_eq_getElem (by omega)], by rw [ht, List.getElem?_eq_getElem hit]⟩
  refine Ea Ac ?_;refine LU 6 [.t (T.int A.kind), .t (T.int A.chan), .t (T.int A.n), .top] [16, 17, 18, 19, 20, 21, 22, 23, 24, 25, 26, 27, 6] [(0, .rp (.agg [T.ints w.room, Af w.held, T.bools w.shut, T.Tasks w.tasks, T.ints w.trace]) 0), (1, .t (T.ints mv))] (by kernel_rfl) ⟨ViewL.ref (id := 100) Z (ViewL.cons (ViewL.of (.own .done)) (ViewL.cons (ViewL.sl' (id := 104) Z) (ViewL.cons (ViewL.sl' (id := 105) Z) (ViewL.cons (ViewL.raw (id := 101) Z (Ej hh) tasks_cells (Nj _) hcap) (ViewL.cons (ViewL.sl' (id := 106) Z) ViewL.nil'))))), ViewL.of (.t .done), trivial⟩ rfl Z (fun w1 => ?_) ?_
  ·
    refine WR_Gm 13 Z (by kernel_rfl) (by kernel_rfl) (QG_ev tys Z Z (AA Z) Z (B3 rfl Z (AA Z) Z Z Z (BW Z (QG_ev tys Z Z (AA Z) Z (QG_ev tys Z Z (AA Z) Z (C3 tys Z Z (AA Z) Z Z Z Z Z Z Z (by omega) _ (CM _ _ (by omega) (by omega)) (QG_ev tys Z Z (AA Z) Z ?_)))))));rw [hmi];refine Jm Z Z (AA Z) Z Z Z Z Z (Du w (at0 0 mv 0) hi0 hi1 (by omega) hpp.1 hpp.2.1) Z (QG_ev tys Z Z (AA Z) Z (BW Z (C3 tys Z Z (AA Z) Z Z Z Z Z Z Z (by omega) _ (CM _ _ (by omega) (by omega)) (QG_ev tys Z Z (AA Z) Z ?_))));rw [hmk];refine C3 tys Z Z (AA Z) Z Z Z Z Z Z Z (by omega) _ (Az _ (by omega) (by omega)) ?_;rw [← hA];refine QG_ev tys Z Z (AA Z) Z (DY tys Z Z (AA Z) Z Z Z Z (AF ?_));refine ⟨by kernel_rfl, ?_⟩;refine nZ Z (sT Z (nZ Z (oN ?_)));exact ⟨rfl, rfl, _, rfl, rfl⟩
  refine tN (sQ (AG (sQ (nY Z ?_))))
  have htr := hgw.trace
  have htI : tk w (at0 0 mv 0) = t := by rw [tk, AL hi0 hi1, ht]; simp only [hie]
  have htm : t ∈ w.tasks := by rw [ht]; exact Nl _
  have hAw : A ∈ ways t := by rw [hA, ht]; subst hie; exact Nl _
  obtain ⟨hAk, ⟨hAc0, hAc1⟩, hAn, hts, htp⟩ := CY hg htm hAw
  have hheld := hgw.held
  have hshut := hgw.shut
  have hrm := hgw.room
  have hta : t.acts.length ≤ 6 := (hgo.pos _ htm).2.2
  refine rG (eK 4 Z (nB ?_));refine AD Z (fun h1 => ?_) (fun h1 => ?_)
  ·
    simp only [HS] at h1;refine sQ (sG (eZ Z (A6 rfl Z (AA Z) Z Z Z (eK 2 Z (kZ [0,4,5,54] Z (evE ?_))))));refine eZ Z (nB ?_);refine AD Z (fun h2 => ?_) (fun h2 => ?_)
    ·
      simp only [HS] at h2;refine sG (eZ Z (nB ?_))
      ((first | (refine W_le (Le.gatherBox (u := 100) (j := 1) (id := 104) rfl rfl rfl (by first | exact Nm _ | simp) rfl) ?_; refine W_norm rfl ?_) | skip); (first | (refine W_le (Le.gatherBox (u := 100) (j := 2) (id := 105) rfl rfl rfl (by first | exact Nm _ | simp) rfl) ?_; refine W_norm rfl ?_) | skip); (first | (refine W_le (Le.gatherBox (u := 100) (j := 4) (id := 106) rfl rfl rfl (by first | exact Nm _ | simp) rfl) ?_; refine W_norm rfl ?_) | skip))
      refine W_le (Le.close (u := 100) 1100 Z Z Z) (nY Z (rT (tR (bR (tR ?_)))));refine eP [_, _] ?_ ?_
      · (rw [show doI w mv = false from by (unfold doI; rw [hAo]; simp [h1]; omega)]; rfl)
      · (rw [show doR w mv = w from by rw [doR, show doI w mv = false from by (unfold doI; rw [hAo]; simp [h1]; omega)]; rfl]; refine blk2 ?_ rfl; simp [wC, T.ints, Af, T.bools, Ni]; done)
    simp only [HS] at h2;refine AE (tN (W_le (Le.gatherBox (u := 100) (j := 4) (id := 106) Z Z Z (Nm _) Z) (nY Z ?_)))
    have hdI : doI w mv = true := NM (fun h => h2 (by rw [h.2]; rfl))
    have hdo : doR w mv = advW { w with trace := w.trace ++ [t.last] } (at0 0 mv 0) := by rw [doR_t (fun h => h2 (by rw [h.2]; rfl)), doW, hAo, if_pos h1, htI]
    have hC1 := hc
    have hp1 : 0 ≤ t.pos ∧ t.pos ≤ 1048576 := by omega
    have hl1 : t.acts.length ≤ 1048576 := by omega
    have hfin := FT (W1 := { w with trace := w.trace ++ [t.last] }) hie hc htI
    refine Ar [[100], [], [], [], [], [100], [100], [100], [100], [100], [], [], [], []] Ac (by kernel_rfl) (A9 (QG_ev tys Z Z (AA Z) Z (AF (AZ (QG_ev tys Z Z (AA Z) Z (AF (AZ (B3 rfl Z (AA Z) Z Z Z (AF (AZ (QG_ev tys Z Z (AA Z) Z (AF (AY Z (Ed tys Z Z (AA Z) Z Z Z Z Z Z (A9 ?_)))))))))))))));refine QG_ev tys Z Z (AA Z) Z (AF (A9 (B3 rfl Z (AA Z) Z Z Z (AF (A9 (H9 tys Z Z (AA Z) Z Z Z Z Z (AF (AY Z (A9 (Jl (id := 101) (u := .int .i64 t.last) tys Z Z (AA Z) Z Z Z Z Z (Cg hc (by decide)) (Iz hc (by decide)) (AF (A9 ?_))))))))))));refine BC tys [T.int t.last] Z Z (AA Z) Z Z Z Z Z (AA Z) (by repeat (first | exact PartsOk.nil' | refine PartsOk.cons' rfl (by repeat (first | exact AbsL.nil' | refine AbsL.v' ?_ | refine AbsL.own' ?_ | refine AbsL.none' ?_)) Z ?_)) Z Z Z (by decide) ?_;refine AF (AZ (B7 tys Z Z (AA Z) Z Z Z Z Z Z Z Z Z ((fun x hx => by rw [OE] at hx; subst hx; exact ⟨rfl, fun z hz => ⟨_, by simpa [T.cells] using hz⟩⟩)) (by simp; omega) (by decide) Z ?_));refine AF (AZ (B3 rfl Z (AA Z) Z Z Z (AF (AY Z (AZ (QG_ev tys Z Z (AA Z) Z (AF (Fb tys Z Z Z Z Z Z Z Z Z (N3 Z) (Av ?_)))))))));refine ⟨by kernel_rfl, ?_⟩;refine nZ Z (oN (bN (tN (sQ ?_))))
    skip
    refine rG (eZ Z ?_);refine cP [101] (hm := (Bb bt (cap * 4) i _ h _ hC1 hp1 hl1)) (k := ?_);refine nZ Z (nA (eZ Z (nB ?_)))
    ((first | (refine W_le (Le.gatherBox (u := 100) (j := 1) (id := 104) rfl rfl rfl (by first | exact Nm _ | simp) rfl) ?_; refine W_norm rfl ?_) | skip); (first | (refine W_le (Le.gatherBox (u := 100) (j := 2) (id := 105) rfl rfl rfl (by first | exact Nm _ | simp) rfl) ?_; refine W_norm rfl ?_) | skip); (first | (refine W_le (Le.gatherBox (u := 100) (j := 4) (id := 106) rfl rfl rfl (by first | exact Nm _ | simp) rfl) ?_; refine W_norm rfl ?_) | skip))
    refine W_le (Le.close (u := 100) 1100 Z Z Z) (nY Z (rT ?_));refine eP [_, _] ?_ ?_
    · rw [hdI]
      rfl
    · rw [hdo]
      refine blk2 ?_ hfin
      first | (simp [wC, advW, setT, T.ints, Af, T.bools, Ni, Nv]; done) | (rw [Nr, hset]; simp [wC, advW, setT, T.ints, Af, T.bools, Ni]; done)
  simp only [HS] at h1;refine sQ (nY Z ?_)
  have hdI : doI w mv = true := NM (fun h => h1 (by rw [← hAo]; exact h.1))
  have hdW : doR w mv = doW w mv := doR_t (fun h => h1 (by rw [← hAo]; exact h.1))
  have hdW' := hdW
  rw [doW, hAo, if_neg h1] at hdW'
  have hsc : at0 false w.shut A.chan = w.shut[A.chan.toNat]'(by omega) := AL hAc0 (by omega)
  rw [hsc, htI] at hdW'
  have hhc : at0 [] w.held A.chan = w.held[A.chan.toNat]'(by omega) := AL hAc0 (by omega)
  obtain ⟨hl, hle⟩ : ∃ hl, hl = w.held[A.chan.toNat]'(by omega) := ⟨_, rfl⟩
  have hz : (w.held.map T.ints)[A.chan.toNat]? = some (T.ints hl) := by rw [hle, List.getElem?_map, List.getElem?_eq_getElem (by omega)]; rfl
  have hlx : hl.length ≤ 3 := by
   have e1 := Ie hgw hAc0 hAc1
   rw [hhc, ← hle] at e1
   have e2 := hgw.rooms
   rw [BD, Np] at e2
   have e3 := e2 _ (Nl (l := w.room) (n := A.chan.toNat) (by omega))
   rw [AL hAc0 hAc1] at e1;simp only [decide_eq_true_eq] at e3;omega
  refine AV Ac (by kernel_rfl) (evQ ?_);refine AH Z (evQ ?_);refine evQ ?_;refine evQ ?_;refine DX (fun h2 => ?_) (fun h2 => ?_)
  ·
    simp only [HS] at h2;refine AB Z Z Z Z (AA Z) (evQ ?_);refine AB Z Z Z Z (AA Z) (BQ rfl Z (AA Z) Z Z Z (AB Z Z Z Z (AA Z) (evQ ?_)));refine AH Z (AB Z Z Z Z (AA Z) (evQ ?_));refine AB Z Z Z Z (AA Z) (evQ ?_);refine AB Z Z Z Z (AA Z) (evQ ?_);refine AB Z Z Z Z (AA Z) (Fa tys Z Z (AA Z) Z Z Z Z Z Z Z Z hAc0 (by first | (rw [Nj]; omega) | (rw [Ns, Nj]; omega)) ?_);refine AB Z Z Z Z (AA Z) (G1 tys Z Z (AA Z) Z Z Z Z (Ig _ _ (by omega) (by omega)) Z (evQ ?_));refine AH Z (evQ ?_);refine Aj (tN ?_);refine AD Z (fun h3 => ?_) (fun h3 => ?_)
    ·
      refine sQ (nY Z ?_)
      have hdo : doR w mv = setT w (at0 0 mv 0) { t with state := 2 } := by rw [hdW', if_pos]; exact ⟨by omega, by assumption⟩
      have hfin := M2 (t2 := { t with state := 2 }) (W1 := w) hie hc
      refine rG (eZ Z (A6 rfl Z (AA Z) Z Z Z (Au tys Z Z (AA Z) Z Z Z Z Z (A5 (id := 101) (u0 := .int .i64 t.state) (u := .int .i64 2) tys Z Z Z Z Z Z Z (Cg hc (by decide)) Z Z Z (nZ Z (WO_le (Le.eqK (id := 101) Z (D1 (c' := (h, { t with state := 2 })) hc (by decide) Z Z)) (nZ Z (nA (eZ Z (nB ?_))))))))))
      ((first | (refine W_le (Le.gatherBox (u := 100) (j := 1) (id := 104) rfl rfl rfl (by first | exact Nm _ | simp) rfl) ?_; refine W_norm rfl ?_) | skip); (first | (refine W_le (Le.gatherBox (u := 100) (j := 2) (id := 105) rfl rfl rfl (by first | exact Nm _ | simp) rfl) ?_; refine W_norm rfl ?_) | skip); (first | (refine W_le (Le.gatherBox (u := 100) (j := 4) (id := 106) rfl rfl rfl (by first | exact Nm _ | simp) rfl) ?_; refine W_norm rfl ?_) | skip))
      refine W_le (Le.close (u := 100) 1100 Z Z Z) (nY Z (rT (bR (tR ?_))));refine eP [_, _] ?_ ?_
      · rw [hdI]
        rfl
      · rw [hdo]
        refine blk2 ?_ hfin
        first | (simp [wC, advW, setT, T.ints, Af, T.bools, Ni, Nv]; done) | (rw [Nr, hset]; simp [wC, advW, setT, T.ints, Af, T.bools, Ni]; done)
    refine sG (eK 4 Z (nB ?_));refine AD Z (fun h4 => ?_) (fun h4 => ?_)
    ·
      simp only [HS] at h4;refine nY Z ?_
      have hnp : ¬ ((A.kind = 5 ∨ A.kind = 1) ∧ w.shut[A.chan.toNat]'(by omega) = true) := fun h => by first | omega | (simp_all; done) | (simp_all; omega)
      rw [if_neg hnp] at hdW'
      have hdo : doR w mv = advW { w with shut := w.shut.set A.chan.toNat true } (at0 0 mv 0) := by rw [hdW', if_pos (by assumption)]
      have hC1 := hc
      have hp1 : 0 ≤ t.pos ∧ t.pos ≤ 1048576 := by omega
      have hl1 : t.acts.length ≤ 1048576 := by omega
      have hfin := FT (W1 := { w with shut := w.shut.set A.chan.toNat true }) hie hc htI
      refine DW 7 Ac Z (by kernel_rfl) (by kernel_rfl) (evQ ?_);refine AH Z (BQ rfl Z (AA Z) Z Z Z (evQ ?_));refine evQ ?_;refine evQ ?_;refine evQ ?_;refine Fa tys Z Z (AA Z) Z Z Z Z Z Z Z Z hAc0 (by first | (rw [Nj]; omega) | (rw [Ns, Nj]; omega)) ?_;refine AH Z (Aj (B2 tys (T.bool true) Z Z Z Z Z Z (N5 _) (by rw [Nj]; omega) Z (AbsL.v' AbsL.nil') Z Z Z ?_));refine nZ Z (oN (bN (tN (sQ ?_))))
      skip
      refine rG (eZ Z ?_);refine cP [101] (hm := (Bb bt (cap * 4) i _ h _ hC1 hp1 hl1)) (k := ?_);refine nZ Z (nA (eZ Z (nB ?_)))
      ((first | (refine W_le (Le.gatherBox (u := 100) (j := 1) (id := 104) rfl rfl rfl (by first | exact Nm _ | simp) rfl) ?_; refine W_norm rfl ?_) | skip); (first | (refine W_le (Le.gatherBox (u := 100) (j := 2) (id := 105) rfl rfl rfl (by first | exact Nm _ | simp) rfl) ?_; refine W_norm rfl ?_) | skip); (first | (refine W_le (Le.gatherBox (u := 100) (j := 4) (id := 106) rfl rfl rfl (by first | exact Nm _ | simp) rfl) ?_; refine W_norm rfl ?_) | skip))
      refine W_le (Le.close (u := 100) 1100 Z Z Z) (nY Z (rT ?_));refine eP [_, _] ?_ ?_
      · rw [hdI]
        rfl
      · rw [hdo]
        refine blk2 ?_ hfin
        first | (simp [wC, advW, setT, T.ints, Af, T.bools, Ni, Nv]; done) | (rw [Nr, hset]; simp [wC, advW, setT, T.ints, Af, T.bools, Ni]; done)
    simp only [HS] at h4;refine sG (eK 4 Z (kZ [0,1,4,5,6,98] Z (nB ?_)));refine AD Z (fun h5 => ?_) (fun h5 => ?_)
    ·
      simp only [HS] at h5;refine sQ (nY Z ?_)
      have hk2 : A.kind = 2 := by assumption
      have hnp : ¬ ((A.kind = 5 ∨ A.kind = 1) ∧ w.shut[A.chan.toNat]'(by omega) = true) := fun h => by omega
      rw [if_neg hnp, if_neg (by omega), if_neg (by omega), if_neg (by omega)] at hdW';rw [hhc, ← hle] at hdW';refine rG (eZ Z (A6 rfl Z (AA Z) Z Z Z (Au tys Z Z (AA Z) Z Z Z Z Z (A5 (id := 101) (u0 := .int .i64 t.last) (u := .int .i64 0) tys Z Z Z Z Z Z Z (Cg hc (by decide)) Z Z Z (nZ Z (WO_le (Le.eqK (id := 101) Z (D1 (c' := (h, { t with last := 0 })) hc (by decide) Z Z)) ?_))))))
      have hcA : ((hdr.zip w.tasks).set i (h, { t with last := 0 }))[i]? = some (h, { t with last := 0 }) := E1 hc
      refine nZ Z (nB (sQ (nY Z ?_)));refine Dv (id := 104) (i := A.chan.toNat) (off := 0) 107 Z hz Z Z Z (fun ad cp => ?_);refine nY Z (AV Ac (by kernel_rfl) (evQ ?_));refine BQ rfl Z (AA Z) Z Z Z (AH Z (evQ ?_));refine evQ ?_;refine evQ ?_;refine evQ ?_;refine Fa tys Z Z (AA Z) Z Z Z Z Z Z Z Z hAc0 (by first | (rw [Nj]; omega) | (rw [Ns, Nj]; omega)) ?_;refine G1 tys Z Z (AA Z) Z Z Z Z (by rw [N5]; exact List.getElem?_set_self (by rw [Nj]; omega)) Z ?_;refine AH Z (evQ ?_);refine Aj (tN (sG (eZ Z (Eb Z Z (AA Z) Z ⟨3, by kernel_rfl⟩ rfl (eZ Z (nB ?_))))));refine AD Z (fun h6 => ?_) (fun h6 => ?_)
      ·
        simp only [HS] at h6;refine sQ (nY Z (W_le (Le.ownBack (t := 7) (id := 107) Z Z) (nY Z (W_le (Le.adoptE (u := 7) 107 Z Z) (nY Z ?_)))))
        have hlp : 0 < hl.length := by simp_all
        have hdo : doR w mv = advW { setT w (at0 0 mv 0) { t with last := hl[0] } with held := w.held.set A.chan.toNat (hl.drop 1) } (at0 0 mv 0) := by rw [hdW', if_pos hlp, show at0 0 hl 0 = hl[0] from AL (l := hl) (i := 0) (by omega) (by omega)]
        have hC1 : (((hdr.zip w.tasks).set i (h, { t with last := 0 })).set i (h, { t with last := hl[0] }))[i]? = some (h, { t with last := hl[0] }) := E1 hcA
        have hp1 : 0 ≤ t.pos ∧ t.pos ≤ 1048576 := by omega
        have hl1 : t.acts.length ≤ 1048576 := by omega
        have hfin : (((hdr.zip w.tasks).set i (h, { t with last := 0 })).set i (h, { t with last := hl[0] })).set i (h, advT { t with last := hl[0] }) = hdr.zip (advW { setT w (at0 0 mv 0) { t with last := hl[0] } with held := w.held.set A.chan.toNat (hl.drop 1) } (at0 0 mv 0)).tasks := by
         rw [Nr, Nr, CO hc]
         have e1 : tk { setT w (at0 0 mv 0) { t with last := hl[0] } with held := w.held.set A.chan.toNat (hl.drop 1) } (at0 0 mv 0) = { t with last := hl[0] } := (B5 hi0 hi1 hi0).trans (if_pos rfl)
         show _ = hdr.zip ((w.tasks.set (at0 0 mv 0).toNat _).set (at0 0 mv 0).toNat (advT (tk _ _)));rw [e1, Nr, hie]
        refine rG (eK 2 Z (BE tys Z Z (AA Z) Z Z Z Z Z Z Z Z (by omega) (by rw [Nj]; omega) ?_));refine Bl tys Z Z (AA Z) Z Z Z Z (Ig _ _ (by omega) (by omega)) Z (A6 rfl Z (AA Z) Z Z Z (kZ [0,4,5,6,7,119,120] Z (Au tys Z Z (AA Z) Z Z Z Z Z (A5 (id := 101) (u0 := .int .i64 0) (u := .int .i64 hl[0]) tys Z Z Z Z Z Z Z (Cg hcA (by decide)) Z Z Z (nZ Z (WO_le (Le.eqK (id := 101) Z (D1 (c' := (h, { t with last := hl[0] })) hcA (by decide) Z Z)) (nZ Z (nB (Bd 9 Ac Z (by kernel_rfl) (by kernel_rfl) (QG_ev tys Z Z (AA Z) Z (B3 rfl Z (AA Z) Z Z Z (QG_ev tys Z Z (AA Z) Z (QG_ev tys Z Z (AA Z) Z (BW Z (QG_ev tys Z Z (AA Z) Z ?_)))))))))))))));refine QG_ev tys Z Z (AA Z) Z (QG_ev tys Z Z (AA Z) Z (Ff tys Z Z (AA Z) Z Z Z Z Z Z Z Z Z (by omega) (by rw [Nj]; omega) (by rw [Nj]; omega) ?_));refine Fg Z Z (AA Z) Z Z (D8 (id := 107) Z (by show 1 + (((List.map T.int hl).length : Int).toNat - 1) = hl.length; rw [Nj]; omega) Z) (Cr (hl.drop 1) (by rw [OS]; omega)) Z ?_;refine AF ?_;refine ⟨by kernel_rfl, ?_⟩;refine nZ Z (BE tys Z Z (AA Z) Z Z Z Z Z Z Z Z hAc0 (by first | (rw [Nj]; omega) | (rw [Ns, Nj]; omega)) ?_);refine B2 tys (T.ints (hl.drop 1)) Z Z Z Z Z Z (N5 _) (by rw [Ns, Nj]; omega) Z (AbsL.own' AbsL.nil') Z Z Z ?_;refine nZ Z (oN (bN (tN (sQ ?_))))
        skip
        refine rG (eZ Z ?_);refine cP [101] (hm := (Bb bt (cap * 4) i _ h _ hC1 hp1 hl1)) (k := ?_);refine nZ Z (nA (eZ Z (nB ?_)))
        ((first | (refine W_le (Le.gatherBox (u := 100) (j := 1) (id := 104) rfl rfl rfl (by first | exact Nm _ | simp) rfl) ?_; refine W_norm rfl ?_) | skip); (first | (refine W_le (Le.gatherBox (u := 100) (j := 2) (id := 105) rfl rfl rfl (by first | exact Nm _ | simp) rfl) ?_; refine W_norm rfl ?_) | skip); (first | (refine W_le (Le.gatherBox (u := 100) (j := 4) (id := 106) rfl rfl rfl (by first | exact Nm _ | simp) rfl) ?_; refine W_norm rfl ?_) | skip))
        refine W_le (Le.close (u := 100) 1100 Z Z Z) (nY Z (rT ?_));refine eP [_, _] ?_ ?_
        · rw [hdI]
          rfl
        · rw [hdo]
          refine blk2 ?_ hfin
          first | (simp [wC, advW, setT, T.ints, Af, T.bools, Ni, Nv]; done) | (rw [Nr, hset]; simp [wC, advW, setT, T.ints, Af, T.bools, Ni]; done)
      simp only [HS] at h6;refine AE (bN (tN (sQ ?_)))
      (refine W_le (Le.putBack (id := 104) (idq := 107) (i := A.chan.toNat) (off := 0) (T.ints hl) rfl rfl (List.getElem?_set_self (by rw [Nj]; omega)) rfl rfl rfl) ?_; refine W_norm rfl ?_; have hlp : ¬ 0 < hl.length := (by simp_all); have hdo : doR w mv = advW (setT w (at0 0 mv 0) { t with last := 0 }) (at0 0 mv 0) := (by rw [hdW', if_neg hlp]); have hC1 := hcA; have hp1 : 0 ≤ t.pos ∧ t.pos ≤ 1048576 := (by omega); have hl1 : t.acts.length ≤ 1048576 := (by omega); have hfin := KX (t2 := { t with last := 0 }) hie hi0 hi1 hc; have hset : (w.held.map T.ints).set A.chan.toNat (T.ints hl) = w.held.map T.ints := D4 hz)
      refine rG (eZ Z ?_);refine cP [101] (hm := (Bb bt (cap * 4) i _ h _ hC1 hp1 hl1)) (k := ?_);refine nZ Z (nA (eZ Z (nB ?_)))
      ((first | (refine W_le (Le.gatherBox (u := 100) (j := 1) (id := 104) rfl rfl rfl (by first | exact Nm _ | simp) rfl) ?_; refine W_norm rfl ?_) | skip); (first | (refine W_le (Le.gatherBox (u := 100) (j := 2) (id := 105) rfl rfl rfl (by first | exact Nm _ | simp) rfl) ?_; refine W_norm rfl ?_) | skip); (first | (refine W_le (Le.gatherBox (u := 100) (j := 4) (id := 106) rfl rfl rfl (by first | exact Nm _ | simp) rfl) ?_; refine W_norm rfl ?_) | skip))
      refine W_le (Le.close (u := 100) 1100 Z Z Z) (nY Z (rT ?_));refine eP [_, _] ?_ ?_
      · rw [hdI]
        rfl
      · rw [hdo]
        refine blk2 ?_ hfin
        first | (simp [wC, advW, setT, T.ints, Af, T.bools, Ni, Nv]; done) | (rw [Nr, hset]; simp [wC, advW, setT, T.ints, Af, T.bools, Ni]; done)
    simp only [HS] at h5;refine sG (eZ Z ?_);refine iY (k := ?_);refine eK 3 Z (nB ?_);refine AD Z (fun h6 => ?_) (fun h6 => ?_)
    ·
      simp only [HS] at h6;refine sQ (nY Z ?_)
      have hk1 : A.kind = 1 := by omega
      have hJ0 : 0 ≤ at0 0 mv 2 := by rw [← hmj]; omega
      obtain ⟨⟨_, hJ1⟩, hIJ, hJw⟩ := hm.j.resolve_left (by omega)
      obtain ⟨j, hje⟩ : ∃ j, j = (at0 0 mv 2).toNat := ⟨_, rfl⟩
      have hjt : j < w.tasks.length := by omega
      have hij : ¬ j = i := by omega
      obtain ⟨u, hu⟩ : ∃ u, u = w.tasks[j]'hjt := ⟨_, rfl⟩
      obtain ⟨hj, hhj⟩ : ∃ hj, hj = hdr[j]'(by omega) := ⟨_, rfl⟩
      have hcj : (hdr.zip w.tasks)[j]? = some (hj, u) := by rw [hhj, hu]; exact Cv _ _
      have hum : u ∈ w.tasks := by rw [hu]; exact Nl _
      have huJ : tk w (at0 0 mv 2) = u := by rw [tk, AL hJ0 hJ1, hu]; simp only [hje]
      have hup := hgo.pos _ hum
      have hus : u.state = 0 := Classical.byContradiction fun hx => by rw [huJ] at hJw; unfold ways at hJw; rw [if_neg hx] at hJw; simp at hJw
      have hup1 := hup.2.1 hus
      have hnp : ¬ ((A.kind = 5 ∨ A.kind = 1) ∧ w.shut[A.chan.toNat]'(by omega) = true) := fun h => by first | omega | (simp_all; done) | (simp_all; omega)
      rw [if_neg hnp, if_neg (by omega), if_pos ⟨hk1, hJ0⟩, huJ] at hdW'
      have hdo := hdW'
      have hC2 : ((hdr.zip w.tasks).set j (hj, { u with last := A.n }))[j]? = some (hj, { u with last := A.n }) := E1 hcj
      have hp2 : 0 ≤ u.pos ∧ u.pos ≤ 1048576 := by omega
      have hl2 : u.acts.length ≤ 1048576 := by omega
      have hp1 : 0 ≤ t.pos ∧ t.pos ≤ 1048576 := by omega
      have hl1 : t.acts.length ≤ 1048576 := by omega
      have hC1 : (((hdr.zip w.tasks).set j (hj, { u with last := A.n })).set j (hj, advT { u with last := A.n }))[i]? = some (h, t) := by rw [List.getElem?_set_ne hij, List.getElem?_set_ne hij]; exact hc
      have hfin := KW hie hje hi0 hi1 hJ0 hJ1 hIJ hcj hc htI (n := A.n)
      refine DW 11 Ac Z (by kernel_rfl) (by kernel_rfl) (evQ ?_);refine AH Z (BQ rfl Z (AA Z) Z Z Z (evQ ?_));refine evQ ?_;refine evQ ?_;refine AP tys Z Z (AA Z) Z Z Z Z Z Z Z (by omega) _ (CM _ _ (by omega) (by omega)) (evQ ?_);refine AH Z ?_;rw [hmj];refine evQ ?_;refine evQ ?_;refine FZ tys Z Z (AA Z) Z Z Z Z Z Z (by omega) (by omega) ?_;rw [← hje];refine Ct tys Z Z (AA Z) Z Z Z Z Z (Aj (A5 (id := 101) (u0 := .int .i64 u.last) (u := .int .i64 A.n) tys Z Z Z Z Z Z Z (Cg hcj (by decide)) Z Z Z (nZ Z (WO_le (Le.eqK (id := 101) Z (D1 (c' := (hj, { u with last := A.n })) hcj (by decide) Z Z)) (nZ Z (nB (Ar [[], [], [], [], [], [], [], [], []] Ac (by kernel_rfl) (AZ (QG_ev tys Z Z (AA Z) Z (AF (AZ (B3 rfl Z (AA Z) Z Z Z (AF (AZ (QG_ev tys Z Z (AA Z) Z ?_)))))))))))))));refine AF (AZ (QG_ev tys Z Z (AA Z) Z (AF (AY Z (AZ (QG_ev tys Z Z (AA Z) Z (AF (AZ (C3 tys Z Z (AA Z) Z Z Z Z Z Z Z (by omega) _ (CM _ _ (by omega) (by omega)) (AF (AZ (QG_ev tys Z Z (AA Z) Z (AF (AZ ?_))))))))))))));rw [hmj];refine Lg tys Z Z (AA Z) Z Z Z Z Z Z (by omega) (by omega) ?_;rw [← hje];refine AF (AY Z ?_);refine Bn (rid := 99) [101] Z Z (AA Z) Z Z (by repeat (first | exact ResP.done | refine ResP.pin0 1101 Z ?_ | refine ResP.t ?_ | refine ResP.nil 1 ?_ | refine ResP.nil' ?_ | refine ResP.own ?_ | refine ResP.sl Z Z (by first | omega | (simp; omega)) ?_ | refine ResP.aggT (by repeat (first | exact ResP.done | refine ResP.t ?_)) ?_)) Z (by repeat (first | exact trivial | refine ⟨rfl, rfl, ?_⟩)) (by decide) (Bb bt (cap * 4) j _ hj _ hC2 hp2 hl2) Z Z Z ?_;refine Av ?_;refine ⟨by kernel_rfl, ?_⟩;refine nZ Z (oN (bN (tN (sQ ?_))))
      skip
      refine rG (eZ Z ?_);refine cP [101] (hm := (Bb bt (cap * 4) i _ h _ hC1 hp1 hl1)) (k := ?_);refine nZ Z (nA (eZ Z (nB ?_)))
      ((first | (refine W_le (Le.gatherBox (u := 100) (j := 1) (id := 104) rfl rfl rfl (by first | exact Nm _ | simp) rfl) ?_; refine W_norm rfl ?_) | skip); (first | (refine W_le (Le.gatherBox (u := 100) (j := 2) (id := 105) rfl rfl rfl (by first | exact Nm _ | simp) rfl) ?_; refine W_norm rfl ?_) | skip); (first | (refine W_le (Le.gatherBox (u := 100) (j := 4) (id := 106) rfl rfl rfl (by first | exact Nm _ | simp) rfl) ?_; refine W_norm rfl ?_) | skip))
      refine W_le (Le.close (u := 100) 1100 Z Z Z) (nY Z (rT ?_));refine eP [_, _] ?_ ?_
      · rw [hdI]
        rfl
      · rw [hdo]
        refine blk2 ?_ hfin
        first | (simp [wC, advW, setT, T.ints, Af, T.bools, Ni, Nv]; done) | (rw [Nr, hset]; simp [wC, advW, setT, T.ints, Af, T.bools, Ni]; done)
    simp only [HS] at h6;refine nY Z ?_
    have hk1 : A.kind = 1 := by omega
    have hJ0 : ¬ 0 ≤ at0 0 mv 2 := by rw [← hmj]; omega
    have hnp : ¬ ((A.kind = 5 ∨ A.kind = 1) ∧ w.shut[A.chan.toNat]'(by omega) = true) := fun h => by first | omega | (simp_all; done) | (simp_all; omega)
    rw [if_neg hnp, if_neg (by omega), if_neg (fun e => hJ0 e.2), if_pos hk1, hhc, ← hle] at hdW'
    have hdo := hdW'
    have hC1 := hc
    have hp1 : 0 ≤ t.pos ∧ t.pos ≤ 1048576 := by omega
    have hl1 : t.acts.length ≤ 1048576 := by omega
    have hfin := FT (W1 := { w with held := w.held.set A.chan.toNat (hl ++ [A.n]) }) hie hc htI
    refine Dv (id := 104) (i := A.chan.toNat) (off := 0) 107 Z hz Z Z Z (fun ad cp => ?_);refine nY Z (Ar [[107], [107], [107], [107], [107], [107], [], [], [], [], [], [], [], [], [107], [107], [107], [], [], []] Ac (by kernel_rfl) (A9 (QG_ev tys Z Z (AA Z) Z (AF (A9 (B3 rfl Z (AA Z) Z Z Z (AF (A9 (QG_ev tys Z Z (AA Z) Z (AF (A9 (QG_ev tys Z Z (AA Z) Z (AF (AY Z (A9 ?_)))))))))))))));refine QG_ev tys Z Z (AA Z) Z (AF (A9 (QG_ev tys Z Z (AA Z) Z (AF (AZ (QG_ev tys Z Z (AA Z) Z (AF (AZ (B3 rfl Z (AA Z) Z Z Z (AF (AY Z (AZ (QG_ev tys Z Z (AA Z) Z (AF (AZ ?_)))))))))))))));refine QG_ev tys Z Z (AA Z) Z (AF (AZ (QG_ev tys Z Z (AA Z) Z (AF (AZ (QG_ev tys Z Z (AA Z) Z (AF (AY Z (AZ (Ce tys Z Z (AA Z) Z Z Z Z Z Z Z Z hAc0 (by first | (rw [Nj]; omega) | (rw [Ns, Nj]; omega)) ?_))))))))));refine AF ?_;refine Dx tys 107 Z Z (AA Z) Z Z Z Z (by rw [N5]; exact List.getElem?_set_self (by rw [Nj]; omega)) Z Z ?_;refine A9 (QG_ev tys Z Z (AA Z) Z (AF (A9 (QG_ev tys Z Z (AA Z) Z (AF (AY Z (A9 ?_)))))));refine BC tys [T.int A.n] Z Z (AA Z) Z Z Z Z Z (AA Z) (by repeat (first | exact PartsOk.nil' | refine PartsOk.cons' rfl (by repeat (first | exact AbsL.nil' | refine AbsL.v' ?_ | refine AbsL.own' ?_ | refine AbsL.none' ?_)) Z ?_)) Z Z Z (by decide) ?_;refine AF (AZ (B7 tys Z Z (AA Z) Z Z Z Z Z Z Z Z Z ((fun x hx => by rw [OE] at hx; subst hx; exact ⟨rfl, fun z hz => ⟨_, by simpa [T.cells] using hz⟩⟩)) (by simp; omega) (by decide) Z ?_));refine AF (AZ (Ce tys Z Z (AA Z) Z Z Z Z Z Z Z Z hAc0 (by first | (rw [Nj]; omega) | (rw [Ns, Nj]; omega)) ?_));refine AF ?_;refine Fc tys [.list 1 (hl.map T.int ++ [T.int A.n])] Z Z Z Z Z Z (by rw [N5]; exact List.getElem?_set_self (by rw [Nj]; omega)) Z Z (AbsL.own' AbsL.nil') Z (by decide) (N3 Z) ?_;refine AY Z (Av ?_);refine ⟨by kernel_rfl, ?_⟩;refine nZ Z (WO_le (Le.sameL (id := 104) (ys := (w.held.set A.chan.toNat (hl ++ [A.n])).map T.ints) Z (held_same (by show [T.list 1 _] = [T.list 1 _]; rw [OU]; rfl)) (by simp) held_cells) ?_);refine nZ Z (oN (bN (tN (sQ ?_))))
    skip
    refine rG (eZ Z ?_);refine cP [101] (hm := (Bb bt (cap * 4) i _ h _ hC1 hp1 hl1)) (k := ?_);refine nZ Z (nA (eZ Z (nB ?_)))
    ((first | (refine W_le (Le.gatherBox (u := 100) (j := 1) (id := 104) rfl rfl rfl (by first | exact Nm _ | simp) rfl) ?_; refine W_norm rfl ?_) | skip); (first | (refine W_le (Le.gatherBox (u := 100) (j := 2) (id := 105) rfl rfl rfl (by first | exact Nm _ | simp) rfl) ?_; refine W_norm rfl ?_) | skip); (first | (refine W_le (Le.gatherBox (u := 100) (j := 4) (id := 106) rfl rfl rfl (by first | exact Nm _ | simp) rfl) ?_; refine W_norm rfl ?_) | skip))
    refine W_le (Le.close (u := 100) 1100 Z Z Z) (nY Z (rT ?_));refine eP [_, _] ?_ ?_
    · rw [hdI]
      rfl
    · rw [hdo]
      refine blk2 ?_ hfin
      first | (simp [wC, advW, setT, T.ints, Af, T.bools, Ni, Nv]; done) | (rw [Nr, hset]; simp [wC, advW, setT, T.ints, Af, T.bools, Ni]; done)
  simp only [HS] at h2
  iterate 8 (refine Ad rfl rfl rfl rfl rfl (AA rfl) ?_)
  refine AH Z (evQ ?_);refine evQ ?_;refine Aj (tN (A0 Z (sG (eK 4 Z (nB ?_)))));refine AD Z (fun h3 => ?_) (fun h3 => ?_)
  ·
    simp only [HS] at h3;refine nY Z ?_
    have hnp : ¬ ((A.kind = 5 ∨ A.kind = 1) ∧ w.shut[A.chan.toNat]'(by omega) = true) := fun h => by first | omega | (simp_all; done) | (simp_all; omega)
    rw [if_neg hnp] at hdW'
    have hdo : doR w mv = advW { w with shut := w.shut.set A.chan.toNat true } (at0 0 mv 0) := by rw [hdW', if_pos (by assumption)]
    have hC1 := hc
    have hp1 : 0 ≤ t.pos ∧ t.pos ≤ 1048576 := by omega
    have hl1 : t.acts.length ≤ 1048576 := by omega
    have hfin := FT (W1 := { w with shut := w.shut.set A.chan.toNat true }) hie hc htI
    refine DW 7 Ac Z (by kernel_rfl) (by kernel_rfl) (evQ ?_);refine AH Z (BQ rfl Z (AA Z) Z Z Z (evQ ?_));refine evQ ?_;refine evQ ?_;refine evQ ?_;refine Fa tys Z Z (AA Z) Z Z Z Z Z Z Z Z hAc0 (by first | (rw [Nj]; omega) | (rw [Ns, Nj]; omega)) ?_;refine AH Z (Aj (B2 tys (T.bool true) Z Z Z Z Z Z (N5 _) (by rw [Nj]; omega) Z (AbsL.v' AbsL.nil') Z Z Z ?_));refine nZ Z (oN (bN (tN (sQ ?_))))
    skip
    refine rG (eZ Z ?_);refine cP [101] (hm := (Bb bt (cap * 4) i _ h _ hC1 hp1 hl1)) (k := ?_);refine nZ Z (nA (eZ Z (nB ?_)))
    ((first | (refine W_le (Le.gatherBox (u := 100) (j := 1) (id := 104) rfl rfl rfl (by first | exact Nm _ | simp) rfl) ?_; refine W_norm rfl ?_) | skip); (first | (refine W_le (Le.gatherBox (u := 100) (j := 2) (id := 105) rfl rfl rfl (by first | exact Nm _ | simp) rfl) ?_; refine W_norm rfl ?_) | skip); (first | (refine W_le (Le.gatherBox (u := 100) (j := 4) (id := 106) rfl rfl rfl (by first | exact Nm _ | simp) rfl) ?_; refine W_norm rfl ?_) | skip))
    refine W_le (Le.close (u := 100) 1100 Z Z Z) (nY Z (rT ?_));refine eP [_, _] ?_ ?_
    · rw [hdI]
      rfl
    · rw [hdo]
      refine blk2 ?_ hfin
      first | (simp [wC, advW, setT, T.ints, Af, T.bools, Ni, Nv]; done) | (rw [Nr, hset]; simp [wC, advW, setT, T.ints, Af, T.bools, Ni]; done)
  simp only [HS] at h3;refine sG (eK 3 Z (kZ [0,1,4,5,6,101] Z (eZ Z (nB ?_))));refine AD Z (fun h4 => ?_) (fun h4 => ?_)
  ·
    simp only [HS] at h4;refine sQ (nY Z ?_)
    have hk2 : A.kind = 2 := by assumption
    have hnp : ¬ ((A.kind = 5 ∨ A.kind = 1) ∧ w.shut[A.chan.toNat]'(by omega) = true) := fun h => by omega
    rw [if_neg hnp, if_neg (by omega), if_neg (by omega), if_neg (by omega)] at hdW';rw [hhc, ← hle] at hdW';refine rG (eZ Z (A6 rfl Z (AA Z) Z Z Z (Au tys Z Z (AA Z) Z Z Z Z Z (A5 (id := 101) (u0 := .int .i64 t.last) (u := .int .i64 0) tys Z Z Z Z Z Z Z (Cg hc (by decide)) Z Z Z (nZ Z (WO_le (Le.eqK (id := 101) Z (D1 (c' := (h, { t with last := 0 })) hc (by decide) Z Z)) ?_))))))
    have hcA : ((hdr.zip w.tasks).set i (h, { t with last := 0 }))[i]? = some (h, { t with last := 0 }) := E1 hc
    refine nZ Z (nB (sQ (nY Z ?_)));refine Dv (id := 104) (i := A.chan.toNat) (off := 0) 107 Z hz Z Z Z (fun ad cp => ?_);refine nY Z (AV Ac (by kernel_rfl) (evQ ?_));refine AH Z (BQ rfl Z (AA Z) Z Z Z (evQ ?_));refine evQ ?_;refine evQ ?_;refine evQ ?_;refine Fa tys Z Z (AA Z) Z Z Z Z Z Z Z Z hAc0 (by first | (rw [Nj]; omega) | (rw [Ns, Nj]; omega)) ?_;refine AH Z ?_;refine G1 tys Z Z (AA Z) Z Z Z Z (by rw [N5]; exact List.getElem?_set_self (by rw [Nj]; omega)) Z ?_;refine evQ ?_;refine Aj (tN (sG (eZ Z (Eb Z Z (AA Z) Z ⟨3, by kernel_rfl⟩ rfl (eZ Z (nB ?_))))));refine AD Z (fun h5 => ?_) (fun h5 => ?_)
    ·
      simp only [HS] at h5;refine sQ (nY Z (W_le (Le.ownBack (t := 7) (id := 107) Z Z) (nY Z (W_le (Le.adoptE (u := 7) 107 Z Z) (nY Z ?_)))))
      have hlp : 0 < hl.length := by simp_all
      have hdo : doR w mv = advW { setT w (at0 0 mv 0) { t with last := hl[0] } with held := w.held.set A.chan.toNat (hl.drop 1) } (at0 0 mv 0) := by rw [hdW', if_pos hlp, show at0 0 hl 0 = hl[0] from AL (l := hl) (i := 0) (by omega) (by omega)]
      have hC1 : (((hdr.zip w.tasks).set i (h, { t with last := 0 })).set i (h, { t with last := hl[0] }))[i]? = some (h, { t with last := hl[0] }) := E1 hcA
      have hp1 : 0 ≤ t.pos ∧ t.pos ≤ 1048576 := by omega
      have hl1 : t.acts.length ≤ 1048576 := by omega
      have hfin : (((hdr.zip w.tasks).set i (h, { t with last := 0 })).set i (h, { t with last := hl[0] })).set i (h, advT { t with last := hl[0] }) = hdr.zip (advW { setT w (at0 0 mv 0) { t with last := hl[0] } with held := w.held.set A.chan.toNat (hl.drop 1) } (at0 0 mv 0)).tasks := by
       rw [Nr, Nr, CO hc]
       have e1 : tk { setT w (at0 0 mv 0) { t with last := hl[0] } with held := w.held.set A.chan.toNat (hl.drop 1) } (at0 0 mv 0) = { t with last := hl[0] } := (B5 hi0 hi1 hi0).trans (if_pos rfl)
       show _ = hdr.zip ((w.tasks.set (at0 0 mv 0).toNat _).set (at0 0 mv 0).toNat (advT (tk _ _)));rw [e1, Nr, hie]
      refine rG (eK 2 Z (BE tys Z Z (AA Z) Z Z Z Z Z Z Z Z (by omega) (by rw [Nj]; omega) ?_));refine Bl tys Z Z (AA Z) Z Z Z Z (Ig _ _ (by omega) (by omega)) Z (kZ [0,4,5,6,7,116,119] Z (A6 rfl Z (AA Z) Z Z Z (Au tys Z Z (AA Z) Z Z Z Z Z (A5 (id := 101) (u0 := .int .i64 0) (u := .int .i64 hl[0]) tys Z Z Z Z Z Z Z (Cg hcA (by decide)) Z Z Z (nZ Z (WO_le (Le.eqK (id := 101) Z (D1 (c' := (h, { t with last := hl[0] })) hcA (by decide) Z Z)) (nZ Z (nB (Bd 9 Ac Z (by kernel_rfl) (by kernel_rfl) (QG_ev tys Z Z (AA Z) Z (B3 rfl Z (AA Z) Z Z Z (QG_ev tys Z Z (AA Z) Z (BW Z (QG_ev tys Z Z (AA Z) Z (QG_ev tys Z Z (AA Z) Z ?_)))))))))))))));refine QG_ev tys Z Z (AA Z) Z (QG_ev tys Z Z (AA Z) Z (Ff tys Z Z (AA Z) Z Z Z Z Z Z Z Z Z (by omega) (by rw [Nj]; omega) (by rw [Nj]; omega) ?_));refine Fg Z Z (AA Z) Z Z (D8 (id := 107) Z (by show 1 + (((List.map T.int hl).length : Int).toNat - 1) = hl.length; rw [Nj]; omega) Z) (Cr (hl.drop 1) (by rw [OS]; omega)) Z ?_;refine BW Z (AF ?_);refine ⟨by kernel_rfl, ?_⟩;refine nZ Z (BE tys Z Z (AA Z) Z Z Z Z Z Z Z Z hAc0 (by first | (rw [Nj]; omega) | (rw [Ns, Nj]; omega)) ?_);refine B2 tys (T.ints (hl.drop 1)) Z Z Z Z Z Z (N5 _) (by rw [Ns, Nj]; omega) Z (AbsL.own' AbsL.nil') Z Z Z ?_;refine nZ Z (oN (bN (tN (sQ ?_))))
      skip
      refine rG (eZ Z ?_);refine cP [101] (hm := (Bb bt (cap * 4) i _ h _ hC1 hp1 hl1)) (k := ?_);refine nZ Z (nA (eZ Z (nB ?_)))
      ((first | (refine W_le (Le.gatherBox (u := 100) (j := 1) (id := 104) rfl rfl rfl (by first | exact Nm _ | simp) rfl) ?_; refine W_norm rfl ?_) | skip); (first | (refine W_le (Le.gatherBox (u := 100) (j := 2) (id := 105) rfl rfl rfl (by first | exact Nm _ | simp) rfl) ?_; refine W_norm rfl ?_) | skip); (first | (refine W_le (Le.gatherBox (u := 100) (j := 4) (id := 106) rfl rfl rfl (by first | exact Nm _ | simp) rfl) ?_; refine W_norm rfl ?_) | skip))
      refine W_le (Le.close (u := 100) 1100 Z Z Z) (nY Z (rT ?_));refine eP [_, _] ?_ ?_
      · rw [hdI]
        rfl
      · rw [hdo]
        refine blk2 ?_ hfin
        first | (simp [wC, advW, setT, T.ints, Af, T.bools, Ni, Nv]; done) | (rw [Nr, hset]; simp [wC, advW, setT, T.ints, Af, T.bools, Ni]; done)
    simp only [HS] at h5;refine AE (bN (tN (sQ ?_)))
    (refine W_le (Le.putBack (id := 104) (idq := 107) (i := A.chan.toNat) (off := 0) (T.ints hl) rfl rfl (List.getElem?_set_self (by rw [Nj]; omega)) rfl rfl rfl) ?_; refine W_norm rfl ?_; have hlp : ¬ 0 < hl.length := (by simp_all); have hdo : doR w mv = advW (setT w (at0 0 mv 0) { t with last := 0 }) (at0 0 mv 0) := (by rw [hdW', if_neg hlp]); have hC1 := hcA; have hp1 : 0 ≤ t.pos ∧ t.pos ≤ 1048576 := (by omega); have hl1 : t.acts.length ≤ 1048576 := (by omega); have hfin := KX (t2 := { t with last := 0 }) hie hi0 hi1 hc; have hset : (w.held.map T.ints).set A.chan.toNat (T.ints hl) = w.held.map T.ints := D4 hz)
    refine rG (eZ Z ?_);refine cP [101] (hm := (Bb bt (cap * 4) i _ h _ hC1 hp1 hl1)) (k := ?_);refine nZ Z (nB (sQ (kY [4] Z (rG (eZ Z (nB ?_))))))
    ((first | (refine W_le (Le.gatherBox (u := 100) (j := 1) (id := 104) rfl rfl rfl (by first | exact Nm _ | simp) rfl) ?_; refine W_norm rfl ?_) | skip); (first | (refine W_le (Le.gatherBox (u := 100) (j := 2) (id := 105) rfl rfl rfl (by first | exact Nm _ | simp) rfl) ?_; refine W_norm rfl ?_) | skip); (first | (refine W_le (Le.gatherBox (u := 100) (j := 4) (id := 106) rfl rfl rfl (by first | exact Nm _ | simp) rfl) ?_; refine W_norm rfl ?_) | skip))
    refine W_le (Le.close (u := 100) 1100 Z Z Z) (nY Z (rT ?_));refine eP [_, _] ?_ ?_
    · rw [hdI]
      rfl
    · rw [hdo]
      refine blk2 ?_ hfin
      first | (simp [wC, advW, setT, T.ints, Af, T.bools, Ni, Nv]; done) | (rw [Nr, hset]; simp [wC, advW, setT, T.ints, Af, T.bools, Ni]; done)
  simp only [HS] at h4;refine sG (eZ Z ?_);refine iY (k := ?_);refine eK 3 Z (nB ?_);refine AD Z (fun h5 => ?_) (fun h5 => ?_)
  ·
    simp only [HS] at h5;refine sQ (nY Z ?_)
    have hk1 : A.kind = 1 := by omega
    have hJ0 : 0 ≤ at0 0 mv 2 := by rw [← hmj]; omega
    obtain ⟨⟨_, hJ1⟩, hIJ, hJw⟩ := hm.j.resolve_left (by omega)
    obtain ⟨j, hje⟩ : ∃ j, j = (at0 0 mv 2).toNat := ⟨_, rfl⟩
    have hjt : j < w.tasks.length := by omega
    have hij : ¬ j = i := by omega
    obtain ⟨u, hu⟩ : ∃ u, u = w.tasks[j]'hjt := ⟨_, rfl⟩
    obtain ⟨hj, hhj⟩ : ∃ hj, hj = hdr[j]'(by omega) := ⟨_, rfl⟩
    have hcj : (hdr.zip w.tasks)[j]? = some (hj, u) := by rw [hhj, hu]; exact Cv _ _
    have hum : u ∈ w.tasks := by rw [hu]; exact Nl _
    have huJ : tk w (at0 0 mv 2) = u := by rw [tk, AL hJ0 hJ1, hu]; simp only [hje]
    have hup := hgo.pos _ hum
    have hus : u.state = 0 := Classical.byContradiction fun hx => by rw [huJ] at hJw; unfold ways at hJw; rw [if_neg hx] at hJw; simp at hJw
    have hup1 := hup.2.1 hus
    have hnp : ¬ ((A.kind = 5 ∨ A.kind = 1) ∧ w.shut[A.chan.toNat]'(by omega) = true) := fun h => by first | omega | (simp_all; done) | (simp_all; omega)
    rw [if_neg hnp, if_neg (by omega), if_pos ⟨hk1, hJ0⟩, huJ] at hdW'
    have hdo := hdW'
    have hC2 : ((hdr.zip w.tasks).set j (hj, { u with last := A.n }))[j]? = some (hj, { u with last := A.n }) := E1 hcj
    have hp2 : 0 ≤ u.pos ∧ u.pos ≤ 1048576 := by omega
    have hl2 : u.acts.length ≤ 1048576 := by omega
    have hp1 : 0 ≤ t.pos ∧ t.pos ≤ 1048576 := by omega
    have hl1 : t.acts.length ≤ 1048576 := by omega
    have hC1 : (((hdr.zip w.tasks).set j (hj, { u with last := A.n })).set j (hj, advT { u with last := A.n }))[i]? = some (h, t) := by rw [List.getElem?_set_ne hij, List.getElem?_set_ne hij]; exact hc
    have hfin := KW hie hje hi0 hi1 hJ0 hJ1 hIJ hcj hc htI (n := A.n)
    refine DW 11 Ac Z (by kernel_rfl) (by kernel_rfl) (evQ ?_);refine AH Z (BQ rfl Z (AA Z) Z Z Z (evQ ?_));refine evQ ?_;refine evQ ?_;refine AP tys Z Z (AA Z) Z Z Z Z Z Z Z (by omega) _ (CM _ _ (by omega) (by omega)) (evQ ?_);refine AH Z ?_;rw [hmj];refine evQ ?_;refine evQ ?_;refine FZ tys Z Z (AA Z) Z Z Z Z Z Z (by omega) (by omega) ?_;rw [← hje];refine Ct tys Z Z (AA Z) Z Z Z Z Z (Aj (A5 (id := 101) (u0 := .int .i64 u.last) (u := .int .i64 A.n) tys Z Z Z Z Z Z Z (Cg hcj (by decide)) Z Z Z (nZ Z (WO_le (Le.eqK (id := 101) Z (D1 (c' := (hj, { u with last := A.n })) hcj (by decide) Z Z)) (nZ Z (nB (Ar [[], [], [], [], [], [], [], [], []] Ac (by kernel_rfl) (AZ (QG_ev tys Z Z (AA Z) Z (AF (AZ (B3 rfl Z (AA Z) Z Z Z (AF (AZ (QG_ev tys Z Z (AA Z) Z ?_)))))))))))))));refine AF (AZ (QG_ev tys Z Z (AA Z) Z (AF (AY Z (AZ (QG_ev tys Z Z (AA Z) Z (AF (AZ (C3 tys Z Z (AA Z) Z Z Z Z Z Z Z (by omega) _ (CM _ _ (by omega) (by omega)) (AF (AZ (QG_ev tys Z Z (AA Z) Z (AF (AZ ?_))))))))))))));rw [hmj];refine Lg tys Z Z (AA Z) Z Z Z Z Z Z (by omega) (by omega) ?_;rw [← hje];refine AF (AY Z ?_);refine Bn (rid := 99) [101] Z Z (AA Z) Z Z (by repeat (first | exact ResP.done | refine ResP.pin0 1101 Z ?_ | refine ResP.t ?_ | refine ResP.nil 1 ?_ | refine ResP.nil' ?_ | refine ResP.own ?_ | refine ResP.sl Z Z (by first | omega | (simp; omega)) ?_ | refine ResP.aggT (by repeat (first | exact ResP.done | refine ResP.t ?_)) ?_)) Z (by repeat (first | exact trivial | refine ⟨rfl, rfl, ?_⟩)) (by decide) (Bb bt (cap * 4) j _ hj _ hC2 hp2 hl2) Z Z Z ?_;refine Av ?_;refine ⟨by kernel_rfl, ?_⟩;refine nZ Z (oN (bN (tN (sQ ?_))))
    skip
    refine rG (eZ Z ?_);refine cP [101] (hm := (Bb bt (cap * 4) i _ h _ hC1 hp1 hl1)) (k := ?_);refine nZ Z (nA (eZ Z (nB ?_)))
    ((first | (refine W_le (Le.gatherBox (u := 100) (j := 1) (id := 104) rfl rfl rfl (by first | exact Nm _ | simp) rfl) ?_; refine W_norm rfl ?_) | skip); (first | (refine W_le (Le.gatherBox (u := 100) (j := 2) (id := 105) rfl rfl rfl (by first | exact Nm _ | simp) rfl) ?_; refine W_norm rfl ?_) | skip); (first | (refine W_le (Le.gatherBox (u := 100) (j := 4) (id := 106) rfl rfl rfl (by first | exact Nm _ | simp) rfl) ?_; refine W_norm rfl ?_) | skip))
    refine W_le (Le.close (u := 100) 1100 Z Z Z) (nY Z (rT ?_));refine eP [_, _] ?_ ?_
    · rw [hdI]
      rfl
    · rw [hdo]
      refine blk2 ?_ hfin
      first | (simp [wC, advW, setT, T.ints, Af, T.bools, Ni, Nv]; done) | (rw [Nr, hset]; simp [wC, advW, setT, T.ints, Af, T.bools, Ni]; done)
  simp only [HS] at h5;refine nY Z ?_
  have hk1 : A.kind = 1 := by omega
  have hJ0 : ¬ 0 ≤ at0 0 mv 2 := by rw [← hmj]; omega
  have hnp : ¬ ((A.kind = 5 ∨ A.kind = 1) ∧ w.shut[A.chan.toNat]'(by omega) = true) := fun h => by first | omega | (simp_all; done) | (simp_all; omega)
  rw [if_neg hnp, if_neg (by omega), if_neg (fun e => hJ0 e.2), if_pos hk1, hhc, ← hle] at hdW'
  have hdo := hdW'
  have hC1 := hc
  have hp1 : 0 ≤ t.pos ∧ t.pos ≤ 1048576 := by omega
  have hl1 : t.acts.length ≤ 1048576 := by omega
  have hfin := FT (W1 := { w with held := w.held.set A.chan.toNat (hl ++ [A.n]) }) hie hc htI
  refine Dv (id := 104) (i := A.chan.toNat) (off := 0) 107 Z hz Z Z Z (fun ad cp => ?_);refine nY Z (Ar [[107], [107], [107], [107], [107], [107], [], [], [], [], [], [], [], [], [107], [107], [107], [], [], []] Ac (by kernel_rfl) (A9 (QG_ev tys Z Z (AA Z) Z (AF (A9 (B3 rfl Z (AA Z) Z Z Z (AF (A9 (QG_ev tys Z Z (AA Z) Z (AF (A9 (QG_ev tys Z Z (AA Z) Z (AF (AY Z (A9 ?_)))))))))))))));refine QG_ev tys Z Z (AA Z) Z (AF (A9 (QG_ev tys Z Z (AA Z) Z (AF (AZ (QG_ev tys Z Z (AA Z) Z (AF (AZ (B3 rfl Z (AA Z) Z Z Z (AF (AY Z (AZ (QG_ev tys Z Z (AA Z) Z (AF (AZ ?_)))))))))))))));refine QG_ev tys Z Z (AA Z) Z (AF (AZ (QG_ev tys Z Z (AA Z) Z (AF (AZ (QG_ev tys Z Z (AA Z) Z (AF (AY Z (AZ (Ce tys Z Z (AA Z) Z Z Z Z Z Z Z Z hAc0 (by first | (rw [Nj]; omega) | (rw [Ns, Nj]; omega)) ?_))))))))));refine AF ?_;refine Dx tys 107 Z Z (AA Z) Z Z Z Z (by rw [N5]; exact List.getElem?_set_self (by rw [Nj]; omega)) Z Z ?_;refine A9 (QG_ev tys Z Z (AA Z) Z (AF (A9 (QG_ev tys Z Z (AA Z) Z (AF (AY Z (A9 ?_)))))));refine BC tys [T.int A.n] Z Z (AA Z) Z Z Z Z Z (AA Z) (by repeat (first | exact PartsOk.nil' | refine PartsOk.cons' rfl (by repeat (first | exact AbsL.nil' | refine AbsL.v' ?_ | refine AbsL.own' ?_ | refine AbsL.none' ?_)) Z ?_)) Z Z Z (by decide) ?_;refine AF (AZ (B7 tys Z Z (AA Z) Z Z Z Z Z Z Z Z Z ((fun x hx => by rw [OE] at hx; subst hx; exact ⟨rfl, fun z hz => ⟨_, by simpa [T.cells] using hz⟩⟩)) (by simp; omega) (by decide) Z ?_));refine AF (AZ (Ce tys Z Z (AA Z) Z Z Z Z Z Z Z Z hAc0 (by first | (rw [Nj]; omega) | (rw [Ns, Nj]; omega)) ?_));refine AF ?_;refine Fc tys [.list 1 (hl.map T.int ++ [T.int A.n])] Z Z Z Z Z Z (by rw [N5]; exact List.getElem?_set_self (by rw [Nj]; omega)) Z Z (AbsL.own' AbsL.nil') Z (by decide) (N3 Z) ?_;refine AY Z (Av ?_);refine ⟨by kernel_rfl, ?_⟩;refine nZ Z (WO_le (Le.sameL (id := 104) (ys := (w.held.set A.chan.toNat (hl ++ [A.n])).map T.ints) Z (held_same (by show [T.list 1 _] = [T.list 1 _]; rw [OU]; rfl)) (by simp) held_cells) ?_);refine nZ Z (oN (bN (tN (sQ ?_))))
  skip
  refine rG (eZ Z ?_);refine cP [101] (hm := (Bb bt (cap * 4) i _ h _ hC1 hp1 hl1)) (k := ?_);refine nZ Z (nA (eZ Z (nB ?_)))
  ((first | (refine W_le (Le.gatherBox (u := 100) (j := 1) (id := 104) rfl rfl rfl (by first | exact Nm _ | simp) rfl) ?_; refine W_norm rfl ?_) | skip); (first | (refine W_le (Le.gatherBox (u := 100) (j := 2) (id := 105) rfl rfl rfl (by first | exact Nm _ | simp) rfl) ?_; refine W_norm rfl ?_) | skip); (first | (refine W_le (Le.gatherBox (u := 100) (j := 4) (id := 106) rfl rfl rfl (by first | exact Nm _ | simp) rfl) ?_; refine W_norm rfl ?_) | skip))
  refine W_le (Le.close (u := 100) 1100 Z Z Z) (nY Z (rT ?_));refine eP [_, _] ?_ ?_
  · rw [hdI]
    rfl
  · rw [hdo]
    refine blk2 ?_ hfin
    first | (simp [wC, advW, setT, T.ints, Af, T.bools, Ni, Nv]; done) | (rw [Nr, hset]; simp [wC, advW, setT, T.ints, Af, T.bools, Ni]; done)
open Go.Eng
section
variable {P : Program} {c : Ctx} {s : St} {Q : Exit → St → Prop} {ops : Array Oper}
theorem Jh {l : List Oper} {id b sz : Nat} {vs : List Value} {ts : List T} {p : Prop} (hM : lookM s.M id = some (.raw b sz vs ts)) (h : ∀ w bs, OwnL w vs ts bs → p) (k : p → WO P c ops l s Q) : WO P c ops l s Q := by
 intro a w hi
 obtain ⟨F, β, fb, mb, ow, hc⟩ := hi
 have hm := hc.mem id
 rw [hM] at hm
 obtain ⟨arr, e, bs', h1, h2, h3, h4, h5⟩ := hm
 exact k (h _ _ h4) a w ⟨F, β, fb, mb, ow, hc⟩
end
theorem Kp {w : Go.World} : ∀ {l : List Task} {ws : List Value} {bs : List Nat}, OwnL w ws ((l.map Task.tt).flatMap T.cells) bs → ∃ hdr : List (Option Addr × Nat), hdr.length = l.length ∧ ws = tcsW (hdr.zip l)
 | [], ws, bs, h => by
  cases ws with
  | nil => exact ⟨[], rfl, rfl⟩
  | cons _ _ => cases h
 | t :: l, ws, bs, h => by
  rw [OA, Nt] at h;change OwnL w ws (T.Acts t.acts :: T.int t.pos :: T.int t.state :: T.int t.last :: (l.map Task.tt).flatMap T.cells) bs at h
  match ws, h with
  | v0 :: ws, h =>
   obtain ⟨b1, b2, h1, h2, _⟩ := h.cons
   match ws, h2 with
   | v1 :: ws, h2 =>
    obtain ⟨b3, b4, h3, h4, _⟩ := h2.cons
    match ws, h4 with
    | v2 :: ws, h4 =>
     obtain ⟨b5, b6, h5, h6, _⟩ := h4.cons
     match ws, h6 with
     | v3 :: ws, h6 =>
      obtain ⟨b7, b8, h7, h8, _⟩ := h6.cons
      obtain ⟨hdr, g1, g2⟩ := Kp h8
      have e0 : ∃ ad cap, v0 = .slice ad t.acts.length cap := by
       generalize hx : T.Acts t.acts = x at h1
       cases h1 with
       | v _ _ => cases hx
       | none _ =>
        have := (T.list.inj hx).2
        rw [List.map_eq_nil_iff] at this;exact ⟨_, _, by rw [this]; rfl⟩
       | list _ _ _ _ _ _ _ _ =>
        have := congrArg List.length (T.list.inj hx).2
        rw [Nj] at this;exact ⟨_, _, by rw [this]⟩
      obtain ⟨ad, cap, rfl⟩ := e0
      have e1 : v1 = .int .i64 t.pos := by cases h3; rfl
      have e2 : v2 = .int .i64 t.state := by cases h5; rfl
      have e3 : v3 = .int .i64 t.last := by cases h7; rfl
      subst e1 e2 e3 g2;exact ⟨(ad, cap) :: hdr, by simp [g1], rfl⟩
theorem Mp {w : World} {mv : List Int} (hg : GW w) : doI w mv = GA w mv := by
 have h := hg.trace
 have a1 : ∀ (w : World) i t, (setT w i t).trace = w.trace := fun _ _ _ => rfl
 have a2 : ∀ (w : World) i, (advW w i).trace = w.trace := fun _ _ => rfl
 unfold doI GA doW
 by_cases h3 : (Ax w mv).kind = 3
 ·rw [if_pos h3, a2]
  by_cases h4 : w.trace.length = 120
  ·simp [h3, h4]
  ·have : w.trace.length + 1 ≤ 120 := by omega
   simp [h3, h4, this]
 ·rw [if_neg h3]
  have : w.trace.length ≤ 120 := by omega
  split <;> first | (simp [h3, a1, a2, this]; done) | skip
  split <;> first | (simp [h3, a1, a2, this]; done) | skip
  split <;> first | (simp [h3, a1, a2, this]; done) | skip
  split <;> first | (simp [h3, a1, a2, this]; done) | skip
  split <;> (simp [h3, a1, a2, this]; done)
theorem Bo (w : World) (mv : List Int) : (doW w mv).tasks.length = w.tasks.length := by
 have a1 : ∀ (w : World) i t, (setT w i t).tasks.length = w.tasks.length := fun _ _ _ => Ns
 have a2 : ∀ (w : World) i, (advW w i).tasks.length = w.tasks.length := fun _ _ => Ns
 unfold doW
 split <;> first | (simp only [a1, a2]; done) | skip
 split <;> first | (simp only [a1, a2]; done) | skip
 split <;> first | (simp only [a1, a2]; done) | skip
 split <;> first | (simp only [a1, a2]; done) | skip
 split <;> first | (simp only [a1, a2]; done) | skip
 split <;> (simp only [a1, a2]; done)
theorem NL (w : World) (mv : List Int) : (doR w mv).tasks.length = w.tasks.length := by
 unfold doR; split
 ·exact Bo w mv
 ·rfl
def world0 : World := ⟨[], [], [], [], []⟩
def Dq (l : List (List Int)) (mv : List Int) : Bool := l.any fun m => decide (m = mv)
def Fh (w : World) (mv : List Int) : Bool := AC w && (Dq (Al w) mv && GA w mv)
def dmR (w : World) (mv : List Int) : World := if Fh w mv then doW w mv else world0
abbrev World.dd (w : World) : D := .agg [.own (T.ints w.room), .own (Af w.held), .own (T.bools w.shut), .own (T.Tasks w.tasks), .own (T.ints w.trace)]
theorem dm_yes {w : World} {mv : List Int} (hg : AC w = true) (hh : Dq (Al w) mv = true) (hd : GA w mv = true) : [(doR w mv).dd, D.t (T.v (.bool true))] = [(dmR w mv).dd, D.t (T.bool (Fh w mv))] := by
 have h : Fh w mv = true := by simp [Fh, hg, hh, hd]
 have h2 : doI w mv = true := (Mp (gw_iff.1 hg)).trans hd
 rw [dmR, h, doR, h2]; rfl
theorem NP {w : World} {mv : List Int} (h : Fh w mv = false) : [world0.dd, D.t (T.v (.bool false))] = [(dmR w mv).dd, D.t (T.bool (Fh w mv))] := by
 rw [dmR, h]; rfl
theorem Eo {w : World} {mv : List Int} (h : Dq (Al w) mv = true) : Ll w mv := by
 unfold Dq at h;rw [OJ] at h
 obtain ⟨m, h1, h2⟩ := h
 rw [← of_decide_eq_true h2];exact En h1
theorem Fs {a b : List Int} {k : Int} (h0 : 0 ≤ k) (ha : k < a.length) (hb : k < b.length) : a.take (k + 1).toNat = b.take (k + 1).toNat ↔ a.take k.toNat = b.take k.toNat ∧ a[k.toNat]'(by omega) = b[k.toNat]'(by omega) := by
 rw [show (k + 1).toNat = k.toNat + 1 from by omega, List.take_succ_eq_append_getElem (by omega), List.take_succ_eq_append_getElem (by omega)]
 constructor
 ·intro h
  have := List.append_inj h (by simp; omega)
  exact ⟨this.1, by simpa using this.2⟩
 ·rintro ⟨h1, h2⟩
  rw [h1, h2]
theorem DT (a b : List Int) (ha : a.length ≤ 1073741824) (hb : b.length ≤ 1073741824) : Fun Try.prog 30 [.t (T.ints a), .t (T.ints b)] (tupD [.t (.bool (decide (a = b)))]) := by
 refine Fun.begin tys Try.func30 Z Z (N := 26) [(0, .t (T.ints a)), (1, .t (T.ints b))] Z Z (fun w0 G F0 => ?_);refine sG (eZ Z (nB (sQ (sG (eZ Z (evE ?_))))));refine eZ Z (evE ?_);refine eZ Z (nB ?_);refine AD Z (fun h1 => ?_) (fun h1 => ?_)
 ·
  simp only [HS] at h1;refine sG (eZ Z (nB (rT (tR (eR ?_)))))
  ·first
   | (rw [show decide (a = b) = false from decide_eq_false (fun e => by subst e; simp_all)]; done)
 simp only [HS] at h1;refine AE (tN (sQ (sG (eZ Z (evE ?_)))));refine eZ Z (kZ [0,1,4,12,13] Z (nB (AG ?_)));refine lK (α := Int) [0, 1, 12] [] (fun x => [(13, .t (.int x))]) (fun x => []) (fun x => 0 ≤ x ∧ x ≤ a.length ∧ a.take x.toNat = b.take x.toNat) (fun x => Int.toNat (a.length - x)) 0 ?_ (fun k hx => ?_)
 ·exact ⟨by omega, by omega, rfl⟩
 obtain ⟨hk0, hk1, hk2⟩ := hx
 refine nY Z (sG (eZ Z (nB (sQ ?_))));refine AD Z (fun h2 => ?_) (fun h2 => ?_)
 ·
  simp only [HS] at h2;refine AE (tN (sQ (AG (sG (eK 2 Z (nB (sQ (AV Ac (by kernel_rfl) (evQ ?_)))))))));refine evQ ?_;refine AP tys Z Z (AA Z) Z Z Z Z Z Z Z (by omega) _ (CM _ _ (by omega) (by omega)) (AH Z (evQ ?_));refine evQ ?_;refine evQ ?_;refine AP tys Z Z (AA Z) Z Z Z Z Z Z Z (by omega) _ (CM _ _ (by omega) (by omega)) (evQ ?_);refine evQ ?_;refine AH Z (Aj (tN ?_));refine AD Z (fun h3 => ?_) (fun h3 => ?_)
  ·
   simp only [HS] at h3;refine sG (eZ Z (nB (rT (bR (tR (AU (bR (tR (eR ?_)))))))))
   ·first
    | (rw [show decide (a = b) = false from decide_eq_false (fun e => by subst e; simp_all)]; done)
  simp only [HS] at h3;refine AE (bN (tN (rG (evI ?_))));refine eZ Z (oN ?_);refine lQ _ ?_ ?_
  ·skip
   exact ⟨by omega, by omega, (Fs hk0 (by omega) (by omega)).2 ⟨hk2, by simp_all⟩⟩
  ·(show Int.toNat _ < Int.toNat _); omega
 simp only [HS] at h2;refine AR (tE (AO (AN (tN (sG (eZ Z (nB (rT (eR ?_)))))))))
 ·first
  | (rw [show decide (a = b) = true from decide_eq_true (by rw [Ni (by omega), Ni (by omega)] at hk2; exact hk2)]; done)
theorem Ia (l : List (List Int)) (p : List Int → Bool) (f : Nat) (caps : List D) (hcaps : caps.all D.imm = true) (hl : l.length ≤ 9223372036854775807) (hf : ∀ x, x ∈ l → Fun Try.prog f (.t (T.ints x) :: caps) (.t (.bool (p x)))) : Fun Try.prog 69 [.t (Af l), .clo f caps] (tupD [.t (.int (C6 p l 0))]) := by
 refine Fun.begin tys Try.func69 Z Z (N := 19) [(0, .t (Af l)), (1, .clo f caps)] Z Z (fun w0 G F0 => ?_);refine sG (eZ Z (nB (sQ (sG (eZ Z (evE ?_))))));refine eZ Z (nB (AG ?_));refine lK (α := Int) [0, 1, 7] [] (fun x => [(8, .t (.int x))]) (fun x => []) (fun x => 0 ≤ x ∧ x ≤ l.length ∧ C6 p l 0 = C6 p (l.drop x.toNat) x) (fun x => Int.toNat (l.length - x)) 0 ?_ (fun k hx => ?_)
 ·exact ⟨by omega, by omega, rfl⟩
 obtain ⟨hk0, hk1, hk2⟩ := hx
 refine nY Z (sG (eZ Z (nB (sQ ?_))));refine AD Z (fun h1 => ?_) (fun h1 => ?_)
 ·
  simp only [HS] at h1;refine AE (tN (sQ (AG (sG (eK 2 Z (nA (BJ tys Z Z (AA Z) Z Z (by assumption) ?_)))))));refine eK 2 Z ?_;refine iY (k := ?_);refine eZ Z ?_;refine CK Z Z (AA Z) Z Z (by repeat (first | exact ResL.done | exact ResL.imms (by first | rfl | assumption) | refine ResL.t ?_ | refine ResL.own ?_ | refine ResL.slA Z (by first | rfl | (simp; done) | (simp; omega)) ?_ | refine ResL.sl Z (by first | omega | (simp; done) | (simp; omega)) ?_ | refine ResL.rp ?_ | refine ResL.clo ?_ ?_ | refine ResL.aggT ?_ ?_ | refine ResL.ref Z ?_ ?_ | refine ResL.nil' ?_ | refine ResL.nil 1 ?_)) (hf _ (Nl _)) Z ?_;refine kZ [0,1,5,7,8,9,10,11,12,13,14,15,16] Z (nB ?_);refine AD Z (fun h2 => ?_) (fun h2 => ?_)
  ·
   refine sG (eK 2 Z (nB (rT (bR (tR (AU (bR (tR (eR ?_)))))))))
   ·rw [hk2, Ef hk0 h1]
    simp [h2]
    done
  refine AE (bN (tN (rG (evI ?_))));refine eZ Z (oN ?_);refine lQ _ ?_ ?_
  ·skip
   refine ⟨by omega, by omega, ?_⟩; rw [hk2, Ef hk0 h1]; simp [h2]
  ·(show Int.toNat _ < Int.toNat _); omega
 simp only [HS] at h1;refine AR (tE (AO (AN (tN (sG (eZ Z (nB (rT (eR ?_)))))))))
 ·rw [hk2, BB h1]
  rfl
theorem Ic (l : List (List Int)) (p : List Int → Bool) (f : Nat) (caps : List D) (hcaps : caps.all D.imm = true) (hl : l.length ≤ 9223372036854775807) (hf : ∀ x, x ∈ l → Fun Try.prog f (.t (T.ints x) :: caps) (.t (.bool (p x)))) : Fun Try.prog 27 [.t (Af l), .clo f caps] (tupD [.t (.bool (l.any p))]) := by
 refine Fun.begin tys Try.func27 Z Z (N := 9) [(0, .t (Af l)), (1, .clo f caps)] Z Z (fun w0 G F0 => ?_);refine sG (eZ Z (nA (eZ Z (BJ tys Z Z (AA Z) Z Z (by assumption) ?_))));refine CK Z Z (AA Z) Z Z (by repeat (first | exact ResL.done | exact ResL.imms (by first | rfl | assumption) | refine ResL.t ?_ | refine ResL.own ?_ | refine ResL.slA Z (by first | rfl | (simp; done) | (simp; omega)) ?_ | refine ResL.sl Z (by first | omega | (simp; done) | (simp; omega)) ?_ | refine ResL.rp ?_ | refine ResL.clo ?_ ?_ | refine ResL.aggT ?_ ?_ | refine ResL.ref Z ?_ ?_ | refine ResL.nil' ?_ | refine ResL.nil 1 ?_)) (Ia l p f caps hcaps hl hf) Z ?_;refine eK 2 Z (nB (rT (eR ?_)))
 ·rw [← DL (OZ 0)]
theorem Il (m mv : List Int) (h1 : m.length ≤ 1073741824) (h2 : mv.length ≤ 1073741824) : Fun Try.prog 29 [.t (T.ints m), .rp (.agg [T.ints mv]) 0] (tupD [.t (.bool (decide (m = mv)))]) := by
 refine Fun.begin tys Try.func29 Z Z (N := 7) [(0, .t (T.ints m)), (1, .rp (.agg [T.ints mv]) 0)] Z Z (fun w0 G F0 => ?_);refine sG (eZ Z (nA (eK 2 Z (AQ ?_))));refine ⟨_, DT m mv h1 h2, rfl, ?_⟩;refine eZ Z (nB (rT (eR ?_)))
 ·rfl
theorem J3 (w : World) (mv : List Int) (hw : w.ok 1048576) (hw' : w.ok 9223372036854775807) (hmv : mv.length ≤ 1073741824) : Fun Try.prog 6 [.t w.tt, .t (T.ints mv)] (tupD [.agg [.own (T.ints (dmR w mv).room), .own (Af (dmR w mv).held), .own (T.bools (dmR w mv).shut), .own (T.Tasks (dmR w mv).tasks), .own (T.ints (dmR w mv).trace)], .t (.bool (Fh w mv))]) := by
  have hw4 : w.tasks.length ≤ 1048576 := hw.2.2.2.1.1
  refine Fun.begin tys Try.func6 Z Z (N := 25) [(0, .t w.tt), (1, .t (T.ints mv))] Z Z (fun w0 G F0 => ?_);refine sG (Aa Z Z (AA Z) Z Z (nZ Z (Aa Z Z (AA Z) Z Z (nZ Z (AK tys Z Z (AA Z) Z Z Z (nZ Z (eZ Z (nB (sQ (sG (eZ Z ?_)))))))))))
  try refine WO_le (Le.freeze (u := 7) rfl) ?_
  refine nZ Z (AQ ?_);refine ⟨_, CR w hw hw', rfl, ?_⟩;refine eK 2 Z ?_;refine gB (fun h1 => ?_) (fun h1 => ?_)
  ·
    simp only [HS] at h1;refine xZ Z (kZ [2,3,4,5,10,12] Z (xK 4 Z (nB (AS Z (sG (Ag tys Z Z (AA Z) Z Z Z (by kernel_rfl) Z Z Z Z Z Z (sT Z (nZ Z (eZ Z (nB ?_))))))))))
    (first | (refine W_le (Le.nilBox (u := 4) (j := 0) 1 rfl rfl) ?_; refine W_norm rfl ?_; refine W_le (Le.nilBox (u := 4) (j := 1) 1 rfl rfl) ?_; refine W_norm rfl ?_; refine W_le (Le.nilBox (u := 4) (j := 2) 1 rfl rfl) ?_; refine W_norm rfl ?_; refine W_le (Le.nilBox (u := 4) (j := 3) 4 rfl rfl) ?_; refine W_norm rfl ?_; refine W_le (Le.nilBox (u := 4) (j := 4) 1 rfl rfl) ?_; refine W_norm rfl ?_) | skip)
    refine rT (tR (eR ?_))
    · first
      | exact NP (by unfold Fh Dq; first | (simp_all; done) | (rw [Bool.eq_false_iff]; intro g; simp only [Nk] at g; simp_all; done) | grind)
  simp only [HS] at h1;refine eZ Z ?_
  try refine WO_le (Le.freeze (u := 11) rfl) ?_
  refine nZ Z (gY Z ?_)
  have hg : AC w = true := by simp_all
  have hlf := movesOf_four (good_of hg)
  refine AQ ?_;refine ⟨_, Dm w (good_of hg), rfl, ?_⟩;refine WO_le (Le.adoptE (u := 12) 12 Z (by first | exact He | exact Z)) ?_;refine nZ Z (kZ [2,3,4,5,10,12] Z (xZ Z (gY Z (AQ ?_))));refine ⟨_, Ic (Al w) (fun m => decide (m = mv)) _ [.rp (.agg [T.ints mv]) 0] Z (by have := hlf.1; omega) (fun x hx => Il x mv (by have := hlf.2 x hx; omega) hmv), rfl, ?_⟩;refine xK 2 Z (nB ?_);refine AD Z (fun h2 => ?_) (fun h2 => ?_)
  ·
    simp only [HS] at h2;refine sG (Ag tys Z Z (AA Z) Z Z Z (by kernel_rfl) Z Z Z Z Z Z (sT Z (nZ Z (eZ Z (nB ?_)))))
    (first | (refine W_le (Le.nilBox (u := 4) (j := 0) 1 rfl rfl) ?_; refine W_norm rfl ?_; refine W_le (Le.nilBox (u := 4) (j := 1) 1 rfl rfl) ?_; refine W_norm rfl ?_; refine W_le (Le.nilBox (u := 4) (j := 2) 1 rfl rfl) ?_; refine W_norm rfl ?_; refine W_le (Le.nilBox (u := 4) (j := 3) 4 rfl rfl) ?_; refine W_norm rfl ?_; refine W_le (Le.nilBox (u := 4) (j := 4) 1 rfl rfl) ?_; refine W_norm rfl ?_) | skip)
    refine rT (tR (eR ?_))
    · first
      | exact NP (by unfold Fh Dq; first | (simp_all; done) | (rw [Bool.eq_false_iff]; intro g; simp only [Nk] at g; simp_all; done) | grind)
  simp only [HS] at h2;refine AE (tN (sG (eZ Z ?_)))
  try refine WO_le (Le.freeze (u := 18) rfl) ?_
  refine nZ Z (AQ ?_);refine ⟨_, Fo w hw, rfl, ?_⟩;refine AK tys Z Z (AA Z) Z Z Z (nZ Z (sT Z (nZ Z (nB (sQ (sQ (kY [3,4,5,6] Z (rG (eZ Z ?_)))))))))
  have hhas : Dq (Al w) mv = true := by unfold Dq; simp_all
  have hm := Eo hhas
  have hgw := gw_iff.1 hg
  have htl := hgw.tasks
  refine BV (u := 6) (idp := 133) (j := 3) Z Z Z (fun v => ?_);refine nZ Z ?_;refine Ec (id := 133) (j := 0) (id2 := 101) (n := 4) (u := v) (xs := w.tasks.map Task.tt) Z Z Z Z Z (fun e ad bt cap ws hu hb he hlc hcm hn => ?_)
  obtain rfl : e = false := by
   cases e with
   | false => rfl
   | true =>
    have := he rfl
    rw [List.map_eq_nil_iff] at this;rw [this] at htl
    simp at htl
  obtain rfl : ad = some ⟨bt, 0, none⟩ := hb rfl
  subst hu;refine nZ Z ?_;refine Jh (id := 101) Z (fun _ _ => Kp) (fun htc => ?_)
  obtain ⟨hdr, hh, rfl⟩ := htc
  refine WO_le (Le.eqK (id := 101) (k' := .raw bt (cap * 4) (tcsW (hdr.zip w.tasks)) (tcsT (hdr.zip w.tasks))) Z (by rw [← Ej hh])) ?_;refine nZ Z ?_;refine Mu (u := 6) (pid := 1006) Z Z (fun bw => ?_);refine nZ Z (WO_le (Le.roNil 99) ?_)
  have hlc' : w.tasks.length ≤ cap := by rw [Nj] at hlc; exact hlc
  rw [Nj]
  have hI := Mp (mv := mv) hgw
  have hrl : (doR w mv).tasks.length = w.tasks.length := NL w mv
  refine WO_le (Le.close (u := 6) 1006 Z Z Z) (nZ Z ?_);refine cP [6,101] (hm := (NN bw bt cap w hdr mv hg hm hh hlc')) (k := ?_);refine nZ Z (WO_le (Le.open (u := 6) 1006 Z Z Z Z) (nZ Z (nZ Z (WO_le (Le.eqK (id := 101) (k' := rb false bt (cap * 4) (tcsW (hdr.zip (doR w mv).tasks)) (((doR w mv).tasks.map Task.tt).flatMap T.cells)) Z (by rw [Ej (hh.trans hrl.symm)]; rfl)) ?_))));refine nZ Z (WO_le (Le.implode (id := 133) (id2 := 101) (j := 0) (n := 4) (e := false) (b := bt) (cap := cap) (ad := some ⟨bt, 0, none⟩) (len := w.tasks.length) (u := .slice (some ⟨bt, 0, none⟩) w.tasks.length cap) (ws := tcsW (hdr.zip (doR w mv).tasks)) (ys := (doR w mv).tasks.map Task.tt) Z Z Z Z Z Z (fun _ => rfl) (fun h => by cases h) (by rw [Nj, hrl]) hlc' hcm tasks_cells Z) ?_);refine nZ Z (WO_le (Le.claimBox (u := 6) (idp := 133) (j := 3) Z Z Z Z) (nZ Z (eZ Z (nB ?_))));refine AD Z (fun h3 => ?_) (fun h3 => ?_)
  ·
    simp only [HS] at h3;refine sG (Ag tys Z Z (AA Z) Z Z Z (by kernel_rfl) Z Z Z Z Z Z (sT Z (nZ Z (eZ Z (nB ?_)))))
    (first | (refine W_le (Le.nilBox (u := 4) (j := 0) 1 rfl rfl) ?_; refine W_norm rfl ?_; refine W_le (Le.nilBox (u := 4) (j := 1) 1 rfl rfl) ?_; refine W_norm rfl ?_; refine W_le (Le.nilBox (u := 4) (j := 2) 1 rfl rfl) ?_; refine W_norm rfl ?_; refine W_le (Le.nilBox (u := 4) (j := 3) 4 rfl rfl) ?_; refine W_norm rfl ?_; refine W_le (Le.nilBox (u := 4) (j := 4) 1 rfl rfl) ?_; refine W_norm rfl ?_) | skip)
    refine rT (tR (eR ?_))
    · first
      | exact NP (by unfold Fh; rw [hg, hhas, ← hI]; simp_all)
  simp only [HS] at h3;refine AE (tN (sG (A7 tys Z Z (AA Z) Z Z Z Z Z Z (nZ Z (sT Z (nZ Z (eZ Z (nB ?_))))))))
  (first | (refine W_le (Le.nilBox (u := 4) (j := 0) 1 rfl rfl) ?_; refine W_norm rfl ?_; refine W_le (Le.nilBox (u := 4) (j := 1) 1 rfl rfl) ?_; refine W_norm rfl ?_; refine W_le (Le.nilBox (u := 4) (j := 2) 1 rfl rfl) ?_; refine W_norm rfl ?_; refine W_le (Le.nilBox (u := 4) (j := 3) 4 rfl rfl) ?_; refine W_norm rfl ?_; refine W_le (Le.nilBox (u := 4) (j := 4) 1 rfl rfl) ?_; refine W_norm rfl ?_) | skip)
  refine rT (eR ?_)
  · first
    | exact dm_yes hg hhas (by rw [← hI]; assumption)
open Go.Eng
inductive All2 {α β : Type} (p : α → β → Prop) : List α → List β → Prop
 | nil : All2 p [] []
 | cons {a b l m} : p a b → All2 p l m → All2 p (a :: l) (b :: m)
theorem All2.len {α β : Type} {p : α → β → Prop} {l : List α} {m : List β} (h : All2 p l m) : l.length = m.length := by
 induction h with
 | nil => rfl
 | cons _ _ ih => simp [ih]
theorem All2.at {α β : Type} {p : α → β → Prop} {l : List α} {m : List β} (h : All2 p l m) : ∀ {i : Nat} (h1 : i < l.length) (h2 : i < m.length), p l[i] m[i] := by
 induction h with
 | nil => intro i h1; simp at h1
 | cons h _ ih =>
  intro i h1 h2
  cases i with
  | zero => exact h
  | succ i => exact ih (by simpa using h1) (by simpa using h2)
theorem All2.left {α β : Type} {p : α → β → Prop} {l : List α} {m : List β} (h : All2 p l m) : ∀ {a}, a ∈ l → ∃ b, b ∈ m ∧ p a b := by
 induction h with
 | nil => intro a h; cases h
 | cons h _ ih =>
  intro a ha
  rcases N2.1 ha with rfl | ha
  ·exact ⟨_, OP .., h⟩
  ·obtain ⟨b, h1, h2⟩ := ih ha
   exact ⟨b, OB _ h1, h2⟩
def TCase (z : T) (b : Act) : Prop := b.cases = [] ∧ ∃ a c, z = .agg [T.int b.kind, T.int b.chan, T.int b.n, .v (.slice a 0 c)]
def TAct (y : T) (a : Act) : Prop := ∃ zs, y = .agg [T.int a.kind, T.int a.chan, T.int a.n, .list 4 zs] ∧ All2 TCase zs a.cases
def CN (x : T) (l : List Act) : Prop := ∃ ys, x = .list 4 ys ∧ All2 TAct ys l
def ttT (p : T × Task) : T := .agg [p.1, T.int p.2.pos, T.int p.2.state, T.int p.2.last]
abbrev ttW (w : World) (xs : List T) : T := .agg [T.ints w.room, Af w.held, T.bools w.shut, .list 4 ((xs.zip w.tasks).map ttT), T.ints w.trace]
abbrev ddW (w : World) (xs : List T) : D := .agg [.own (T.ints w.room), .own (Af w.held), .own (T.bools w.shut), .own (.list 4 ((xs.zip w.tasks).map ttT)), .own (T.ints w.trace)]
theorem Hy {zs : List T} {l : List Act} (h : All2 TCase zs l) : ∀ x, x ∈ zs → (T.cells x).length = 4 ∧ ∀ y, y ∈ T.cells x → ∃ v, y = .v v := by
 intro x hx
 obtain ⟨b, _, _, a, c, rfl⟩ := h.left hx
 refine ⟨rfl, fun y hy => ?_⟩
 simp [T.cells] at hy
 rcases hy with rfl | rfl | rfl | rfl <;> exact ⟨_, rfl⟩
theorem Cn (l : List Int) (hl : l.length ≤ 1073741824) : Fun Try.prog 79 [.t (T.ints l)] (tupD [.own (T.ints l)]) := by
 refine Fun.begin tys Try.func79 Z Z (N := 6) [(0, .t (T.ints l))] Z Z (fun w0 G F0 => ?_);refine sG (eZ Z (nA (bZ [] ?_)));refine nZ Z (eZ Z (Ab tys Z Z (AA Z) Z Z Z Z Z (.own Z (by first | omega | (simp only [Nu]; omega))) Z (.read (Ma l)) (by decide) (by simp; omega) (by decide) Z ?_));refine nZ Z (eZ Z (nB (W_le (Le.gather (u := 2) (id := 3) Z Z (by simp)) ?_)));refine rT (eR ?_)
 ·(simp only [List.take_append, N8, List.nil_append, N6, N5, List.take_nil, Nat.sub_zero]; rfl)
theorem Jy (k c n : Int) (zs : List T) (hl : zs.length ≤ 1048576) (hz : ∀ x, x ∈ zs → (T.cells x).length = 4 ∧ ∀ y, y ∈ T.cells x → ∃ v, y = .v v) : Fun Try.prog 82 [.t (.agg [T.int k, T.int c, T.int n, .list 4 zs])] (tupD [.agg [.t (T.int k), .t (T.int c), .t (T.int n), .own (.list 4 zs)]]) := by
 refine Fun.begin tys Try.func82 Z Z (N := 9) [(0, .t (.agg [T.int k, T.int c, T.int n, .list 4 zs]))] Z Z (fun w0 G F0 => ?_);refine sG (Aa Z Z (AA Z) Z Z (nZ Z (AK tys Z Z (AA Z) Z Z Z (nZ Z (nA (bZ [] ?_))))));refine nZ Z (eK 2 Z (Ab tys Z Z (AA Z) Z Z Z Z Z (.own Z (by first | omega | (simp only [Nu]; omega))) Z (.read hz) (by decide) (by simp; omega) (by decide) Z ?_));refine nZ Z (WO_le (Le.gather (u := 6) (id := 3) Z Z (by first | (simp; done) | (simp; omega) | omega)) ?_);refine nZ Z (eZ Z (sT Z (nZ Z (nB (sQ (kY [1,2] Z (rG (A7 tys Z Z (AA Z) Z Z Z Z Z Z (nZ Z (sT Z (nZ Z (nB (rT (eR ?_))))))))))))))
 ·simp only [List.take_append, N8, List.nil_append, N6, N5, List.take_nil, Nat.sub_zero]
theorem Gd (w : World) (xs : List T) (hw : w.ok 1048576) (hx : All2 CN xs (w.tasks.map Task.acts)) : Fun Try.prog 46 [.t (ttW w xs)] (tupD [ddW w xs]) := by
 have hw1 : w.room.length ≤ 1048576 := hw.1
 have hw2 : w.held.length ≤ 1048576 := hw.2.1.1
 have hw3 : w.shut.length ≤ 1048576 := hw.2.2.1
 have hw4 : w.tasks.length ≤ 1048576 := hw.2.2.2.1.1
 have hw5 : w.trace.length ≤ 1048576 := hw.2.2.2.2.1
 have hxl : xs.length = w.tasks.length := by have := hx.len; rw [Nj] at this; exact this
 have hzz : (xs.zip w.tasks).length = w.tasks.length := by rw [OH]; omega
 have hzl : ((xs.zip w.tasks).map ttT).length = w.tasks.length := by rw [Nj, OH]; omega
 refine Fun.begin tys Try.func46 Z Z (N := 67) [(0, .t (ttW w xs))] Z Z (fun w0 G F0 => ?_);refine sG (Aa Z Z (AA Z) Z Z (nZ Z (AK tys Z Z (AA Z) Z Z Z (nZ Z (nB (sQ (Bd 12 Ac Z (by kernel_rfl) (by kernel_rfl) (QG_ev tys Z Z (AA Z) Z (QG_ev tys Z Z (AA Z) Z (Eg ?_))))))))));refine ⟨_, Cn w.room (by omega), rfl, ?_⟩;refine BC tys [] Z Z (AA Z) Z Z Z Z Z (by decide) (by repeat (first | exact PartsOk.nil' | refine PartsOk.cons' rfl (by repeat (first | exact AbsL.nil' | refine AbsL.v' ?_ | refine AbsL.own' ?_ | refine AbsL.none' ?_)) Z ?_)) Z Z Z (by decide) ?_;refine BW Z (QG_ev tys Z Z (AA Z) Z (QG_ev tys Z Z (AA Z) Z (IA tys Z Z (AA Z) Z Z Z Z Z Z Z Z (fun _ => .read (Mb _)) (by simp; omega) (by decide) Z ?_)));refine QG_ev tys Z Z (AA Z) Z (QG_ev tys Z Z (AA Z) Z (Eg ?_));refine ⟨_, Cn w.trace (by omega), rfl, ?_⟩;refine BW Z (Fe tys Z Z (AA Z) Z Z Z (by kernel_rfl) Z Z Z Z Z Z (DY tys Z Z (AA Z) Z Z Z Z (AF ?_)));refine ⟨by kernel_rfl, ?_⟩;refine nZ Z (sT Z (nZ Z (nB (sQ (sG (nZ Z (WO_le (Le.nilBox (u := 3) (j := 1) 1 Z Z) (nZ Z (WO_le (Le.adoptBox (u := 3) (j := 1) (id := 191) Z Z Z) (nZ Z (eK 2 Z (evE ?_))))))))))));refine eZ Z (nB (AG ?_));refine lK (α := Int × Nat × List T) [1, 2, 3, 23, 24] [1, 2] (fun x => [(25, .t (.int (x.1)))]) (fun x => [(3, .box [.own (T.ints w.room), .sl 191 0 (x.2.1), .own (T.bools w.shut), .nil, .own (T.ints w.trace)]), (191, .L 1 (x.2.2))]) (fun x => 0 ≤ (x.1) ∧ (x.1) ≤ w.held.length ∧ (x.2.1) = (x.2.2).length ∧ (x.2.2) = (w.held.take (x.1).toNat).map T.ints) (fun x => Int.toNat (w.held.length - (x.1))) (0, 0, []) ?_ (fun x hx => ?_)
 ·exact ⟨by omega, by omega, rfl, rfl⟩
 obtain ⟨k, m, hs⟩ := x
 obtain ⟨hk0, hk1, hm, hxs⟩ := hx
 dsimp only at hk0 hk1 hm hxs ⊢;refine nY Z (sG (eZ Z (nB (sQ ?_))));refine AD Z (fun h1 => ?_) (fun h1 => ?_)
 ·
  simp only [HS] at h1;refine AE (tN (sQ (AG (sG ?_))));refine iY (k := ?_);refine eK 2 Z (nB (Bd 5 Ac Z (by kernel_rfl) (by kernel_rfl) (QG_ev tys Z Z (AA Z) Z (QG_ev tys Z Z (AA Z) Z (BW Z (QG_ev tys Z Z (AA Z) Z (Eg ?_)))))));refine ⟨_, Cn (w.held[k.toNat]'(by omega)) (by have : (w.held[k.toNat]'(by omega)).length ≤ 1048576 := hw.2.1.2 _ (Nl _); omega), rfl, ?_⟩;refine BC tys [T.ints (w.held[k.toNat]'(by omega))] Z Z (AA Z) Z Z Z Z Z (AA Z) (by repeat (first | exact PartsOk.nil' | refine PartsOk.cons' rfl (by repeat (first | exact AbsL.nil' | refine AbsL.v' ?_ | refine AbsL.own' ?_ | refine AbsL.none' ?_)) Z ?_)) Z Z Z (by decide) ?_;refine AF ?_;refine ⟨by kernel_rfl, ?_⟩;refine nZ Z (WO_le (Le.adoptE (u := 33) 33 Z Z) (nZ Z (Ab tys Z Z (AA Z) Z Z Z Z Z (.own Z (by first | omega | (simp only [Nu]; omega))) Z (.own Z (by first | decide | omega)) (by decide) (by simp only [N0, Nx, N6]; rw [hxs, Nj, N0]; omega) (by decide) Z ?_)));refine nZ Z (eZ Z (sT Z (nZ Z (oN (bN (tN (rG (evI ?_))))))));refine eZ Z (oN ?_);refine lQ (_, _, _) ?_ ?_
  ·dsimp only
   subst hm;refine ⟨by omega, by omega, by simp, ?_⟩;rw [N8, hxs, Bf hk0 (by omega), OU];rfl
  ·(show Int.toNat _ < Int.toNat _); omega
 simp only [HS] at h1;refine AR (tE (AO (AN (tN (sQ (sG (nZ Z (WO_le (Le.gatherBox (u := 3) (j := 1) (id := 191) Z Z Z (by omega) Z) (nZ Z (WO_le (Le.nilBox (u := 3) (j := 3) 4 Z Z) (nZ Z (WO_le (Le.adoptBox (u := 3) (j := 3) (id := 192) Z Z Z) (nZ Z (eK 2 Z (evE ?_)))))))))))))));refine eZ Z (nB (AG ?_));refine lK (α := Int × Nat × List T) [2, 3, 38, 39] [2] (fun x => [(40, .t (.int (x.1)))]) (fun x => [(3, .box [.own (T.ints w.room), .own (.list 1 (hs.take m)), .own (T.bools w.shut), .sl 192 0 (x.2.1), .own (T.ints w.trace)]), (192, .L 4 (x.2.2))]) (fun x => 0 ≤ (x.1) ∧ (x.1) ≤ w.tasks.length ∧ (x.2.1) = (x.2.2).length ∧ (x.2.2) = ((xs.zip w.tasks).map ttT).take (x.1).toNat) (fun x => Int.toNat (w.tasks.length - (x.1))) (0, 0, []) ?_ (fun x hx => ?_)
 ·exact ⟨by omega, by omega, rfl, rfl⟩
 obtain ⟨i, m2, ys⟩ := x
 obtain ⟨hi0, hi1, hm2, hys⟩ := hx
 dsimp only at hi0 hi1 hm2 hys ⊢;refine nY Z (sG (eZ Z (nB (sQ ?_))));refine AD Z (fun h2 => ?_) (fun h2 => ?_)
 ·
  simp only [HS] at h2;refine AE (tN (sQ (AG (sQ ?_))))
  have hi2 : i < w.tasks.length := by rw [Nj, OH] at hzl; omega
  obtain ⟨t, ht⟩ : ∃ t, t = w.tasks[i.toNat]'(by omega) := ⟨_, rfl⟩
  have htm : t ∈ w.tasks := by rw [ht]; exact Nl _
  have hto := hw.2.2.2.1.2 t htm
  have hta : t.acts.length ≤ 1048576 := hto.1.1
  have hxa := hx.at (i := i.toNat) (by omega) (by rw [Nj]; omega)
  rw [List.getElem_map, ← ht] at hxa
  obtain ⟨zs, hzs, hA⟩ := hxa
  have hzsl := hA.len
  have hget : (List.map ttT (xs.zip w.tasks))[i.toNat]? = some (.agg [.list 4 zs, T.int t.pos, T.int t.state, T.int t.last]) := by rw [List.getElem?_map, Cv (by omega) (by omega), hzs, ← ht]; rfl
  refine rG ?_;refine iX (h5 := (by omega)) (h6 := hget) (k := ?_);refine eZ Z ?_
  try refine WO_le (Le.freeze (u := 43) rfl) ?_
  refine nZ Z (AK tys Z Z (AA Z) Z Z Z (nZ Z (sT Z (nZ Z (nA (eZ Z (WO_le (Le.nilOwn (u := 8) 4 Z) (nZ Z (WO_le (Le.adoptE (u := 8) 193 Z Z) (nZ Z (nB (sQ (sG (eK 2 Z (evE ?_)))))))))))))));refine kZ [2,3,7,8,38,39,40,41,42,43,44,45,46] Z (eZ Z (nB (AG ?_)));refine lK (α := Int × Nat × List T) [2, 3, 7, 38, 39, 40, 45, 46] [2, 3, 7, 192] (fun x => [(47, .t (.int (x.1))), (8, .sl 193 0 (x.2.1))]) (fun x => [(193, .L 4 (x.2.2))]) (fun x => 0 ≤ (x.1) ∧ (x.1) ≤ zs.length ∧ (x.2.1) = (x.2.2).length ∧ (x.2.2) = zs.take (x.1).toNat) (fun x => Int.toNat (zs.length - (x.1))) (0, 0, []) ?_ (fun x hx => ?_)
  ·exact ⟨by omega, by omega, rfl, rfl⟩
  obtain ⟨k, m3, ms⟩ := x
  obtain ⟨hk0', hk1', hm3, hms⟩ := hx
  dsimp only at hk0' hk1' hm3 hms ⊢;refine nY Z (sG (eZ Z (nB (sQ ?_))));refine AD Z (fun h3 => ?_) (fun h3 => ?_)
  ·
   simp only [HS] at h3;refine AE (tN (sQ (AG (sG ?_))))
   have hkz : k.toNat < zs.length := by omega
   obtain ⟨cs, hcs, hcA⟩ := hA.at hkz (by omega)
   obtain ⟨a, ha⟩ : ∃ a, a = t.acts[k.toNat]'(by omega) := ⟨_, rfl⟩
   rw [← ha] at hcs hcA
   have hcl : cs.length ≤ 1048576 := by rw [hcA.len]; exact (hto.1.2 a (by rw [ha]; exact Nl _)).cases'.1
   have hgetk : zs[k.toNat]? = some (.agg [T.int a.kind, T.int a.chan, T.int a.n, .list 4 cs]) := by rw [List.getElem?_eq_getElem hkz, hcs]
   refine iX (h5 := (by omega)) (h6 := hgetk) (k := ?_);refine eZ Z ?_
   try refine WO_le (Le.freeze (u := 50) rfl) ?_
   refine nZ Z (AK tys Z Z (AA Z) Z Z Z (nZ Z (sT Z (nZ Z (nB (rG (eK 2 Z ?_)))))))
   try refine WO_le (Le.freeze (u := 52) rfl) ?_
   refine nZ Z (AQ ?_);refine ⟨_, Jy _ _ _ cs hcl (Hy hcA), rfl, ?_⟩;refine bZ [.agg [T.int a.kind, T.int a.chan, T.int a.n, .list 4 cs]] ?_;refine nZ Z (kZ [2,3,7,8,10,38,39,40,45,46,47,48,49,50,51,52,53,54] Z (Ab tys Z Z (AA Z) Z Z Z Z Z (.own Z (by first | omega | (simp only [Nu]; omega))) Z (.own Z (by first | decide | omega)) (by decide) (by simp only [N0, Nx, N6]; rw [hms, N0]; omega) (by decide) Z ?_));refine nZ Z (eZ Z (oN (bN (tN (rG (evI ?_))))));refine eZ Z (oN ?_);refine lQ (_, _, _) ?_ ?_
   ·dsimp only
    subst hm3;refine ⟨by omega, by omega, by simp, ?_⟩;rw [N8, hms, Bf hk0' (by omega), hcs];rfl
   ·(show Int.toNat _ < Int.toNat _); omega
  simp only [HS] at h3;refine AR (tE (AO (AN (tN (sG (eZ Z (WO_le (Le.gather (u := 57) (id := 193) Z Z (by first | (simp; done) | (simp; omega) | omega)) ?_)))))));refine nZ Z (eZ Z (sT Z (nZ Z (nB (rG (eK 2 Z (A7 tys Z Z (AA Z) Z Z Z Z Z Z (nZ Z (bZ [.agg [.list 4 (ms.take m3), T.int t.pos, T.int t.state, T.int t.last]] ?_)))))))));refine nZ Z (Ab tys Z Z (AA Z) Z Z Z Z Z (.own Z (by first | omega | (simp only [Nu]; omega))) Z (.own Z (by first | decide | omega)) (by decide) (by simp only [N0, Nx, N6]; rw [hys, N0]; omega) (by decide) Z ?_);refine nZ Z (kZ [2,3,7,8,38,39,40,45,46,47,48,57,58,59,60,61,62,63] Z (eZ Z (sT Z (nZ Z (oN (bN (tN (rG (evI ?_)))))))));refine eZ Z (oN ?_);refine lQ (_, _, _) ?_ ?_
  ·dsimp only
   subst hm2;refine ⟨by omega, by omega, by simp, ?_⟩
   have hmz : ms.take m3 = zs := by rw [hm3, N8, hms, BF (by omega)]
   rw [N8, hys, Bf hi0 (by rw [hzl]; omega), (List.getElem?_eq_some_iff.1 hget).2, hmz];rfl
  ·(show Int.toNat _ < Int.toNat _); omega
 simp only [HS] at h2;refine AR (tE (AO (AN (tN (sG (nZ Z (WO_le (Le.gatherBox (u := 3) (j := 3) (id := 192) Z Z Z (by omega) Z) (nZ Z (A7 tys Z Z (AA Z) Z Z Z Z Z Z (nZ Z (sT Z (nZ Z (nB (rT (eR ?_)))))))))))))))
 ·rw [hm2, N8, hys, hm, N8, hxs, BF (l := w.held) (by omega), BF (l := List.map ttT (xs.zip w.tasks)) (by omega)]
  all_goals rfl
open Go.Eng
abbrev TX := (Option Addr × Nat) × (T × Task)
def xcW (c : TX) : List Value := [.slice c.1.1 c.2.2.acts.length c.1.2, .int .i64 c.2.2.pos, .int .i64 c.2.2.state, .int .i64 c.2.2.last]
def xcT (c : TX) : List T := [c.2.1, T.int c.2.2.pos, T.int c.2.2.state, T.int c.2.2.last]
def xcsW (C : List TX) : List Value := C.flatMap xcW
def xcsT (C : List TX) : List T := C.flatMap xcT
section
variable {α β : Type} {f : β → List α} {C : List ((Option Addr × Nat) × (T × Task))} {c c' : (Option Addr × Nat) × (T × Task)} {d d' : β} {i j : Nat} {y : α}
theorem LN (hf : ∀ c, (f c).length = 4) : ∀ {C : List β} {i : Nat}, C[i]? = some d → j < 4 → (C.flatMap f)[i * 4 + j]? = (f d)[j]?
 | [], _, h, _ => by simp at h
 | e :: C, 0, h, hj => by
  simp at h; subst h
  rw [Nt, OY, N5, List.getElem?_append_left (by rw [hf]; exact hj)]
 | e :: C, i + 1, h, hj => by
  rw [Nt, List.getElem?_append_right (by rw [hf]; omega), hf, show (i + 1) * 4 + j - 4 = i * 4 + j from by omega];exact LN hf (by simpa using h) hj
theorem Io (hf : ∀ c, (f c).length = 4) (hy : f d' = (f d).set j y) : ∀ {C : List β} {i : Nat}, C[i]? = some d → j < 4 → (C.flatMap f).set (i * 4 + j) y = (C.set i d').flatMap f
 | [], _, h, _ => by simp at h
 | e :: C, 0, h, hj => by
  simp at h; subst h
  rw [Nt, OY, N5, List.set_append_left _ _ (by rw [hf]; exact hj), List.set_cons_zero, Nt, hy]
 | e :: C, i + 1, h, hj => by
  rw [Nt, List.set_append_right _ _ (by rw [hf]; omega), hf, show (i + 1) * 4 + j - 4 = i * 4 + j from by omega, Io hf hy (by simpa using h) hj, List.set_cons_succ, Nt]
theorem LM (hf : ∀ c, (f c).length = 4) : ∀ {C : List β} {i : Nat}, C[i]? = some d → ((C.flatMap f).drop (i * 4)).take 4 = f d
 | [], _, h => by simp at h
 | e :: C, 0, h => by
  simp at h; subst h
  rw [Nt, OY, List.drop_zero, List.take_append_of_le_length (by rw [hf]; exact Nm _), Ni (by rw [hf]; exact Nm _)]
 | e :: C, i + 1, h => by
  rw [Nt, show (i + 1) * 4 = (f e).length + i * 4 from by rw [hf]; omega, List.drop_append];rw [List.drop_eq_nil_of_le (by omega), List.nil_append, show (f e).length + i * 4 - (f e).length = i * 4 from by omega];exact LM hf (by simpa using h)
theorem Ix (hc : C[i]? = some c) (hj : j < 4) : (xcsW C)[i * 4 + j]? = (xcW c)[j]? := LN (fun _ => rfl) hc hj
theorem Dc (hc : C[i]? = some c) (hj : j < 4) : (xcsT C)[i * 4 + j]? = (xcT c)[j]? := LN (fun _ => rfl) hc hj
theorem Fp {b sz : Nat} {k : Nat} {u : Value} (hc : C[i]? = some c) (hj : k < 4) (h1 : xcW c' = (xcW c).set k u) (h2 : xcT c' = (xcT c).set k (T.v u)) :
  Blk.raw b sz ((xcsW C).set (i * 4 + k) u) ((xcsT C).set (i * 4 + k) (T.v u)) = .raw b sz (xcsW (C.set i c')) (xcsT (C.set i c')) := by
 unfold xcsW xcsT;rw [Io (fun _ => rfl) h1 hc hj, Io (fun _ => rfl) h2 hc hj]
theorem Iw (hc : C[i]? = some c) : (C.set i c')[i]? = some c' := by
 rw [List.getElem?_set_self (List.getElem?_eq_some_iff.1 hc).1]
end
theorem GH : ∀ {hdr : List (Option Addr × Nat)} {l : List (T × Task)}, hdr.length = l.length → (l.map ttT).flatMap T.cells = xcsT (hdr.zip l)
 | [], [], _ => rfl
 | [], _ :: _, h => by simp at h
 | _ :: _, [], h => by simp at h
 | a :: hdr, t :: l, h => by
  rw [OA, Nt, GH (hdr := hdr) (by simpa using h)];rfl
theorem ttT_cells {l : List (T × Task)} : ∀ x, x ∈ l.map ttT → (T.cells x).length = 4 := by
 intro x hx
 obtain ⟨t, _, rfl⟩ := OM.1 hx
 rfl
theorem Ko {w : Go.World} : ∀ {l : List (T × Task)} {ws : List Value} {bs : List Nat}, (∀ p, p ∈ l → CN p.1 p.2.acts) → OwnL w ws ((l.map ttT).flatMap T.cells) bs → ∃ hdr : List (Option Addr × Nat), hdr.length = l.length ∧ ws = xcsW (hdr.zip l)
 | [], ws, bs, _, h => by
  cases ws with
  | nil => exact ⟨[], rfl, rfl⟩
  | cons _ _ => cases h
 | (x, t) :: l, ws, bs, hp, h => by
  obtain ⟨ys, hx, hA⟩ := hp (x, t) (by simp)
  dsimp only at hx hA;subst hx;rw [OA, Nt] at h;change OwnL w ws (T.list 4 ys :: T.int t.pos :: T.int t.state :: T.int t.last :: (l.map ttT).flatMap T.cells) bs at h
  match ws, h with
  | v0 :: ws, h =>
   obtain ⟨b1, b2, h1, h2, _⟩ := h.cons
   match ws, h2 with
   | v1 :: ws, h2 =>
    obtain ⟨b3, b4, h3, h4, _⟩ := h2.cons
    match ws, h4 with
    | v2 :: ws, h4 =>
     obtain ⟨b5, b6, h5, h6, _⟩ := h4.cons
     match ws, h6 with
     | v3 :: ws, h6 =>
      obtain ⟨b7, b8, h7, h8, _⟩ := h6.cons
      obtain ⟨hdr, g1, g2⟩ := Ko (fun p h => hp p (by simp [h])) h8
      have e0 : ∃ ad cap, v0 = .slice ad t.acts.length cap := by
       rw [← hA.len]
       cases h1 with
       | none _ => exact ⟨_, _, rfl⟩
       | list _ _ _ _ _ _ _ _ => exact ⟨_, _, rfl⟩
      obtain ⟨ad, cap, rfl⟩ := e0
      have e1 : v1 = .int .i64 t.pos := by cases h3; rfl
      have e2 : v2 = .int .i64 t.state := by cases h5; rfl
      have e3 : v3 = .int .i64 t.last := by cases h7; rfl
      subst e1 e2 e3 g2;exact ⟨(ad, cap) :: hdr, by simp [g1], rfl⟩
theorem Dr (b sz i : Nat) (C : List TX) (h : Option Addr × Nat) (x : T) (t : Task) (hc : C[i]? = some (h, x, t)) (hp : 0 ≤ t.pos ∧ t.pos ≤ 1048576) (hl : t.acts.length ≤ 1048576) : Proc Try.prog 78 [.t (.v (.pointer (some ⟨b, i * 4, none⟩)))] ([]) ([]) [.raw b sz (xcsW C) (xcsT C)] (.tup []) [.raw b sz (xcsW (C.set i (h, x, advT t))) (xcsT (C.set i (h, x, advT t)))] := by
 refine Proc.intro tys Try.func78 Z Z (N := 22) [100] 99 ([(0, .t (.v (.pointer (some ⟨b, i * 4, none⟩))))]) ([(100, .raw b sz (xcsW C) (xcsT C)), (99, .ro [] [])]) Z Z Z Z (by decide) (by decide) Z (fun w0 G F0 => ?_);refine nY Z (sG (eZ Z (A6 rfl Z (AA Z) Z Z Z (Au tys Z Z (AA Z) Z Z Z Z Z (Ev (id := 100) (u := .int .i64 t.pos) tys Z Z (AA Z) Z Z Z Z Z (Dc hc (by decide)) (Ix hc (by decide)) (evI ?_))))));refine A6 rfl Z (AA Z) Z Z Z (Au tys Z Z (AA Z) Z Z Z Z Z (A5 (id := 100) (u0 := .int .i64 t.pos) (u := .int .i64 (t.pos + 1)) tys Z Z Z Z Z Z Z (Dc hc (by decide)) Z Z Z (nZ Z (WO_le (Le.eqK (id := 100) Z (Fp (c' := (h, x, { t with pos := t.pos + 1 })) hc (by decide) Z Z)) ?_))))
 have hc1 : (C.set i (h, x, { t with pos := t.pos + 1 }))[i]? = some (h, x, { t with pos := t.pos + 1 }) := Iw hc
 refine nZ Z (nB (sQ (kY [0] Z (AV Ac (by kernel_rfl) (evQ ?_)))));refine BQ rfl Z (AA Z) Z Z Z (Ct tys Z Z (AA Z) Z Z Z Z Z (Ew (id := 100) (u := .int .i64 (t.pos + 1)) tys Z Z (AA Z) Z Z Z Z Z (Dc hc1 (by decide)) (Ix hc1 (by decide)) (evQ ?_)));refine BQ rfl Z (AA Z) Z Z Z (AH Z (Ct tys Z Z (AA Z) Z Z Z Z Z (Ew (id := 100) (u := .slice h.1 t.acts.length h.2) tys Z Z (AA Z) Z Z Z Z Z (Dc hc1 (by decide)) (Ix hc1 (by decide)) (Lb Z Z (AA Z) Z ⟨74, by kernel_rfl⟩ rfl (evQ ?_)))));refine Aj (tN ?_);refine AD Z (fun h1 => ?_) (fun h1 => ?_)
 ·
  simp only [HS] at h1;refine rG (eZ Z (A6 rfl Z (AA Z) Z Z Z (Au tys Z Z (AA Z) Z Z Z Z Z (A5 (id := 100) (u0 := .int .i64 t.state) (u := .int .i64 1) tys Z Z Z Z Z Z Z (Dc hc1 (by decide)) Z Z Z (nZ Z (WO_le (Le.eqK (id := 100) Z (Fp (c' := (h, x, { t with pos := t.pos + 1, state := 1 })) hc1 (by decide) Z Z)) (nZ Z (oN ?_))))))));refine eP [_] ?_ ?_
  ·rfl
  ·rw [Nr, advT, if_pos h1]
   done
 simp only [HS] at h1;refine AE ?_;refine eP [_] ?_ ?_
 ·rfl
 ·rw [advT, if_neg h1]
  done
/-! What is told reads as what it is. -/
theorem relCase {w : Go.World} {F : Nat → Prop} : ∀ {zs : List T} {l : List Act}, All2 TCase zs l → ∀ {vs}, RelL w F vs (zs.flatMap T.cells) → RelL w F vs ((l.map Act.toT).flatMap T.cells)
 | _, _, .nil, vs, h => h
 | _, _, .cons (a := z) (b := b) (l := zs) (m := l) h1 h2, vs, h => by
  obtain ⟨hb, a, c, rfl⟩ := h1
  rw [Nt] at h;rw [OA, Nt, Act.toT_eq];change RelL w F vs (T.int b.kind :: T.int b.chan :: T.int b.n :: .v (.slice a 0 c) :: zs.flatMap T.cells) at h;show RelL w F vs (T.int b.kind :: T.int b.chan :: T.int b.n :: .list 4 (b.cases.map Act.toT) :: (l.map Act.toT).flatMap T.cells);rw [hb]
  cases h with
  | v q1 h =>
   cases h with
   | v q2 h =>
    cases h with
    | v q3 h =>
     cases h with
     | v q4 h => exact .v q1 (.v q2 (.v q3 (.none (relCase h2 h))))
theorem relAct {w : Go.World} {F : Nat → Prop} : ∀ {zs : List T} {l : List Act}, All2 TAct zs l → ∀ {vs}, RelL w F vs (zs.flatMap T.cells) → RelL w F vs ((l.map Act.toT).flatMap T.cells)
 | _, _, .nil, vs, h => h
 | _, _, .cons (a := z) (b := b) (l := zs) (m := l) h1 h2, vs, h => by
  obtain ⟨cs, rfl, hcs⟩ := h1
  rw [Nt] at h;rw [OA, Nt, Act.toT_eq];change RelL w F vs (T.int b.kind :: T.int b.chan :: T.int b.n :: .list 4 cs :: zs.flatMap T.cells) at h;show RelL w F vs (T.int b.kind :: T.int b.chan :: T.int b.n :: .list 4 (b.cases.map Act.toT) :: (l.map Act.toT).flatMap T.cells)
  cases h with
  | v q1 h =>
   cases h with
   | v q2 h =>
    cases h with
    | v q3 h =>
     refine .v q1 (.v q2 (.v q3 ?_))
     have hl := hcs.len
     cases h with
     | none h =>
      have : b.cases = [] := OG (by simpa using hl.symm)
      rw [this]; exact .none (relAct h2 h)
     | list p1 p2 p3 p4 p5 p6 h =>
      have e : cs.length = (b.cases.map Act.toT).length := by rw [Nj]; exact hl
      rw [e] at p5 ⊢;exact .list p1 p2 p3 (LK b.cases) p5 (relCase hcs p6) (relAct h2 h)
theorem Kk {w : Go.World} {F : Nat → Prop} {x : T} {l : List Act} (hx : CN x l) {v vs : _} {ts : List T} (h : RelL w F (v :: vs) (x :: ts)) : RelL w F (v :: vs) (T.Acts l :: ts) := by
 obtain ⟨ys, rfl, hA⟩ := hx
 have hl := hA.len
 cases h with
 | none h =>
  have : l = [] := OG (by simpa using hl.symm)
  subst this; exact .none h
 | list p1 p2 p3 p4 p5 p6 h =>
  have e : ys.length = (l.map Act.toT).length := by rw [Nj]; exact hl
  rw [e] at p5 ⊢;exact .list p1 p2 p3 (LK l) p5 (relAct hA p6) h
theorem M4 {w : Go.World} {F : Nat → Prop} {x : T} {t : Task} (hx : CN x t.acts) {vs : List Value} (h : RelL w F vs [x, T.int t.pos, T.int t.state, T.int t.last]) : RelL w F vs (T.cells t.tt) := by
 cases vs with
 | nil => cases h
 | cons v vs => exact Kk hx h
end Go.Proofs.Ytkllmdolplcklaa
