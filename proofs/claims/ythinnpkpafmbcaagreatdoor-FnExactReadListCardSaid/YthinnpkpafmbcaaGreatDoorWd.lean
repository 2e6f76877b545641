/- Walks and laws of the claim. -/
import Derived.Test.YthinnpkpafmbcaaGreatDoorXn
import Derived.Test.YthinnpkpafmbcaaGreatDoorFa
import Derived.Test.YthinnpkpafmbcaaGreatDoorMe
import Derived.Test.YthinnpkpafmbcaaGreatDoorMb
set_option linter.unusedVariables false
set_option linter.unusedSimpArgs false
set_option maxRecDepth 10000
set_option maxHeartbeats 4000000
namespace Go.Proofs.YthinnpkpafmbcaaGreatDoor
open Go.Eng
open Go.Eng
theorem Ly (l : List Int) (hl : l.length ≤ 1073741824) : Fun Tryz.prog 18 [.t (T.ints l)] (Aq [.own (T.ints l)]) := by
 refine Fun.begin tys Tryz.func18 Z Z (N := 6) [(0, .t (T.ints l))] Z Z (fun w0 G F0 => ?_);refine sG (eZ Z (nA (bZ [] ?_)));refine nZ Z (eZ Z (Ac tys Z Z (AA Z) Z Z Z Z Z (.own Z (by first | omega | (simp only [Nu]; omega))) Z (.read (readI l)) (by decide) (by simp; omega) (by decide) Z ?_));refine nZ Z (eZ Z (nB (Ay (Le.gather (u := 2) (id := 3) Z Z (by simp)) ?_)));refine rT (eR ?_)
 ·(simp only [Lq, OH, OY, N4, Nat.zero_add, List.take_nil]; rfl)
abbrev Nc (c : Code) : D := .agg [.t (T.int c.params), .t (T.int c.vars), .own (T.ints c.sites), .own (T.Inss c.ins), .own (T.Rows c.rows)]
theorem readL_bad {s : Tx} (h : ¬ BN s = true) : readL s = (code0, 0, false) := by rw [readL, if_neg h]
theorem Jn {s : Tx} {n : Int} {c : Code} (h : BN s = true) (hr : runG 0 code0 (AH 10 [] s.dropLast) = (n, c)) (hn : ¬ n = 0) : readL s = (code0, n, false) := by
 rw [readL, if_pos h, hr, if_neg hn]
theorem ET {s : Tx} {c : Code} (h : BN s = true) (hr : runG 0 code0 (AH 10 [] s.dropLast) = (0, c)) (hn : ¬ ((codeBytesR c).2 = true ∧ codeTx c = s)) : readL s = (code0, 0, false) := by
 rw [readL, if_pos h, hr, if_pos rfl, if_neg hn]
theorem HC {s : Tx} {c : Code} (h : BN s = true) (hr : runG 0 code0 (AH 10 [] s.dropLast) = (0, c)) (hn : (codeBytesR c).2 = true ∧ codeTx c = s) : readL s = (c, 0, true) := by
 rw [readL, if_pos h, hr, if_pos rfl, if_pos hn]
theorem IQ (s : Tx) : List.take (((s.length : Int) - 1).toNat - Int.toNat 0) (List.drop (Int.toNat 0) s) = s.dropLast := by
 rw [List.dropLast_eq_take];show List.take _ s = _
 congr 1
 omega
theorem Ih {s : Tx} (h : (8000 : Int) < s.length) : ¬ BN s = true := by
 unfold BN; rw [decide_eq_false (by omega), Bool.false_and]; decide
theorem Lo {s : Tx} {i : Nat} (hi : i < s.length) (he : i + 1 = s.length) (h : ¬ (((s[i]'hi).toNat : Nat) : Int) = 10) : ¬ BN s = true := by
 unfold BN;rw [Nv, decide_eq_true_eq, decide_eq_true_eq, List.getLast?_eq_getElem?, show s.length - 1 = i from by omega, List.getElem?_eq_getElem hi];intro e
 have e2 := Option.some.inj e.2
 exact h (by rw [e2]; rfl)
theorem Jg {s : Tx} {i : Nat} (hi : i < s.length) (he : i + 1 = s.length) (h1 : (s.length : Int) ≤ 8000) (h : (((s[i]'hi).toNat : Nat) : Int) = 10) : BN s = true := by
 unfold BN;rw [Nv, decide_eq_true_eq, decide_eq_true_eq, List.getLast?_eq_getElem?, show s.length - 1 = i from by omega, List.getElem?_eq_getElem hi];exact ⟨by omega, congrArg some (UInt8.toNat_inj.1 (by show _ = 10; omega))⟩
theorem GG {s : Tx} {L : List Tx} {k : Int} {c : Code} (hL : L = AH 10 [] s.dropLast) (ht : BN s = true) (hr : runG 0 code0 L = runG k c (L.drop k.toNat)) (h0 : 0 ≤ k) (h1 : k < L.length) (hn : ¬ (stepG k c (L[k.toNat]'(by omega))).2 = true) : readL s = (code0, k + 1, false) :=
 Jn ht (by rw [← hL, hr, M9 h0 h1 hn]) (by omega)
theorem Gw {k : Int} {c : Code} {l : Tx} (h : 0 < k) : stepG k c l = stepL c l := by rw [stepG, if_neg (by omega)]
theorem Fi {k : Int} {c : Code} {l : Tx} {ws : List Tx} (h : k ≤ 0) (h0 : 0 ≤ k) (hf : EZ l = C3) (hr : B5 l = ws) (ha : ws.all numW = true) (hn : (numsW ws).length = ws.length) (h2 : 2 ≤ (numsW ws).length) :
  stepG k c l = (⟨(numsW ws)[(0 : Int).toNat]'(by show 0 < _; omega), (numsW ws)[(1 : Int).toNat]'(by show 1 < _; omega), (numsW ws).drop 2, [], []⟩, true) := by
 rw [stepG, if_pos (by omega), if_pos (by rw [headOk, hf, hr, ha, decide_eq_true (show 2 ≤ ws.length by omega)]; rfl)]
 have e : numsW ws = ws.map digS := by rw [numsW, if_pos ha]
 have g0 : ws.getD 0 [] = ws[0]'(by omega) := by rw [OB, List.getElem?_eq_getElem (by omega)]; rfl
 have g1 : ws.getD 1 [] = ws[1]'(by omega) := by rw [OB, List.getElem?_eq_getElem (by omega)]; rfl
 simp only [headC, hr, e, g0, g1, List.map_drop]
 simp
theorem dropI (l : List Int) : List.take (((l.map T.int).length : Int).toNat - Int.toNat 2) (List.drop (Int.toNat 2) (l.map T.int)) = (l.drop 2).map T.int := by
 have e : List.drop (Int.toNat 2) (l.map T.int) = (l.drop 2).map T.int := by rw [List.map_drop]; rfl
 rw [e, Nw (by simp)]
theorem Gx {k : Int} {c : Code} {l : Tx} (h : k ≤ 0) (h0 : 0 ≤ k) (hb : ¬ headOk l = true) : stepG k c l = (c, false) := by
 rw [stepG, if_pos (by omega), if_neg hb]
theorem MH {l : Tx} {u : Tx} (hf : EZ l = u) (h : ¬ u = C3) : ¬ headOk l = true := by
 unfold headOk; rw [hf, decide_eq_false h, Bool.false_and]; decide
theorem MG {l : Tx} {ws : List Tx} (hr : B5 l = ws) (h : ws.all numW = false) : ¬ headOk l = true := by
 unfold headOk; rw [hr, h, Bool.false_and, Og]; decide
theorem MF {l : Tx} {ws : List Tx} (hr : B5 l = ws) (h : ws.all numW = true) (h2 : ((numsW ws).length : Int) < 2) : ¬ headOk l = true := by
 have e : (numsW ws).length = ws.length := by rw [numsW, if_pos h, N0]
 unfold headOk; rw [hr, decide_eq_false (show ¬ 2 ≤ ws.length by omega), Og, Og]; decide
theorem retZ {s : Tx} {n : Int} (h : readL s = (code0, n, false)) : [D.agg [D.t (T.v (.int .i64 0)), D.t (T.v (.int .i64 0)), D.own (T.list 1 []), D.own (T.list 2 []), D.own (T.list 3 [])], D.t (T.v (.int .i64 n)), D.t (T.v (.bool false))] = [Nc (readL s).1, D.t (T.int (readL s).2.1), D.t (T.bool (readL s).2.2)] := by
 rw [h]; rfl
theorem KF {x c : Code} (h : x.sites = c.sites) : ({ x with sites := c.sites } : Code) = x := by
 cases x; cases h; rfl
theorem rd_A {L : List Tx} {k : Int} {c : Code} {R : Int × Code} (hrun : R = runG k c (L.drop k.toNat)) (hk0 : 0 ≤ k) (h4 : k < L.length) (h5 : 0 < k) (h6 : (stepL c (L[k.toNat]'(by omega))).2 = true) (hc2 : (c.ins.length : Int) ≤ k) (hc3 : (c.rows.length : Int) ≤ k) :
  R = runG (k + 1) { (stepL c (L[k.toNat]'(by omega))).1 with sites := c.sites } (L.drop (k + 1).toNat) ∧ ((stepL c (L[k.toNat]'(by omega))).1.ins.length : Int) ≤ k + 1 ∧ ((stepL c (L[k.toNat]'(by omega))).1.rows.length : Int) ≤ k + 1 := by
 have sm := stepL_sm (c := c) (l := L[k.toNat]'(by omega))
 have e := Gw (c := c) (l := L[k.toNat]'(by omega)) h5
 rw [KF sm.1];refine ⟨?_, by omega, by omega⟩;rw [hrun, H2 hk0 h4 (by rw [e]; exact h6), e]
theorem rd_B {L : List Tx} {k : Int} {c d : Code} {l : Tx} {R : Int × Code} (hrun : R = runG k c (L.drop k.toNat)) (hk0 : 0 ≤ k) (h4 : k < L.length) (hl : l = L[k.toNat]'(by omega)) (hsg : stepG k c l = (d, true)) : R = runG (k + 1) d (L.drop (k + 1).toNat) := by
 subst hl;rw [hrun, H2 hk0 h4 (by rw [hsg]), hsg]
theorem rd_noA {s : Tx} {L : List Tx} {k : Int} {c : Code} (hL : L = AH 10 [] s.dropLast) (ht : BN s = true) (hr : runG 0 code0 L = runG k c (L.drop k.toNat)) (h0 : 0 ≤ k) (h1 : k < L.length) (h5 : 0 < k) (h6 : (stepL c (L[k.toNat]'(by omega))).2 = false) : readL s = (code0, k + 1, false) :=
 GG hL ht hr h0 h1 (by rw [Gw h5, h6]; exact Bool.false_ne_true)
theorem Kf {s : Tx} {L : List Tx} {k : Int} {c : Code} {l : Tx} (hL : L = AH 10 [] s.dropLast) (ht : BN s = true) (hr : runG 0 code0 L = runG k c (L.drop k.toNat)) (h0 : 0 ≤ k) (h1 : k < L.length) (h5 : k ≤ 0) (hl : l = L[k.toNat]'(by omega)) (hb : ¬ headOk l = true) : readL s = (code0, 1, false) := by
 have e := GG hL ht hr h0 h1 (by rw [← hl, Gx h5 h0 hb]; exact Bool.false_ne_true)
 rw [e, show k + 1 = 1 from by omega]
theorem Fo {s : Tx} {L : List Tx} {k : Int} {c : Code} (hL : L = AH 10 [] s.dropLast) (hr : runG 0 code0 L = runG k c (L.drop k.toNat)) (h1 : (L.length : Int) ≤ k) : runG 0 code0 (AH 10 [] s.dropLast) = (0, c) := by
 rw [← hL, hr, Lv h1]
theorem txt_1 {c : Code} {s : Tx} (h : (codeTextR c).2 = false) : ¬ ((codeBytesR c).2 = true ∧ codeTx c = s) := by
 intro e;rw [codeTextR, if_pos e.1] at h;exact Bool.noConfusion h
theorem txt_2 {c : Code} {s : Tx} (h : ¬ (codeTextR c).1 = s) : ¬ ((codeBytesR c).2 = true ∧ codeTx c = s) := by
 intro e;rw [codeTextR, if_pos e.1] at h;exact h e.2
theorem txt_3 {c : Code} {s : Tx} (h : (codeTextR c).2 = true) (h2 : (codeTextR c).1 = s) : (codeBytesR c).2 = true ∧ codeTx c = s := by
 unfold codeTextR at h h2;split at h
 ·rename_i hp; rw [if_pos hp] at h2; exact ⟨hp, h2⟩
 ·exact Bool.noConfusion h
theorem retY {s : Tx} {c : Code} (h : readL s = (c, 0, true)) : [D.agg [D.t (T.v (.int .i64 c.params)), D.t (T.v (.int .i64 c.vars)), D.own (T.list 1 (c.sites.map T.int)), D.own (T.list 2 (c.ins.map Ins.tt)), D.own (T.list 3 (c.rows.map Row.tt))], D.t (T.v (.int .i64 0)), D.t (T.v (.bool true))] = [Nc (readL s).1, D.t (T.int (readL s).2.1), D.t (T.bool (readL s).2.2)] := by
 rw [h]; rfl
theorem EH (s : Tx) (hs : s.length ≤ 1048576) : Fun Tryz.prog 5 [.t (T.str s)] (Aq [Nc (readL s).1, .t (T.int (readL s).2.1), .t (T.bool (readL s).2.2)]) := by
 obtain ⟨L, hL⟩ : ∃ L, L = AH 10 [] s.dropLast := ⟨_, rfl⟩
 have hsp := CV s.dropLast 10 (by simp; omega)
 rw [← hL] at hsp
 have hLl : L.length ≤ s.length + 1 := by rw [hL]; have := Av (c := 10) (l := s.dropLast) (pre := []); simp at this; omega
 have heach : ∀ l, l ∈ L → l.length ≤ 1048576 := fun l h => by rw [hL] at h; have := A1 h; simp at this; omega
 refine Fun.begin tys Tryz.func5 Z Z (N := 98) [(0, .t (T.str s))] Z Z (fun w0 G F0 => ?_);refine sG (AR tys Z Z (AA Z) Z Z Z (nZ Z (eK 2 Z (nB (sQ (sG (eZ Z (A5 Z Z (AA Z) Z (by kernel_rfl) Z (eK 2 Z ?_)))))))));refine gB (fun h1 => ?_) (fun h1 => ?_)
 ·
  simp only [HS] at h1;refine xK 2 Z (kZ [0,2,3,4,19] Z (xK 8 Z (nB (AW Z (sQ (kY [0,2,3,4] Z (rG (AN tys Z Z (AA Z) Z Z Z (by kernel_rfl) Z Z Z Z Z Z (sT Z (nZ Z (eK 2 Z (nB (Ay (Le.nilBox (u := 2) (j := 2) 1 Z Z) (nY Z (Ay (Le.nilBox (u := 2) (j := 3) 2 Z Z) ?_)))))))))))))));refine nY Z (Ay (Le.nilBox (u := 2) (j := 4) 3 Z Z) (nY Z (rT (tR (eR ?_)))))
  ·first
   | exact retZ (readL_bad (Ih h1))
 simp only [HS] at h1;refine eZ Z (gY Z (AG Z Z (AA Z) Z Z Z Dh Z (kZ [0,2,3,4,16,18] Z (eK 2 Z ?_))));refine gB (fun h2 => ?_) (fun h2 => ?_)
 ·
  simp only [HS] at h2;refine xK 6 Z (nB (AW Z (sQ (kY [0,2,3,4] Z (rG (AN tys Z Z (AA Z) Z Z Z (by kernel_rfl) Z Z Z Z Z Z (sT Z (nZ Z (eK 2 Z (nB (Ay (Le.nilBox (u := 2) (j := 2) 1 Z Z) (nY Z (Ay (Le.nilBox (u := 2) (j := 3) 2 Z Z) (nY Z (Ay (Le.nilBox (u := 2) (j := 4) 3 Z Z) ?_)))))))))))))));refine nY Z (rT (tR (eR ?_)))
  ·first
   | (subst h2; exact retZ (readL_bad (by decide)))
 simp only [HS] at h2;refine xK 2 Z (gY Z (A5 Z Z (AA Z) Z (by kernel_rfl) Z (gY Z (evI ?_))));refine gY Z ?_
 have hpos : 0 < s.length := OW.2 (by assumption)
 refine BH Z Z (AA Z) Z (by kernel_rfl) Z Z (by omega) (by omega) (gY Z (AG Z Z (AA Z) Z Z Z Nf Z (eZ Z (kZ [0,2,3,4,27] Z (nB ?_)))));refine AC Z (fun h3 => ?_) (fun h3 => ?_)
 ·
  simp only [HS] at h3;refine sG (AN tys Z Z (AA Z) Z Z Z (by kernel_rfl) Z Z Z Z Z Z (sT Z (nZ Z (eK 2 Z (nB (Ay (Le.nilBox (u := 2) (j := 2) 1 Z Z) (nY Z (Ay (Le.nilBox (u := 2) (j := 3) 2 Z Z) (nY Z (Ay (Le.nilBox (u := 2) (j := 4) 3 Z Z) (nY Z (rT (tR (eR ?_))))))))))))))
  ·first
   | exact retZ (readL_bad (Lo (by omega) (by omega) h3))
 simp only [HS] at h3;refine AB (tN (sG (AR tys Z Z (AA Z) Z Z Z (nZ Z (nB (sQ (sQ ?_)))))))
 have hpos : 0 < s.length := OW.2 (by assumption)
 have hto : BN s = true := Jg (i := ((s.length : Int) - 1).toNat) (by omega) (by omega) (by assumption) (by assumption)
 refine W_pin (u := 5) (pid := 1005) Z Z (fun bw => ?_);refine nY Z (Ay (Le.roNil 99) (nY Z (Ay (Le.nilBox (u := 5) (j := 2) 1 Z Z) (nY Z (Ay (Le.nilBox (u := 5) (j := 3) 2 Z Z) (nY Z (Ay (Le.nilBox (u := 5) (j := 4) 3 Z Z) (nY Z (rG (eK 2 Z (A5 Z Z (AA Z) Z (by kernel_rfl) Z (evI ?_))))))))))));refine BZ Z Z (AA Z) Z (by kernel_rfl) Z Z Z (by omega) (by omega) (by omega) ?_;rw [IQ];refine AJ ?_;refine ⟨_, hsp, rfl, ?_⟩;refine AI (Le.freeze (u := 34) Z) (nZ Z (evE ?_));refine eZ Z (kZ [0,2,3,4,5,34,35,36] Z (nB (AD ?_)));refine lK (α := Int × Code) [0, 2, 5, 34, 35] [2, 99, 1005] (fun x => [(36, .t (.int (x.1)))]) (fun x => [(5, .box (cC (T.ints (x.2).sites) (x.2)))]) (fun x => 0 ≤ (x.1) ∧ (x.1) ≤ L.length ∧ runG 0 code0 L = runG (x.1) (x.2) (L.drop (x.1).toNat) ∧ (x.2).sites.length ≤ 1048576 ∧ ((x.2).ins.length : Int) ≤ (x.1) ∧ ((x.2).rows.length : Int) ≤ (x.1)) (fun x => Int.toNat (L.length - (x.1))) (0, code0) ?_ (fun x hx => ?_)
 ·exact ⟨OC 0, by simp only; omega, rfl, OU _, OC 0, OC 0⟩
 obtain ⟨k, c⟩ := x
 obtain ⟨hk0, hk1, hrun, hc1, hc2, hc3⟩ := hx
 dsimp only at hk0 hk1 hrun hc1 hc2 hc3 ⊢;refine nY Z (sG (eZ Z (nB (sQ ?_))));refine AC Z (fun h4 => ?_) (fun h4 => ?_)
 ·
  simp only [HS] at h4;refine AB (tN (sQ (AD (sG (eZ Z ?_)))));refine iY (k := ?_);refine eK 3 Z (nB (sQ (sG (eK 2 Z (nB ?_)))));refine AC Z (fun h5 => ?_) (fun h5 => ?_)
  ·
   simp only [HS] at h5;refine sQ (sQ (kY [0,2,5,6,7,34,35,36,37,38,39,40,41,42] Z (rG (eZ Z (AI (Le.close (u := 5) 1005 Z Z Z) (nZ Z ?_))))));refine cP [5] (hm := (IE bw (T.ints c.sites) c _ (heach _ (N9 _)) (by omega) (by omega))) (k := ?_);refine nZ Z (AI (Le.open (u := 5) 1005 Z Z Z Z) (nZ Z (eZ Z (nB ?_))));refine AC Z (fun h6 => ?_) (fun h6 => ?_)
   ·
    simp only [HS] at h6;refine sG (AN tys Z Z (AA Z) Z Z Z (by kernel_rfl) Z Z Z Z Z Z (eZ Z (evI ?_)));refine sT Z (nZ Z (eK 2 Z (kZ [0,2,3,4,5,6,7,34,35,36,37,38,39,40,41,42,43,44,45,46,47,48] Z (nB (Ay (Le.nilBox (u := 2) (j := 2) 1 Z Z) (nY Z (Ay (Le.nilBox (u := 2) (j := 3) 2 Z Z) (nY Z (Ay (Le.nilBox (u := 2) (j := 4) 3 Z Z) (nY Z (rT (tR (tR (bR (tR ?_)))))))))))))));refine AO (bR (tR (eR ?_)))
    ·first
     | exact retZ (rd_noA hL hto hrun hk0 h4 h5 h6)
   simp only [HS] at h6;refine AB (tN ?_)
   let c9 : Code := { (stepL c (L[k.toNat]'(by omega))).1 with sites := c.sites }
   refine AU (tE (AK (tN ?_)))
   skip
   refine rG (evI ?_);refine eZ Z (oN ?_);refine lQ (_, c9) ?_ ?_
   ·dsimp only
    first
    | (obtain ⟨g1, g2, g3⟩ := rd_A hrun hk0 h4 h5 h6 hc2 hc3; exact ⟨by omega, by omega, g1, hc1, g2, g3⟩)
   ·(show Int.toNat _ < Int.toNat _); omega
  simp only [HS] at h5;refine AB (tN (sQ ?_))
  obtain ⟨l, hl⟩ : ∃ l, l = L[k.toNat]'(by omega) := ⟨_, rfl⟩
  have hll : l.length ≤ 1048576 := by rw [hl]; exact heach _ (N9 _)
  obtain ⟨u0, ws, hW⟩ : ∃ u0 ws, AH 32 [] l = u0 :: ws := A8
  have hsp2 := CV l 32 hll
  rw [hW] at hsp2
  have hln := Av (c := 32) (l := l) (pre := [])
  rw [hW] at hln
  have hl2 : ((u0 :: ws).length : Int) = (ws.length : Int) + 1 := by simp
  have hf : EZ l = u0 := by unfold EZ; rw [hW]; rfl
  have hr : B5 l = ws := by unfold B5; rw [hW]; rfl
  have heach2 : ∀ w, w ∈ u0 :: ws → w.length ≤ 1048576 := fun w h => by have := A1 (hW ▸ h); simp at this; omega
  have hnl : (numsW ws).length ≤ ws.length := by unfold numsW; split <;> simp
  rw [← hl];refine kY [0,2,5,6,7,34,35,36,37,38,39,40,41,42] Z (rG (eZ Z (AJ ?_)));refine ⟨_, hsp2, rfl, ?_⟩;refine AI (Le.freeze (u := 50) Z) (nZ Z (eZ Z (nA (eZ Z (Cm tys Z Z (AA Z) Z Z Z Z Z Z Z Z (by first | omega | (simp only [N0]; omega)) (by first | omega | (simp only [N0]; omega)) (by first | omega | (simp only [N0]; omega)) ?_)))));rw [M2 u0 ws];refine AJ ?_;refine ⟨_, E1 ws (by omega) (fun w h => heach2 w (by simp [h])), rfl, ?_⟩;refine Al Z Z (AA Z) (.inr Z) Z Z (nZ Z (Ao Z Z (AA Z) Z Z Z Z (AI (Le.freeze (u := 55) Z) (nZ Z (WO_evF tys Z Z (AA Z) (d := .t _) Z (nZ Z (kZ [0,2,5,6,7,8,34,35,36,37,38,39,40,41,42,49,50,51,52,53,54,55,56] Z (eK 2 Z (nB (sQ (sG (eZ Z ?_))))))))))));refine iY (k := ?_);refine eZ Z (AG Z Z (AA Z) Z Z Z CW Z (eZ Z ?_));refine gB (fun h6 => ?_) (fun h6 => ?_)
  ·
   simp only [HS] at h6;refine xK 2 Z (kZ [0,2,5,6,7,8,9,10,34,35,36,37,38,39,40,41,42,49,50,51,52,53,54,55,56,57,58,59,60,61,62,63,64] Z (xK 5 Z (nB (AW Z (sG (AN tys Z Z (AA Z) Z Z Z (by kernel_rfl) Z Z Z Z Z Z (sT Z (nZ Z (eK 2 Z (kZ [0,2,3,4,5,6,7,8,9,10,34,35,36,37,38,39,40,41,42,49,50,51,52,53,54,55,56,57,58,59,60,61,62,63,64,65,66,67,68,69,70] Z (nB (Ay (Le.nilBox (u := 2) (j := 2) 1 Z Z) (nY Z (Ay (Le.nilBox (u := 2) (j := 3) 2 Z Z) (nY Z ?_)))))))))))))));refine Ay (Le.nilBox (u := 2) (j := 4) 3 Z Z) (nY Z (rT (tR (bR (tR (AO (bR (tR (eR ?_)))))))))
   ·first
    | exact retZ (Kf hL hto hrun hk0 h4 h5 hl (MH hf h6))
  simp only [HS] at h6;refine xK 2 Z (kZ [0,2,5,6,7,8,9,10,34,35,36,37,38,39,40,41,42,49,50,51,52,53,54,55,56,57,58,59,60,61,62,63] Z (eK 2 Z ?_));refine gB (fun h7 => ?_) (fun h7 => ?_)
  ·
   simp only [HS] at h7;refine xK 3 Z (nB (AW Z (sG (AN tys Z Z (AA Z) Z Z Z (by kernel_rfl) Z Z Z Z Z Z (sT Z (nZ Z (eK 2 Z (kZ [0,2,3,4,5,6,7,8,9,10,34,35,36,37,38,39,40,41,42,49,50,51,52,53,54,55,56,57,58,59,60,61,62,63,64,65,66,67,68,69,70] Z (nB (Ay (Le.nilBox (u := 2) (j := 2) 1 Z Z) (nY Z (Ay (Le.nilBox (u := 2) (j := 3) 2 Z Z) (nY Z (Ay (Le.nilBox (u := 2) (j := 4) 3 Z Z) (nY Z ?_)))))))))))))));refine rT (tR (bR (tR (AO (bR (tR (eR ?_)))))))
   ·first
    | exact retZ (Kf hL hto hrun hk0 h4 h5 hl (MG hr h7))
  simp only [HS] at h7;refine eZ Z (gY Z (evE ?_));refine xK 2 Z (nB ?_);refine AC Z (fun h8 => ?_) (fun h8 => ?_)
  ·
   simp only [HS] at h8;refine sG (AN tys Z Z (AA Z) Z Z Z (by kernel_rfl) Z Z Z Z Z Z (sT Z (nZ Z (eZ Z (kZ [0,2,3,5,6,7,8,9,10,34,35,36,37,38,39,40,41,42,49,50,51,52,53,54,55,56,57,58,59,60,61,62,63,64,65,66,67,68,69,70] Z (eZ Z (nB (Ay (Le.nilBox (u := 2) (j := 2) 1 Z Z) (nY Z (Ay (Le.nilBox (u := 2) (j := 3) 2 Z Z) (nY Z (Ay (Le.nilBox (u := 2) (j := 4) 3 Z Z) (nY Z (rT (tR ?_)))))))))))))));refine bR (tR (AO (bR (tR (eR ?_)))))
   ·first
    | exact retZ (Kf hL hto hrun hk0 h4 h5 hl (MF hr h7 h8))
  simp only [HS] at h8;refine AB (tN (sQ ?_))
  have hall : ws.all numW = true := by simp_all
  have hnl2 : (numsW ws).length = ws.length := by rw [numsW, if_pos hall, N0]
  have hsg := Fi (c := c) (l := l) (by assumption) hk0 (hf.trans (by assumption)) hr hall hnl2 (by omega)
  have hz1 : c.ins = [] := OL (by omega)
  have hz2 : c.rows = [] := OL (by omega)
  rw [hz1, hz2];refine rG (eZ Z ?_);refine iY (k := ?_);refine eZ Z (kZ [0,2,5,6,7,8,9,10,34,35,36,37,38,39,40,41,42,49,50,51,52,53,54,55,56,57,58,59,60,61,62,63,64,65,66,67,68,69,71,72,73] Z (eZ Z (sT Z (nZ Z (nA (eZ Z ?_))))));refine iY (k := ?_);refine eK 2 Z (sT Z (nZ Z (nB (kY [0,2,5,6,7,8,9,10,34,35,36,37,38,39,40,41,42,49,50,51,52,53,54,55,56,57,58,59,60,61,62,63,64,65,66,67,68,69,71,72,73,74,75,76,77,78] Z (rG (eZ Z (Cm tys Z Z (AA Z) Z Z Z Z Z Z Z Z (by first | omega | (simp only [N0]; omega)) (by first | omega | (simp only [N0]; omega)) (by first | omega | (simp only [N0]; omega)) ?_)))))));rw [dropI];refine AJ ?_;refine ⟨_, Ly ((numsW ws).drop 2) (by simp; omega), rfl, ?_⟩;refine AI (Le.adoptE (u := 81) 81 Z (by first | exact NL | exact Z)) ?_;refine nZ Z (eZ Z (sT Z (nZ Z (oN (bN (tN ?_))))))
  (refine Ay (Le.gatherBox (u := 5) (j := 2) (id := 81) rfl rfl rfl (by simp) rfl) ?_; refine FP rfl ?_; let c9 : Code := ⟨(numsW ws)[(0 : Int).toNat]'(by show 0 < _; omega), (numsW ws)[(1 : Int).toNat]'(by show 1 < _; omega), (numsW ws).drop 2, [], []⟩; rw [Nw (by simp)])
  refine rG (evI ?_);refine eZ Z (oN ?_);refine lQ (_, c9) ?_ ?_
  ·dsimp only
   first
   | (have g1 := rd_B hrun hk0 h4 hl hsg; refine ⟨by omega, by omega, g1, ?_, ?_, ?_⟩; (focus (show ((numsW ws).drop 2).length ≤ 1048576; rw [OT]; omega)); (focus (show (([] : List Ins).length : Int) ≤ k + 1; simp; omega)); (focus (show (([] : List Row).length : Int) ≤ k + 1; simp; omega)))
  ·(show Int.toNat _ < Int.toNat _); omega
 simp only [HS] at h4;refine AU (tE (AP (AK (tN (sQ (sQ ?_))))))
 have hok : c.ok 1048576 := ⟨by unfold okN; omega, by unfold okN; omega, by unfold okN; omega, trivial⟩
 refine Ay (Le.adoptBox (u := 5) (j := 2) (id := 302) Z Z Z) (nY Z (Ay (Le.adoptBox (u := 5) (j := 3) (id := 303) Z Z Z) (nY Z (Ay (Le.adoptBox (u := 5) (j := 4) (id := 304) Z Z Z) (nY Z (rG (eZ Z ?_)))))))
 try refine AI (Le.freeze (u := 85) rfl) ?_
 refine nZ Z (Ba Z Z (AA Z) Z Z (es := [.t c.tt]) (ResL.aggT (ts := [T.int c.params, T.int c.vars, T.ints c.sites, T.Inss c.ins, T.Rows c.rows]) (ResL.t (ResL.t (ResL.slA Z Z (ResL.slA Z Z (ResL.slA Z Z ResL.done))))) ResL.done) (EI c hok) Z (nZ Z (Al Z Z (AA Z) (.inr Z) Z Z (WO_evF tys Z Z (AA Z) (d := .t _) Z (nZ Z (WO_evF tys Z Z (AA Z) (d := .t _) Z (nZ Z (eK 2 Z (nB (sQ (kY [0,2,5,11,12] Z (rG (eK 3 Z ?_)))))))))))));refine gB (fun h5 => ?_) (fun h5 => ?_)
 ·
  simp only [HS] at h5;refine xK 3 Z (nB (AW Z (sG (AN tys Z Z (AA Z) Z Z Z (by kernel_rfl) Z Z Z Z Z Z (sT Z (nZ Z (eZ Z (kZ [2,3,5] Z (eZ Z (nB (Ay (Le.nilBox (u := 2) (j := 2) 1 Z Z) (nY Z (Ay (Le.nilBox (u := 2) (j := 3) 2 Z Z) (nY Z (Ay (Le.nilBox (u := 2) (j := 4) 3 Z Z) ?_)))))))))))))));refine nY Z (rT (tR (eR ?_)))
  ·first
   | exact retZ (ET hto (Fo hL hrun h4) (txt_1 h5))
 simp only [HS] at h5;refine xK 2 Z (gY Z (AG Z Z (AA Z) Z Z Z CW Z (eZ Z (nB ?_))));refine AC Z (fun h6 => ?_) (fun h6 => ?_)
 ·
  simp only [HS] at h6;refine sQ (kY [2,5] Z (rG (AN tys Z Z (AA Z) Z Z Z (by kernel_rfl) Z Z Z Z Z Z (sT Z (nZ Z (eK 2 Z (nB (Ay (Le.nilBox (u := 2) (j := 2) 1 Z Z) (nY Z (Ay (Le.nilBox (u := 2) (j := 3) 2 Z Z) (nY Z (Ay (Le.nilBox (u := 2) (j := 4) 3 Z Z) (nY Z (rT (tR ?_)))))))))))))));refine eR ?_
  ·first
   | exact retZ (ET hto (Fo hL hrun h4) (txt_2 h6))
 simp only [HS] at h6;refine AB (tN (sQ (Ay (Le.gatherBox (u := 5) (j := 2) (id := 302) Z Z Z (by simp) Z) ?_)));refine nY Z (Ay (Le.gatherBox (u := 5) (j := 3) (id := 303) Z Z Z (by simp) Z) ?_);refine nY Z (Ay (Le.gatherBox (u := 5) (j := 4) (id := 304) Z Z Z (by simp) Z) ?_);refine nY Z ?_;rw [Nw (by simp), Nw (by simp), Nw (by simp)];refine kY [2,5] Z (rG (DJ tys Z Z (AA Z) Z Z Z Z Z Z (nZ Z (sT Z (nZ Z (eK 2 Z (nB ?_)))))))
 skip
 refine rT (eR ?_)
 ·first
  | exact retY (HC hto (Fo hL hrun h4) (txt_3 h5 h6))
open Go.Eng
theorem Le.gatherBoxI {c : Ctx} {s : St} {u id j k len : Nat} {ns : List Int} {cells : List D} (hB : lookM s.M u = some (.box cells)) (h1 : cells[j]? = some (.sl id k len)) (hM : lookM s.M id = some (.L 1 (ns.map T.int))) (hl : k + len = ns.length) (h0 : 0 < ns.length) (hne : (id == u) = false) :
  Le c s ⟨s.fr, (u, .box (cells.set j (.own (.sub ((ns.drop k).map T.int))))) :: dropM (some id) s.M⟩ := by
 have e : ∀ l : List Int, l.map T.int = (l.map (Value.int .i64)).map T.v := fun l => by rw [List.map_map]; rfl
 rw [e (ns.drop k), List.map_drop];exact Le.gatherBoxS hB h1 hM (e ns) (by rw [N0]; exact hl) (by rw [N0]; exact h0) hne
noncomputable def stepS (i : Int) (S : T) (l : Tx) : T := if i = 0 ∧ headOk l = true then .sub ((headC l).sites.map T.int) else S
theorem NA {l : Tx} (h : EZ l = DM) : (insRd l).2 = false := by
 have e : (AH 32 [] l).getD 0 [] = DM := h
 rw [insRd, e, show BM DM (wordsL.drop 1) 1 = -1 from by decide];rfl
theorem Kz {l : Tx} (h : lnB C3 l = true) (h2 : 2 ≤ (lnL C3 l).length) : headOk l = true := by
 obtain ⟨h3, h4, h5⟩ := Ew h
 rw [h5, numsW, if_pos h4, N0] at h2;rw [headOk, h3, h4, decide_eq_true h2]; rfl
theorem Ft {l : Tx} (h : lnB C3 l = false) : ¬ headOk l = true := by
 unfold headOk;rw [Nv, Nv, decide_eq_true_eq]
 rintro ⟨h1, h2, _⟩
 rw [Iz h1 rfl, h2] at h;cases h
theorem Fs {l : Tx} (h : lnB C3 l = true) (h2 : ((lnL C3 l).length : Int) < 2) : ¬ headOk l = true := by
 obtain ⟨h3, h4, h5⟩ := Ew h
 rw [h5, numsW, if_pos h4, N0] at h2;unfold headOk;rw [decide_eq_false (show ¬ 2 ≤ (B5 l).length by omega), Og, Og];exact Bool.false_ne_true
theorem Kn {i : Int} {S : T} {c : Code} {l : Tx} (hi : i = 0) (h : lnB C3 l = true) (h2 : 2 ≤ (lnL C3 l).length) (hc : c.ins = [] ∧ c.rows = []) :
  stepS i S l = .sub (((lnL C3 l).drop 2).map T.int) ∧ stepG i c l = (⟨(lnL C3 l)[(0 : Int).toNat]'(by show 0 < _; omega), (lnL C3 l)[(1 : Int).toNat]'(by show 1 < _; omega), (lnL C3 l).drop 2, c.ins, c.rows⟩, true) := by
 have hk := Kz h h2
 obtain ⟨h3, h4, h5⟩ := Ew h
 have hn : (numsW (B5 l)).length = (B5 l).length := by rw [numsW, if_pos h4, N0]
 have g := Fi (c := c) (by omega : i ≤ 0) (by omega) h3 rfl h4 hn (by rw [← h5]; exact h2)
 have g2 : headC l = (stepG i c l).1 := by rw [stepG, if_pos hi, if_pos hk]
 refine ⟨?_, ?_⟩
 ·rw [stepS, if_pos ⟨hi, hk⟩, g2, g]
  simp only [h5]
 ·rw [g, hc.1, hc.2]
  simp only [h5]
theorem Iy {i : Int} {S : T} {c : Code} {l : Tx} (hi : i = 0) (h : ¬ headOk l = true) : stepS i S l = S ∧ stepG i c l = (c, false) :=
 ⟨by rw [stepS, if_neg fun e => h e.2], Gx (by omega) (by omega) h⟩
theorem ln_S {i : Int} {S : T} {l : Tx} (hi : ¬ i = 0) : stepS i S l = S := by rw [stepS, if_neg fun e => hi e.1]
theorem ln_G {i : Int} {c : Code} {l : Tx} (hi : ¬ i = 0) : stepG i c l = stepL c l := by rw [stepG, if_neg hi]
theorem Ml {i : Int} {S : T} {c : Code} {l : Tx} (hi : ¬ i = 0) (h : lnB DM l = true) (h3 : ((lnL DM l).length : Int) = 3) :
  stepS i S l = S ∧ stepG i c l = ({ c with rows := c.rows ++ [⟨(lnL DM l)[(0 : Int).toNat]'(by show 0 < _; omega), (lnL DM l)[(1 : Int).toNat]'(by show 1 < _; omega), (lnL DM l)[(2 : Int).toNat]'(by show 2 < _; omega)⟩] }, true) := by
 obtain ⟨g3, g4, g5⟩ := Ew h
 have hn : (numsW (B5 l)).length = (B5 l).length := by rw [numsW, if_pos g4, N0]
 refine ⟨ln_S hi, ?_⟩
 have g := Dr (c := c) g3 rfl g4 (by rw [g5] at h3; omega) hn
 rw [ln_G hi, g];simp only [g5]
theorem HP {i : Int} {S : T} {c : Code} {l : Tx} (hi : ¬ i = 0) (h : ¬ (lnB DM l = true ∧ (lnL DM l).length = 3)) (h2 : ¬ ((insRd l).2 = true ∧ c.rows.length = 0)) : stepS i S l = S ∧ stepG i c l = (c, false) := by
 refine ⟨ln_S hi, ?_⟩;rw [ln_G hi]
 by_cases hf : EZ l = DM
 ·refine Cc hf fun e => h ?_
  have hb : lnB DM l = true := by rw [Iz hf rfl, e.1]
  refine ⟨hb, ?_⟩;rw [(Ew hb).2.2, numsW, if_pos e.1, N0];exact e.2
 ·exact DP hf h2
theorem Ix {i : Int} {S : T} {c : Code} {l : Tx} (hi : ¬ i = 0) (h1 : (insRd l).2 = true) (h2 : (c.rows.length : Int) ≤ 0) : stepS i S l = S ∧ stepG i c l = ({ c with ins := c.ins ++ [(insRd l).1] }, true) := by
 refine ⟨ln_S hi, ?_⟩;rw [ln_G hi];exact Ej (fun hf => by rw [NA hf] at h1; cases h1) h1 (by omega)
theorem no_1 {l : Tx} (h : lnB DM l = false) : ¬ (lnB DM l = true ∧ (lnL DM l).length = 3) := by rw [h]; exact fun e => Bool.noConfusion e.1
theorem no_2 {l : Tx} (h : ¬ ((lnL DM l).length : Int) = 3) : ¬ (lnB DM l = true ∧ (lnL DM l).length = 3) := fun e => h (by omega)
theorem no_3 {l : Tx} {c : Code} (h : (insRd l).2 = false) : ¬ ((insRd l).2 = true ∧ c.rows.length = 0) := by rw [h]; exact fun e => Bool.noConfusion e.1
theorem no_4 {l : Tx} {c : Code} (h : 0 < (c.rows.length : Int)) : ¬ ((insRd l).2 = true ∧ c.rows.length = 0) := fun e => by omega
theorem FY {i : Int} {S S' : T} {c c' : Code} {l : Tx} {b : Bool} (h : stepS i S l = S' ∧ stepG i c l = (c', b)) : Aq [D.t (T.v (.bool b))] = D.t (T.bool (stepG i c l).2) := by rw [h.2]; rfl
theorem C6 {i : Int} {S S' : T} {c c' : Code} {l : Tx} {b : Bool} {p : Value} {cells : List D} (h : stepS i S l = S' ∧ stepG i c l = (c', b)) (hc : cells = cC S' c') : [Blk.obox p cells] = [Blk.obox p (cC (stepS i S l) (stepG i c l).1)] := by rw [hc, h.1, h.2]
theorem HQ (bw : Nat) (i : Int) (S : T) (c : Code) (l : Tx) (hl : l.length ≤ 1048576) (hc1 : c.ins.length ≤ 1000000) (hc2 : c.rows.length ≤ 1000000) (hz : i = 0 → c.ins = [] ∧ c.rows = []) : ProcL Tryz.prog Lad 22 [.t (.v (.pointer (some ⟨bw, 0, none⟩))), .t (.int i), .t (T.str l)] ([]) ([]) [.obox (.pointer (some ⟨bw, 0, none⟩)) (cC S c)] (.t (.bool (stepG i c l).2)) [.obox (.pointer (some ⟨bw, 0, none⟩)) (cC (stepS i S l) (stepG i c l).1)] := by
 have hri := E7 l hl
 rw [← J1 l] at hri
 have hn1 := Ch l C3 hl
 have hn2 := Ch l DM hl
 refine ProcL.intro tys Tryz.func22 Z Z (N := 99) [100] 99 ([(0, .t (.v (.pointer (some ⟨bw, 0, none⟩)))), (1, .t (.int i)), (2, .t (T.str l))]) ([(100, .obox (.pointer (some ⟨bw, 0, none⟩)) (cC S c)), (99, .ro [] [])]) Z Z Z Z (by decide) (by decide) Z (fun w0 G F0 hL => ?_);refine nY Z (Ay (Le.openNew (u := 100) 1100 Z Z Z Z Z) (nY Z (Ay (Le.named (t := 0) (u := 100) 1100 Z Z) (nY Z (LO (sG (eZ Z (nB (sQ (sG (eK 2 Z (nB ?_))))))))))));refine AC Z (fun h1 => ?_) (fun h1 => ?_)
 ·
  simp only [HS] at h1;refine sG (eZ Z (B7 hL ?_));refine ⟨_, hn1, rfl, ?_⟩;refine nZ Z (Al Z Z (AA Z) (.inr Z) Z Z (Ao Z Z (AA Z) Z Z Z Z ?_))
  first | refine AI (Le.adoptE (u := 18) 18 rfl (by first | exact NL | exact rfl)) ?_ | skip
  refine nZ Z (WO_evF tys Z Z (AA Z) (d := .t _) Z (nZ Z (eZ Z (kZ [0,2,6,7,19] Z (eZ Z (nB (sQ (sG (eK 3 Z ?_)))))))));refine gB (fun h2 => ?_) (fun h2 => ?_)
  ·
   simp only [HS] at h2;refine xK 3 Z (nB (AW Z (sQ (kY [0,2,6,7] Z (rG (eZ Z (nB (rT (tR (tR ?_))))))))))
   skip
   refine AL (Le.close (u := 100) 1100 Z Z Z) (AM Z (Af ?_));refine eP [_] ?_ ?_
   ·first
    | exact FY (Iy (S := S) (c := c) h1 (Ft h2))
   ·first
    | (refine C6 (Iy (S := S) (c := c) h1 (Ft h2)) ?_; first | rfl | (simp [Nw]; done) | (simp [Nw]; rfl))
  simp only [HS] at h2;refine eZ Z (gY Z (evE ?_));refine xK 2 Z (nB ?_);refine AC Z (fun h3 => ?_) (fun h3 => ?_)
  ·
   simp only [HS] at h3;refine sQ (kY [0,2,6,7] Z (rG (eZ Z (nB (rT (tR (tR ?_)))))))
   skip
   refine AL (Le.close (u := 100) 1100 Z Z Z) (AM Z (Af ?_));refine eP [_] ?_ ?_
   ·first
    | exact FY (Iy (S := S) (c := c) h1 (Fs h2 h3))
   ·first
    | (refine C6 (Iy (S := S) (c := c) h1 (Fs h2 h3)) ?_; first | rfl | (simp [Nw]; done) | (simp [Nw]; rfl))
  simp only [HS] at h3;refine AB (tN (sQ ?_))
  have h2l : 2 ≤ (lnL C3 l).length := by simp_all; omega
  refine kY [0,2,6,7] Z (Bu 17 [[], [100], [100], [], [], [], [], [], [], [100], [100], [], [], [], [], [], []] mixed Z (by kernel_rfl) (by kernel_rfl) (Ab (Ad tys Z Z (AA Z) Z (AE (CL (Ad tys Z Z (AA Z) Z (AE (CL (Ad tys Z Z (AA Z) Z (AE (Ab (Ad tys Z Z (AA Z) Z (AE (Aj Z (Ab ?_)))))))))))))));refine Lc tys Z Z (AA Z) Z Z Z Z Z Z Z Z (by omega) (by omega) (AE (Ab (Jd tys Z Z (AA Z) Z Z Z Z (K1 _ _ (by omega) (by omega)) Z (AE (Ab (Ad tys Z Z (AA Z) Z (AE (Ab (Lc tys Z Z (AA Z) Z Z Z Z Z Z Z Z (by omega) (by omega) (AE (Aj Z (Ab (Jd tys Z Z (AA Z) Z Z Z Z (K1 _ _ (by omega) (by omega)) Z (AE (CL ?_)))))))))))))));refine Ad tys Z Z (AA Z) Z (AE (CL (La tys Z Z (AA Z) Z Z Z Z Z Z Z Z Z (by omega) (by omega) (by omega) (AE (Ab (DK rfl Z (AA Z) Z Z Z (AE (Aj Z (Ab (Ad tys Z Z (AA Z) Z (AE (C2 tys 10013 Z Z Z Z Z Z Z Z Z (Nat.le_of_ble_eq_true Z) (Ab (DK rfl Z (AA Z) Z Z Z (AE ?_)))))))))))))));refine Ab (Ad tys Z Z (AA Z) Z (AE (Aj Z (C2 tys 10016 Z Z Z Z Z Z Z Z Z (Nat.le_of_ble_eq_true Z) (C7 ?_)))));refine ⟨by kernel_rfl, ?_⟩;refine nZ Z (CA rfl Z (AA Z) Z Z Z (eZ Z (sT Z (nZ Z (nA (eZ Z (nB (rT (tR ?_)))))))))
  (refine AL (Le.gatherBoxI (u := 100) (j := 2) (id := 18) rfl rfl rfl (by simp; omega) (by omega) rfl) ?_; refine AM rfl ?_)
  refine AL (Le.close (u := 100) 1100 Z Z Z) (AM Z (Af ?_));refine eP [_] ?_ ?_
  ·first
   | exact FY (Kn (S := S) (c := c) h1 h2 h2l (hz h1))
  ·first
   | (refine C6 (Kn (S := S) (c := c) h1 h2 h2l (hz h1)) ?_; first | rfl | (simp [Nw]; done) | (simp [Nw]; rfl))
 simp only [HS] at h1;refine AB (tN (sQ (sG (eZ Z (B7 hL ?_)))));refine ⟨_, hn2, rfl, ?_⟩;refine nZ Z (Al Z Z (AA Z) (.inr Z) Z Z (nZ Z (Ao Z Z (AA Z) Z Z Z Z (AI (Le.freeze (u := 47) Z) (nZ Z (WO_evF tys Z Z (AA Z) (d := .t _) Z (nZ Z (eZ Z (kZ [0,2,6,9,48] Z (eZ Z (nA (eK 2 Z ?_))))))))))));refine gB (fun h2 => ?_) (fun h2 => ?_)
 ·
  simp only [HS] at h2;refine xK 3 Z (nB (Ax Z (AB (tN (sG (eZ Z (B7 hL ?_)))))));refine ⟨_, hri, rfl, ?_⟩;refine nZ Z (Al Z Z (AA Z) (.inr Z) Z Z (kZ [0,6,74] Z (Ao Z Z (AA Z) Z Z Z Z ?_)))
  first | refine AI (Le.adoptE (u := 77) 77 rfl (by first | exact NL | exact rfl)) ?_ | skip
  refine nZ Z (WO_evF tys Z Z (AA Z) (d := .t _) Z (nZ Z (AR tys Z Z (AA Z) Z Z Z (nZ Z (sT Z (nZ Z (eZ Z (nB (sQ (sQ (Ay (Le.adoptBox (u := 100) (j := 4) (id := 300) Z Z Z) (nY Z (rG (eK 3 Z ?_))))))))))))));refine gB (fun h3 => ?_) (fun h3 => ?_)
  ·
   simp only [HS] at h3;refine xZ Z (kZ [0,6,11,81,83] Z (xK 5 Z (nB (AW Z (sG (eZ Z (nB (rT (tR ?_)))))))))
   (refine AL (Le.gatherBox (u := 100) (j := 4) (id := 300) rfl rfl rfl (by simp) rfl) ?_; refine AM rfl ?_)
   refine AL (Le.close (u := 100) 1100 Z Z Z) (AM Z (Af ?_));refine eP [_] ?_ ?_
   ·first
    | exact FY (HP (S := S) (c := c) h1 (no_1 h2) (no_3 h3))
   ·first
    | (refine C6 (HP (S := S) (c := c) h1 (no_1 h2) (no_3 h3)) ?_; first | rfl | (simp [Nw]; done) | (simp [Nw]; rfl))
  simp only [HS] at h3;refine eZ Z (gY Z (CA rfl Z (AA Z) Z Z Z (kZ [0,6,11,81,83] Z (xK 2 Z (gY Z (evE ?_))))));refine xK 2 Z (nB ?_);refine AC Z (fun h4 => ?_) (fun h4 => ?_)
  ·
   simp only [HS] at h4;refine sG (eZ Z (nB (rT (tR ?_))))
   (refine AL (Le.gatherBox (u := 100) (j := 4) (id := 300) rfl rfl rfl (by simp) rfl) ?_; refine AM rfl ?_)
   refine AL (Le.close (u := 100) 1100 Z Z Z) (AM Z (Af ?_));refine eP [_] ?_ ?_
   ·first
    | exact FY (HP (S := S) (c := c) h1 (no_1 h2) (no_4 h4))
   ·first
    | (refine C6 (HP (S := S) (c := c) h1 (no_1 h2) (no_4 h4)) ?_; first | rfl | (simp [Nw]; done) | (simp [Nw]; rfl))
  simp only [HS] at h4;refine AB (tN (sQ ?_));refine BB (u := 100) (idp := 401) (j := 3) Z Z Z (fun v9 => ?_);refine nY Z (Bu 8 [[401], [], [], [], [], [401], [401], []] mixed Z (by kernel_rfl) (by kernel_rfl) (CL (Ad tys Z Z (AA Z) Z (AE (Ab (Ad tys Z Z (AA Z) Z (AE (Ab (DK rfl Z (AA Z) Z Z Z (AE (Ab (Ad tys Z Z (AA Z) Z (AE (Aj Z (Cp tys 401 Z Z (AA Z) Z Z ?_)))))))))))))));refine CL (Dp tys Z Z (AA Z) Z Z (AE (CL ?_)));refine CM tys [.agg [T.int (insRd l).1.op, T.int (insRd l).1.n]] Z Z (AA Z) Z Z Z Z Z (AA Z) (by repeat (first | exact PartsOk.nil' | refine PartsOk.cons' rfl (by repeat (first | exact AbsL.nil' | refine AbsL.v' ?_ | refine AbsL.own' ?_ | refine AbsL.none' ?_)) Z ?_)) Z Z Z (by decide) ?_;refine AE (Ab (CN tys rfl rfl (AA rfl) rfl rfl rfl rfl rfl rfl rfl rfl rfl ((fun x hx => by rw [Oe] at hx; subst hx; exact ⟨rfl, fun z hz => by simp only [T.cells, N6, List.not_mem_nil, or_false] at hz; rcases hz with rfl | rfl <;> exact ⟨_, rfl⟩⟩)) (by simp; omega) (by decide) rfl ?_));refine AE (Aj Z (C7 ?_));refine ⟨by kernel_rfl, ?_⟩;refine nZ Z (CA rfl Z (AA Z) Z Z Z (eZ Z (sT Z (nZ Z (nA (eZ Z (nB (rT ?_))))))))
  (refine AL (Le.gatherBox (u := 100) (j := 4) (id := 300) rfl rfl rfl (by simp) rfl) ?_; refine AM rfl ?_)
  refine AL (Le.close (u := 100) 1100 Z Z Z) (AM Z (Af ?_));refine eP [_] ?_ ?_
  ·first
   | exact FY (Ix (S := S) (c := c) h1 h3 h4)
  ·first
   | (refine C6 (Ix (S := S) (c := c) h1 h3 h4) ?_; first | rfl | (simp [Nw]; done) | (simp [Nw]; rfl))
 refine eZ Z (gY Z (evE ?_));refine xK 2 Z (nB ?_);refine AC Z (fun h3 => ?_) (fun h3 => ?_)
 ·
  simp only [HS] at h3;refine sQ ?_;refine BB (u := 100) (idp := 400) (j := 4) Z Z Z (fun v9 => ?_);refine nY Z ?_
  have hw3 : ((lnL DM l).length : Int) = 3 := by simp_all
  refine kY [0,2,6,9] Z (Bu 17 [[400], [], [], [], [], [400], [400], [400], [400], [400], [400], [400], [400], [400], [400], [400], []] mixed Z (by kernel_rfl) (by kernel_rfl) (CL (Ad tys Z Z (AA Z) Z (AE (Ab (Ad tys Z Z (AA Z) Z (AE (Ab (DK rfl Z (AA Z) Z Z Z (AE (Ab (Ad tys Z Z (AA Z) Z (AE (Aj Z (Cp tys 400 Z Z (AA Z) Z Z ?_)))))))))))))));refine CL (Ad tys Z Z (AA Z) Z (AE (CL (D9 tys Z Z (AA Z) Z Z Z Z Z Z Z (by omega) _ (FW _ _ (by omega) (by omega)) (AE (CL (Ad tys Z Z (AA Z) Z (AE (Aj Z (CL (Ad tys Z Z (AA Z) Z (AE (CL (D9 tys Z Z (AA Z) Z Z Z Z Z Z Z (by omega) _ (FW _ _ (by omega) (by omega)) (AE ?_)))))))))))))));refine CL (Ad tys Z Z (AA Z) Z (AE (CL (Ad tys Z Z (AA Z) Z (AE (Aj Z (CL (D9 tys Z Z (AA Z) Z Z Z Z Z Z Z (by omega) _ (FW _ _ (by omega) (by omega)) (AE (CL (Ad tys Z Z (AA Z) Z (AE (CL (Hp tys Z Z (AA Z) Z Z Z (by kernel_rfl) Z Z Z Z Z Z (AE ?_)))))))))))))));refine CL ?_;refine CM tys [.agg [T.int ((lnL DM l)[(0 : Int).toNat]'(by show 0 < _; omega)), T.int ((lnL DM l)[(1 : Int).toNat]'(by show 1 < _; omega)), T.int ((lnL DM l)[(2 : Int).toNat]'(by show 2 < _; omega))]] Z Z (AA Z) Z Z Z Z Z (AA Z) (by repeat (first | exact PartsOk.nil' | refine PartsOk.cons' rfl (by repeat (first | exact AbsL.nil' | refine AbsL.v' ?_ | refine AbsL.own' ?_ | refine AbsL.none' ?_)) Z ?_)) Z Z Z (by decide) ?_;refine AE (Aj rfl (Ab (CN tys rfl rfl (AA rfl) rfl rfl rfl rfl rfl rfl rfl rfl rfl ((fun x hx => by rw [Oe] at hx; subst hx; exact ⟨rfl, fun z hz => by simp only [T.cells, N6, List.not_mem_nil, or_false] at hz; rcases hz with rfl | rfl | rfl <;> exact ⟨_, rfl⟩⟩)) (by simp; omega) (by decide) rfl ?_)));refine AE (C7 ?_);refine ⟨by kernel_rfl, ?_⟩;refine nZ Z (CA rfl Z (AA Z) Z Z Z (eZ Z (sT Z (nZ Z (nA (eZ Z (nB (rT (tR ?_)))))))))
  skip
  refine AL (Le.close (u := 100) 1100 Z Z Z) (AM Z (Af ?_));refine eP [_] ?_ ?_
  ·first
   | exact FY (Ml (S := S) (c := c) h1 h2 hw3)
  ·first
   | (refine C6 (Ml (S := S) (c := c) h1 h2 hw3) ?_; first | rfl | (simp [Nw]; done) | (simp [Nw]; rfl))
 simp only [HS] at h3;refine AB (tN (sQ (kY [0,2,6] Z (rG (eZ Z (B7 hL ?_))))));refine ⟨_, hri, rfl, ?_⟩;refine nZ Z (Al Z Z (AA Z) (.inr Z) Z Z (Ao Z Z (AA Z) Z Z Z Z ?_))
 first | refine AI (Le.adoptE (u := 77) 77 rfl (by first | exact NL | exact rfl)) ?_ | skip
 refine nZ Z (WO_evF tys Z Z (AA Z) (d := .t _) Z (nZ Z (AR tys Z Z (AA Z) Z Z Z (nZ Z (sT Z (nZ Z (eZ Z (nB (sQ (sQ (Ay (Le.adoptBox (u := 100) (j := 4) (id := 300) Z Z Z) (nY Z (kY [0,6,11,12] Z (rG (eK 3 Z ?_)))))))))))))));refine gB (fun h4 => ?_) (fun h4 => ?_)
 ·
  simp only [HS] at h4;refine xK 6 Z (kZ [0,6,11,88] Z (nB (AW Z (sG (eZ Z (nB (rT (tR ?_))))))))
  (refine AL (Le.gatherBox (u := 100) (j := 4) (id := 300) rfl rfl rfl (by simp) rfl) ?_; refine AM rfl ?_)
  refine AL (Le.close (u := 100) 1100 Z Z Z) (AM Z (Af ?_));refine eP [_] ?_ ?_
  ·first
   | exact FY (HP (S := S) (c := c) h1 (no_2 h3) (no_3 h4))
  ·first
   | (refine C6 (HP (S := S) (c := c) h1 (no_2 h3) (no_3 h4)) ?_; first | rfl | (simp [Nw]; done) | (simp [Nw]; rfl))
 simp only [HS] at h4;refine eZ Z (gY Z (CA rfl Z (AA Z) Z Z Z (xK 2 Z (gY Z (evE ?_)))));refine xZ Z (kZ [0,6,11,81,87] Z (eZ Z (nB ?_)));refine AC Z (fun h5 => ?_) (fun h5 => ?_)
 ·
  simp only [HS] at h5;refine sG (eZ Z (nB (rT (tR ?_))))
  (refine AL (Le.gatherBox (u := 100) (j := 4) (id := 300) rfl rfl rfl (by simp) rfl) ?_; refine AM rfl ?_)
  refine AL (Le.close (u := 100) 1100 Z Z Z) (AM Z (Af ?_));refine eP [_] ?_ ?_
  ·first
   | exact FY (HP (S := S) (c := c) h1 (no_2 h3) (no_4 h5))
  ·first
   | (refine C6 (HP (S := S) (c := c) h1 (no_2 h3) (no_4 h5)) ?_; first | rfl | (simp [Nw]; done) | (simp [Nw]; rfl))
 simp only [HS] at h5;refine AB (tN (sQ ?_));refine BB (u := 100) (idp := 401) (j := 3) Z Z Z (fun v9 => ?_);refine nY Z (Bu 8 [[401], [], [], [], [], [401], [401], []] mixed Z (by kernel_rfl) (by kernel_rfl) (CL (Ad tys Z Z (AA Z) Z (AE (Ab (Ad tys Z Z (AA Z) Z (AE (Ab (DK rfl Z (AA Z) Z Z Z (AE (Ab (Ad tys Z Z (AA Z) Z (AE (Aj Z (Cp tys 401 Z Z (AA Z) Z Z ?_)))))))))))))));refine CL (Dp tys Z Z (AA Z) Z Z (AE (CL ?_)));refine CM tys [.agg [T.int (insRd l).1.op, T.int (insRd l).1.n]] Z Z (AA Z) Z Z Z Z Z (AA Z) (by repeat (first | exact PartsOk.nil' | refine PartsOk.cons' rfl (by repeat (first | exact AbsL.nil' | refine AbsL.v' ?_ | refine AbsL.own' ?_ | refine AbsL.none' ?_)) Z ?_)) Z Z Z (by decide) ?_;refine AE (Ab (CN tys rfl rfl (AA rfl) rfl rfl rfl rfl rfl rfl rfl rfl rfl ((fun x hx => by rw [Oe] at hx; subst hx; exact ⟨rfl, fun z hz => by simp only [T.cells, N6, List.not_mem_nil, or_false] at hz; rcases hz with rfl | rfl <;> exact ⟨_, rfl⟩⟩)) (by simp; omega) (by decide) rfl ?_));refine AE (Aj Z (C7 ?_));refine ⟨by kernel_rfl, ?_⟩;refine nZ Z (CA rfl Z (AA Z) Z Z Z (eZ Z (sT Z (nZ Z (nA (eZ Z (nB (rT ?_))))))))
 (refine AL (Le.gatherBox (u := 100) (j := 4) (id := 300) rfl rfl rfl (by simp) rfl) ?_; refine AM rfl ?_)
 refine AL (Le.close (u := 100) 1100 Z Z Z) (AM Z (Af ?_));refine eP [_] ?_ ?_
 ·first
  | exact FY (Ix (S := S) (c := c) h1 h4 h5)
 ·first
  | (refine C6 (Ix (S := S) (c := c) h1 h4 h5) ?_; first | rfl | (simp [Nw]; done) | (simp [Nw]; rfl))
open Go.Eng
theorem F8 (s : Tx) (c : UInt8) : Lib.hasSuffix s [c] = decide (s.getLast? = some c) := by
 show [c].isSuffixOf s = _;rw [Bool.eq_iff_iff, decide_eq_true_eq, List.isSuffixOf_iff_suffix]
 constructor
 ·rintro ⟨t, rfl⟩; simp
 ·intro h
  obtain ⟨t, rfl⟩ := List.getLast?_eq_some_iff.1 h
  exact ⟨t, rfl⟩
theorem M1 {s : Tx} (h : Lib.hasSuffix s [10] = false) : ¬ BN s = true := by
 unfold BN; rw [← F8, h, Og]; exact Bool.false_ne_true
theorem KS {s : Tx} (h1 : (s.length : Int) ≤ 8000) (h : Lib.hasSuffix s [10] = true) : BN s = true ∧ AH 10 [] s = AH 10 [] s.dropLast ++ [[]] := by
 have hl : s.getLast? = some 10 := by rw [F8] at h; exact of_decide_eq_true h
 refine ⟨by unfold BN; rw [← F8, h, decide_eq_true (by omega)]; rfl, ?_⟩
 obtain ⟨t, rfl⟩ := List.getLast?_eq_some_iff.1 hl
 rw [C9, List.dropLast_concat]
theorem initL (L : List Tx) : List.take ((((L ++ [[]]).length : Int) - 1).toNat - Int.toNat 0) (List.drop (Int.toNat 0) ((L ++ [[]]).map T.str)) = L.map T.str := by
 have e : List.drop (Int.toNat 0) ((L ++ [[]]).map T.str) = L.map T.str ++ [T.str []] := by simp
 rw [e]
 have e2 : ((((L ++ [[]]).length : Int) - 1).toNat - Int.toNat 0) = (L.map T.str).length := by simp
 rw [e2, List.take_left]
noncomputable def subT (r : Code × Int × Bool) : T := if r.2.2 = true then .sub (r.1.sites.map T.int) else T.ints r.1.sites
theorem Kd {s : Tx} {n : Int} (h : readL s = (code0, n, false)) : [D.agg [D.t (T.v (.int .i64 0)), D.t (T.v (.int .i64 0)), D.own (T.list 1 []), D.own (T.list 2 []), D.own (T.list 3 [])], D.t (T.v (.int .i64 n)), D.t (T.v (.bool false))] =
  [D.agg [.t (T.int (readL s).1.params), .t (T.int (readL s).1.vars), .own (subT (readL s)), .own (T.Inss (readL s).1.ins), .own (T.Rows (readL s).1.rows)], D.t (T.int (readL s).2.1), D.t (T.bool (readL s).2.2)] := by
 rw [h, subT, if_neg (show ¬ ((code0, n, false) : Code × Int × Bool).2.2 = true from Bool.false_ne_true)]; rfl
theorem retYA {s : Tx} {c : Code} (h : readL s = (c, 0, true)) : [D.agg [D.t (T.v (.int .i64 c.params)), D.t (T.v (.int .i64 c.vars)), D.own (T.sub (c.sites.map T.int)), D.own (T.Inss c.ins), D.own (T.Rows c.rows)], D.t (T.v (.int .i64 0)), D.t (T.v (.bool true))] =
  [D.agg [.t (T.int (readL s).1.params), .t (T.int (readL s).1.vars), .own (subT (readL s)), .own (T.Inss (readL s).1.ins), .own (T.Rows (readL s).1.rows)], D.t (T.int (readL s).2.1), D.t (T.bool (readL s).2.2)] := by
 rw [h, subT, if_pos rfl]
theorem Im {l : Tx} (hl : l.length ≤ 1048576) : (B5 l).length ≤ 1048576 := by
 have := Av (c := 32) (l := l) (pre := [])
 unfold B5; rw [OT]; omega
theorem S_at {k : Int} {S : T} {c : Code} {l : Tx} (h0 : 0 ≤ k) (hS : 0 < k → S = .sub (c.sites.map T.int)) (hs : (stepG k c l).2 = true) : stepS k S l = .sub ((stepG k c l).1.sites.map T.int) := by
 by_cases hk : k = 0
 ·have hh : headOk l = true := by
   rw [← Bool.not_eq_false]; intro e;rw [stepG, if_pos hk, if_neg (by rw [e]; exact Bool.false_ne_true)] at hs;cases hs
  rw [stepS, if_pos ⟨hk, hh⟩, stepG, if_pos hk, if_pos hh]
 ·rw [ln_S hk, ln_G hk, stepL_sm.1]; exact hS (by omega)
theorem rd_noG {s : Tx} {L : List Tx} {k : Int} {c : Code} (hL : L = AH 10 [] s.dropLast) (ht : BN s = true) (hr : runG 0 code0 L = runG k c (L.drop k.toNat)) (h0 : 0 ≤ k) (h1 : k < L.length) (h6 : (stepG k c (L[k.toNat]'(by omega))).2 = false) : readL s = (code0, k + 1, false) :=
 GG hL ht hr h0 h1 (by rw [h6]; exact Bool.false_ne_true)
theorem by_1 {c : Code} {s : Tx} (h : (codeBytesR c).2 = false) : ¬ ((codeBytesR c).2 = true ∧ codeTx c = s) := by rw [h]; exact fun e => Bool.noConfusion e.1
theorem EL (s : Tx) (hs : s.length ≤ 1048576) : FunL Tryz.prog Lad 6 [.t (T.str s)] (Aq [.agg [.t (T.int (readL s).1.params), .t (T.int (readL s).1.vars), .own (subT (readL s)), .own (T.Inss (readL s).1.ins), .own (T.Rows (readL s).1.rows)], .t (T.int (readL s).2.1), .t (T.bool (readL s).2.2)]) := by
 refine FunL.begin LadS tys Tryz.func6 Z Z (N := 56) [(0, .t (T.str s))] Z Z (fun w0 G F0 hL => ?_);refine sG (AR tys Z Z (AA Z) Z Z Z (nZ Z (eK 2 Z (nB (sQ (sG (eZ Z (A5 Z Z (AA Z) Z (by kernel_rfl) Z (eK 2 Z ?_)))))))));refine gB (fun h1 => ?_) (fun h1 => ?_)
 ·
  simp only [HS] at h1;refine xK 2 Z (kZ [0,2,3,4,14,17] Z (eZ Z (nB (AW Z (sG (AN tys Z Z (AA Z) Z Z Z (by kernel_rfl) Z Z Z Z Z Z (sT Z (nZ Z (eK 2 Z (nB (Ay (Le.nilBox (u := 2) (j := 2) 1 Z Z) (nY Z (Ay (Le.nilBox (u := 2) (j := 3) 2 Z Z) (nY Z (Ay (Le.nilBox (u := 2) (j := 4) 3 Z Z) ?_)))))))))))))));refine nY Z (rT (tR (eR ?_)))
  ·first
   | exact Kd (readL_bad (Ih h1))
 simp only [HS] at h1;refine eZ Z (gY Z (AJ ?_));refine ⟨_, GS s [10] hs, rfl, ?_⟩;refine kZ [0,2,3,4,14,16] Z (xK 2 Z (nB ?_));refine AC Z (fun h2 => ?_) (fun h2 => ?_)
 ·
  simp only [HS] at h2;refine sG (AN tys Z Z (AA Z) Z Z Z (by kernel_rfl) Z Z Z Z Z Z (sT Z (nZ Z (eK 2 Z (nB (Ay (Le.nilBox (u := 2) (j := 2) 1 Z Z) (nY Z (Ay (Le.nilBox (u := 2) (j := 3) 2 Z Z) (nY Z (Ay (Le.nilBox (u := 2) (j := 4) 3 Z Z) (nY Z (rT (tR (eR ?_))))))))))))))
  ·first
   | exact Kd (readL_bad (M1 h2))
 simp only [HS] at h2;refine AB (tN (sG (AR tys Z Z (AA Z) Z Z Z (nZ Z (nB (sQ ?_))))))
 obtain ⟨hto, hspl⟩ := KS (s := s) (by assumption) (by assumption)
 obtain ⟨L, hLe⟩ : ∃ L, L = AH 10 [] s.dropLast := ⟨_, rfl⟩
 have hsp := Gy s 10 hs
 rw [hspl, ← hLe] at hsp
 have hLl : L.length ≤ s.length + 1 := by rw [hLe]; have := Av (c := 10) (l := s.dropLast) (pre := []); simp at this; omega
 have hLa : (L ++ [[]]).length = L.length + 1 := by simp
 have hLp : 0 < L.length := by obtain ⟨u, v, e⟩ := A8 (c := 10) (pre := []) (l := s.dropLast); rw [hLe, e]; simp
 have heach : ∀ l, l ∈ L → l.length ≤ 1048576 := fun l h => by rw [hLe] at h; have := A1 h; simp at this; omega
 refine W_pin (u := 5) (pid := 1005) Z Z (fun bw => ?_);refine nY Z (Ay (Le.roNil 99) (nY Z (Ay (Le.nilBox (u := 5) (j := 2) 1 Z Z) (nY Z (Ay (Le.nilBox (u := 5) (j := 3) 2 Z Z) (nY Z (Ay (Le.nilBox (u := 5) (j := 4) 3 Z Z) (nY Z (rG (eZ Z (B7 hL ?_)))))))))));refine ⟨_, hsp, rfl, ?_⟩;refine nZ Z (AI (Le.freeze (u := 21) Z) (nZ Z (eZ Z (nB (sQ (sG (eK 2 Z (evE ?_))))))));refine kZ [0,2,3,4,5,22,24] Z (evI ?_);refine Cm tys Z Z (AA Z) Z Z Z Z Z Z Z Z (by first | omega | (simp only [N0]; omega)) (by first | omega | (simp only [N0]; omega)) (by first | omega | (simp only [N0]; omega)) ?_;rw [initL];refine evE ?_;refine eZ Z (nB (AD ?_));refine lK (α := Int × T × Code) [0, 2, 5, 26, 27] [2, 99, 1005] (fun x => [(28, .t (.int (x.1)))]) (fun x => [(5, .box (cC (x.2.1) (x.2.2)))]) (fun x => 0 ≤ (x.1) ∧ (x.1) ≤ L.length ∧ runG 0 code0 L = runG (x.1) (x.2.2) (L.drop (x.1).toNat) ∧ (x.2.2).sites.length ≤ 1048576 ∧ ((x.2.2).ins.length : Int) ≤ (x.1) ∧ ((x.2.2).rows.length : Int) ≤ (x.1) ∧ (0 < (x.1) → (x.2.1) = .sub ((x.2.2).sites.map T.int))) (fun x => Int.toNat (L.length - (x.1))) (0, T.list 1 [], code0) ?_ (fun x hx => ?_)
 ·exact ⟨OC 0, by simp only; omega, rfl, OU _, OC 0, OC 0, fun h => absurd h (by decide)⟩
 obtain ⟨k, S, c⟩ := x
 obtain ⟨hk0, hk1, hrun, hc1, hc2, hc3, hS⟩ := hx
 dsimp only at hk0 hk1 hrun hc1 hc2 hc3 hS ⊢;refine nY Z (sG (eZ Z (nB (sQ ?_))));refine AC Z (fun h3 => ?_) (fun h3 => ?_)
 ·
  simp only [HS] at h3;refine AB (tN (sQ (AD (sQ ?_))))
  have hz : k = 0 → c.ins = [] ∧ c.rows = [] := fun h => ⟨OL (by omega), OL (by omega)⟩
  refine rG (eZ Z ?_);refine iY (k := ?_);refine eK 3 Z (nA (eK 2 Z (AI (Le.close (u := 5) 1005 Z Z Z) (nZ Z ?_))));refine LW (rid := 99) [5] Z Z (AA Z) Z Z (by repeat (first | exact ResP.done | refine ResP.pin0 1005 Z ?_ | refine ResP.t ?_ | refine ResP.nil 1 ?_ | refine ResP.nil' ?_ | refine ResP.own ?_ | refine ResP.sl Z Z (by first | omega | (simp; omega)) ?_ | refine ResP.aggT (by repeat (first | exact ResP.done | refine ResP.t ?_)) ?_)) Z (by repeat (first | exact trivial | refine ⟨rfl, rfl, ?_⟩)) (by decide) hL (HQ bw k S c _ (heach _ (N9 _)) (by omega) (by omega) hz) Z Z Z ?_;refine nZ Z (AI (Le.open (u := 5) 1005 Z Z Z Z) (nZ Z (kZ [0,2,5,7,8,26,27,28,29,30,31,32,33,34,35] Z (eZ Z (nB ?_)))));refine AC Z (fun h4 => ?_) (fun h4 => ?_)
  ·
   simp only [HS] at h4;refine sG (AN tys Z Z (AA Z) Z Z Z (by kernel_rfl) Z Z Z Z Z Z (eZ Z (evI ?_)));refine sT Z (nZ Z (eK 2 Z (nB (Ay (Le.nilBox (u := 2) (j := 2) 1 Z Z) (nY Z (Ay (Le.nilBox (u := 2) (j := 3) 2 Z Z) (nY Z (Ay (Le.nilBox (u := 2) (j := 4) 3 Z Z) (nY Z (rT (bR (tR (AO (bR (tR ?_)))))))))))))));refine eR ?_
   ·first
    | exact Kd (rd_noG hLe hto hrun hk0 h3 h4)
  simp only [HS] at h4;refine AB (bN (tN (rG (evI ?_))));refine eZ Z (oN ?_);refine lQ (_, stepS k S (L[k.toNat]'(by omega)), (stepG k c (L[k.toNat]'(by omega))).1) ?_ ?_
  ·dsimp only
   have sm := Ij (k := k) (c := c) (l := L[k.toNat]'(by omega)) (B := 1048576) (Im (heach _ (N9 _))) hc1 (by omega) (by omega)
   exact ⟨by omega, by omega, hrun.trans (H2 hk0 h3 h4), sm.1, sm.2.1, sm.2.2, fun _ => S_at hk0 hS h4⟩
  ·(show Int.toNat _ < Int.toNat _); omega
 simp only [HS] at h3;refine AU (tE (AP (AK (tN (sQ (sQ ?_))))))
 have hok : c.ok 1048576 := ⟨by unfold okN; omega, by unfold okN; omega, by unfold okN; omega, trivial⟩
 have hSe := hS (by omega)
 subst hSe;refine BB (u := 5) (idp := 402) (j := 2) Z Z Z (fun v2 => ?_);refine nY Z ?_;refine BB (u := 5) (idp := 403) (j := 3) Z Z Z (fun v3 => ?_);refine nY Z ?_;refine BB (u := 5) (idp := 404) (j := 4) Z Z Z (fun v4 => ?_);refine nY Z (rG (eZ Z (nZ Z (Ba Z Z (AA Z) Z Z (es := [.t c.tt]) (ResL.aggT (ts := [T.int c.params, T.int c.vars, T.ints c.sites, T.Inss c.ins, T.Rows c.rows]) (ResL.t (ResL.t (ResL.rawS (id := 402) (j := 0) Z Z Z (ResL.raw (id := 403) (j := 0) Z Z Z (ResL.raw (id := 404) (j := 0) Z Z Z ResL.done))))) ResL.done) (D2 c hok) Z (nZ Z (Al Z Z (AA Z) (.inr Z) Z Z (WO_evF tys Z Z (AA Z) (d := .t _) Z (nZ Z (WO_evF tys Z Z (AA Z) (d := .t _) Z (nZ Z (eK 2 Z (nB (sQ (kY [0,2,5,10] Z (rG ?_)))))))))))))));refine eK 3 Z ?_;refine gB (fun h4 => ?_) (fun h4 => ?_)
 ·
  simp only [HS] at h4;refine xK 4 Z (nB (AW Z (sQ (kY [2,5] Z (rG (AN tys Z Z (AA Z) Z Z Z (by kernel_rfl) Z Z Z Z Z Z (sT Z (nZ Z (eK 2 Z (nB (Ay (Le.nilBox (u := 2) (j := 2) 1 Z Z) (nY Z (Ay (Le.nilBox (u := 2) (j := 3) 2 Z Z) (nY Z (Ay (Le.nilBox (u := 2) (j := 4) 3 Z Z) ?_)))))))))))))));refine nY Z (rT (tR (eR ?_)))
  ·first
   | exact Kd (ET hto (Fo hLe hrun h3) (by_1 h4))
 simp only [HS] at h4;refine eZ Z (nZ Z (gY Z (Gq Z Z (AA Z) Z Z (es := [.t c.tt]) (ResL.aggT (ts := [T.int c.params, T.int c.vars, T.ints c.sites, T.Inss c.ins, T.Rows c.rows]) (ResL.t (ResL.t (ResL.rawS (id := 402) (j := 0) Z Z Z (ResL.raw (id := 403) (j := 0) Z Z Z (ResL.raw (id := 404) (j := 0) Z Z Z ResL.done))))) ResL.done) hL (FunL.weak (He c (Hg (by assumption))) NM) Z ?_)));refine nZ Z (xZ Z (gY Z (AG Z Z (AA Z) Z Z Z CW Z (eZ Z (nB ?_)))));refine AC Z (fun h5 => ?_) (fun h5 => ?_)
 ·
  simp only [HS] at h5;refine sQ (kY [2,5] Z (rG (AN tys Z Z (AA Z) Z Z Z (by kernel_rfl) Z Z Z Z Z Z (sT Z (nZ Z (eK 2 Z (nB (Ay (Le.nilBox (u := 2) (j := 2) 1 Z Z) (nY Z (Ay (Le.nilBox (u := 2) (j := 3) 2 Z Z) (nY Z (Ay (Le.nilBox (u := 2) (j := 4) 3 Z Z) (nY Z (rT (tR ?_)))))))))))))));refine eR ?_
  ·first
   | exact Kd (ET hto (Fo hLe hrun h3) (fun e => h5 e.2))
 simp only [HS] at h5;refine AB (tN (sQ (Ay (Le.claimBox (u := 5) (j := 2) (idp := 402) Z Z Z Z) (nY Z (Ay (Le.claimBox (u := 5) (j := 3) (idp := 403) Z Z Z Z) (nY Z (Ay (Le.claimBox (u := 5) (j := 4) (idp := 404) Z Z Z Z) (nY Z (kY [2,5] Z (rG (DJ tys Z Z (AA Z) Z Z Z Z Z Z (nZ Z (sT Z (nZ Z (eK 2 Z ?_)))))))))))))));refine nB ?_
 skip
 refine rT (eR ?_)
 ·first
  | exact retYA (HC hto (Fo hLe hrun h3) ⟨h4, h5⟩)
open Go.Eng
def mkI {α : Type} : List α → Int → List Int
 | [], _ => []
 | _ :: l, k => k :: mkI l (k + 1)
theorem GL {α : Type} : ∀ (l : List α) (k : Int), (mkI l k).length = l.length
 | [], _ => rfl
 | _ :: l, k => by rw [mkI, Nx, GL l, Nx]
theorem GW {α : Type} {g : α → T} (h : ∀ a, (g a).cells = [g a]) : ∀ l : List α, (l.map g).flatMap T.cells = l.map g
 | [] => rfl
 | a :: l => by rw [OV, OM, h, GW h l]; rfl
theorem cell1 {α : Type} {g : α → T} {done l : List α} {i : Int} (hd : done.length = i.toNat) (h0 : 0 ≤ i) (h1 : i < l.length) : ((done ++ l.drop i.toNat).map g)[i.toNat * 1]? = some (g (l[i.toNat]'(by omega))) := by
 rw [AX h0 h1, Nat.mul_one, List.getElem?_map, ML hd]; rfl
theorem set1 {α : Type} {g : α → T} {done l : List α} {i : Int} (hd : done.length = i.toNat) (h0 : 0 ≤ i) (h1 : i < l.length) (y : α) : ((done ++ l.drop i.toNat).map g).set (i.toNat * 1) (g y) = ((done ++ [y]) ++ l.drop (i + 1).toNat).map g := by
 rw [AX h0 h1, Nat.mul_one, ← List.map_set, Ls hd]
theorem EC (k : Int) : Fun Tryz.prog 28 [.t (.list 1 []), .t (.int k)] (Aq [.t (.int k)]) := by
 refine Fun.begin tys Tryz.func28 Z Z (N := 19) [(0, .t (.list 1 [])), (1, .t (.int k))] Z Z (fun w0 G F0 => ?_);refine sG (eZ Z (nB (sQ (sG (eZ Z (nB (AD ?_)))))));refine lK (α := Int) [0, 1] [] (fun x => [(5, .t (.int x))]) (fun x => []) (fun x => 0 ≤ x) (fun x => Int.toNat (0)) 0 ?_ (fun z hx => ?_)
 ·exact OC 0
 have hz := hx
 refine nY Z (sQ (sG (eK 2 Z (evE ?_))));refine eZ Z (nB ?_);refine AC Z (fun h1 => ?_) (fun h1 => ?_)
 ·
  simp only [HS] at h1
  exfalso; simp at h1; omega
 simp only [HS] at h1;refine AU (tE (AP (AK (tN (sG (eK 2 Z (nB (rT (eR ?_)))))))))
 ·rfl
theorem Jq (l : List Int) (k : Int) (hk : 0 ≤ k) (hb : k + l.length ≤ 1073741824) : MarkF Tryz.prog 28 (.list 1 (l.map T.int)) (k) (k + l.length) (.list 1 ((mkI l k).map T.int)) := by
 refine MarkF.slice Tryz.func28 rfl rfl (N := 19) rfl (fun y hy => (by obtain ⟨a, _, rfl⟩ := List.mem_map.1 hy; rfl) ) ( by simp [GL]) (fun h => by cases l with | nil => (rw [show k + (([] : List Int).length : Int) = k from by simp]; exact EC k) | cons _ _ => simp at h) (fun b cap vs w0 G F0 => ?_);refine sG (eZ Z (nB (sQ (sG (eZ Z (nB (AD ?_)))))));refine lK (α := Int × Int × List Value × List T) [0] [] (fun x => [(5, .t (.int (x.1))), (1, .t (.int (x.2.1)))]) (fun x => [(19, .raw b (cap * 1) (x.2.2.1) (x.2.2.2))]) (fun x => 0 ≤ (x.1) ∧ (x.1) ≤ l.length ∧ (x.2.1) = k + (x.1) ∧ ∃ done : List Int, done.length = (x.1).toNat ∧ (x.2.2.2) = (done ++ l.drop (x.1).toNat).map T.int ∧ mkI l k = done ++ mkI (l.drop (x.1).toNat) (x.2.1)) (fun x => Int.toNat (l.length - (x.1))) (0, k, vs, (l.map T.int).flatMap T.cells) ?_ (fun x hx => ?_)
 ·exact ⟨by omega, by omega, by show k = k + 0; omega, [], rfl, by rw [GW fun _ => rfl]; rfl, rfl⟩
 obtain ⟨i, k', vs', ts⟩ := x
 obtain ⟨hi0, hi1, hk', done, hd, hts, he⟩ := hx
 dsimp only at hi0 hi1 hk' hd hts he ⊢;refine nY Z (sQ (sG (eK 2 Z (Gm Z Z (AA Z) Z ⟨3, by kernel_rfl⟩ rfl (eZ Z (nB ?_))))));refine AC Z (fun h1 => ?_) (fun h1 => ?_)
 ·
  simp only [HS] at h1;refine AB (tN (sQ (AD (sG (eK 3 Z (D8 tys Z Z (AA Z) Z Z Z Z Z Z (by omega) (by first | omega | (simp only [N0]; omega)) ?_))))));refine B3 tys (id := 19) Z Z Z Z Z Z Z (by rw [hts]; exact cell1 hd hi0 (by omega)) Z Z Z ?_;refine nZ Z (kZ [0,1,5,6,7,8,9,12,13,14,15] Z (nB (rG (eZ Z (evI ?_)))));refine eZ Z (oN (bN (tN (rG (eZ Z (evI ?_))))));refine eZ Z (oN ?_);refine lQ (_, _, _, _) ?_ ?_
  ·dsimp only
   exact ⟨by omega, by omega, by omega, done ++ [k'], by simp [hd]; omega, by rw [hts]; exact set1 hd hi0 h1 k', by rw [he, AX hi0 h1, mkI]; simp⟩
  ·(show Int.toNat _ < Int.toNat _); omega
 simp only [HS] at h1;refine AU (tE (AP (AK (tN (sG (eK 2 Z (nB (rT ?_))))))));refine CZ (.inr Z) Z Z Z ?_ ?_
 ·omega
 ·rw [hts, AQ h1, he, AQ h1, GW fun _ => rfl]; rfl
def Fb : List Int → Int → Int
 | [], k => k
 | x :: l, k => if x = k then Fb l (k + 1) else -1
theorem JA {α : Type} : ∀ (l : List α) (k : Int), Fb (mkI l k) k = k + l.length
 | [], k => by simp [mkI, Fb]
 | _ :: l, k => by rw [mkI, Fb, if_pos rfl, JA l, Nx]; omega
theorem JB {l : List Int} {i k : Int} (h0 : 0 ≤ i) (h1 : i < l.length) : Fb (l.drop i.toNat) k = if l[i.toNat]'(by omega) = k then Fb (l.drop (i + 1).toNat) (k + 1) else -1 := by
 rw [AX h0 h1, Fb]
theorem HV (l : List Int) (k : Int) (hk : 0 ≤ k) (hb : k + l.length ≤ 1073741824) : Fun Tryz.prog 31 [.t (T.ints l), .t (.int k)] (Aq [.t (.int (Fb l k))]) := by
 refine Fun.begin tys Tryz.func31 Z Z (N := 21) [(0, .t (T.ints l)), (1, .t (.int k))] Z Z (fun w0 G F0 => ?_);refine sG (eZ Z (nB (sQ (sG (eZ Z (nB (AD ?_)))))));refine lK (α := Int × Int) [0] [] (fun x => [(5, .t (.int (x.1))), (1, .t (.int (x.2)))]) (fun x => []) (fun x => 0 ≤ (x.1) ∧ (x.1) ≤ l.length ∧ (x.2) = k + (x.1) ∧ Fb l k = Fb (l.drop (x.1).toNat) (x.2)) (fun x => Int.toNat (l.length - (x.1))) (0, k) ?_ (fun x hx => ?_)
 ·exact ⟨by omega, by omega, by show k = k + 0; omega, rfl⟩
 obtain ⟨i, k'⟩ := x
 obtain ⟨hi0, hi1, hk', he⟩ := hx
 dsimp only at hi0 hi1 hk' he ⊢;refine nY Z (sQ (sG (eK 2 Z (evE ?_))));refine eZ Z (nB ?_);refine AC Z (fun h1 => ?_) (fun h1 => ?_)
 ·
  simp only [HS] at h1;refine AB (tN (sQ (AD (sQ (sG (eK 2 Z ?_))))));refine iY (k := ?_);refine eK 2 Z (kZ [0,1,5,6,7,8,9,12,13,14,15,16] Z (eZ Z (nB ?_)));refine AC Z (fun h2 => ?_) (fun h2 => ?_)
  ·
   simp only [HS] at h2;refine sG (eZ Z (nB (rT (tR (bR (tR (AO (bR (tR (eR ?_))))))))))
   ·rw [he, JB hi0 h1, if_neg h2]
    done
  simp only [HS] at h2;refine AB (tN (rG (eZ Z (evI ?_))));refine eZ Z (oN (bN (tN (rG (eZ Z (evI ?_))))));refine eZ Z (oN ?_);refine lQ (_, _) ?_ ?_
  ·dsimp only
   exact ⟨by omega, by omega, by omega, by rw [he, JB hi0 h1, if_pos (by assumption)]⟩
  ·(show Int.toNat _ < Int.toNat _); omega
 simp only [HS] at h1;refine AU (tE (AP (AK (tN (sG (eK 2 Z (nB (rT (eR ?_)))))))))
 ·rw [he, AQ h1]
  rfl
open Go.Eng
def mkL {α : Type} (mk : α → Int → α) (ct : α → Int) : List α → Int → List α
 | [], _ => []
 | x :: l, k => mk x k :: mkL mk ct l (k + ct x)
def ctL {α : Type} (ct : α → Int) (l : List α) : Int := (l.map ct).sum
section
variable {α : Type}
theorem Eu (mk : α → Int → α) (ct : α → Int) : ∀ (l : List α) (k : Int), (mkL mk ct l k).length = l.length
 | [], _ => rfl
 | _ :: l, k => by rw [mkL, Nx, Eu mk ct l, Nx]
theorem Cj (ct : α → Int) : ctL ct [] = 0 := rfl
theorem Dd (ct : α → Int) (x : α) (l : List α) : ctL ct (x :: l) = ct x + ctL ct l := by simp [ctL]
theorem JP (ct : α → Int) {l : List α} {i : Int} (h0 : 0 ≤ i) (h1 : i < l.length) : ctL ct (l.drop i.toNat) = ct (l[i.toNat]'(by omega)) + ctL ct (l.drop (i + 1).toNat) := by
 rw [AX h0 h1, Dd]
theorem JO (ct : α → Int) {l : List α} {i : Int} (h0 : 0 ≤ i) (h1 : i < l.length) : ctL ct (l.take (i + 1).toNat) = ctL ct (l.take i.toNat) + ct (l[i.toNat]'(by omega)) := by
 unfold ctL; rw [Eh h0 h1, List.map_append, List.sum_append]; simp
theorem B9 {ct : α → Int} {m : Int} (h : ∀ x, m ≤ ct x) (l : List α) (hm : 0 ≤ m := by decide) : 0 ≤ ctL ct l := by
 induction l with
 | nil => exact OC 0
 | cons x l ih => have := h x; rw [Dd]; omega
theorem Gg {ct : α → Int} (h : ∀ x, 1 ≤ ct x) (l : List α) : (l.length : Int) ≤ ctL ct l := by
 induction l with
 | nil => exact OC 0
 | cons x l ih => have := h x; rw [Dd, Nx]; omega
theorem K2 (f : α → T) (mk : α → Int → α) (ct : α → Int) {l : List α} {k k' i : Int} (hk : k' = k + ctL ct (l.take i.toNat)) (h0 : 0 ≤ i) (h1 : i.toNat < l.length) : ((mkL mk ct l k).map f)[i.toNat]? = some (f (mk (l[i.toNat]) k')) := by
 rw [List.getElem?_map]
 have key : ∀ (l : List α) (k : Int) (n : Nat) (h : n < l.length), (mkL mk ct l k)[n]? = some (mk l[n] (k + ctL ct (l.take n))) := by
  intro l
  induction l with
  | nil => intro k n h; simp at h
  | cons x l ih =>
   intro k n h
   cases n with
   | zero => rw [mkL]; simp [Cj]
   | succ n =>
    rw [mkL, List.getElem?_cons_succ, ih _ n (by simpa using h), List.getElem_cons_succ, List.take_succ_cons, Dd];rw [Int.add_assoc]
 rw [key l k _ h1, ← hk]; rfl
theorem fget {D L : List α} {m f : Nat} (h : D.length = m) : (D ++ L)[m + f]? = L[f]? := by
 subst h; rw [List.getElem?_append_right (by omega)]; congr 1; omega
theorem J6 {D L : List α} {m f : Nat} {y : α} (h : D.length = m) (e : L[f]? = some y) : (D ++ L)[m + f]? = some y := (fget h).trans e
theorem NT {D L : List α} {m f : Nat} {y : α} (h : D.length = m) : (D ++ L).set (m + f) y = D ++ L.set f y := by
 subst h; rw [List.set_append_right _ _ (by omega)]; congr 2; omega
theorem HZ {cl : α → List T} {n : Nat} (h : ∀ x, (cl x).length = n) (done : List α) {i : Int} (hd : done.length = i.toNat) : (done.flatMap cl).length = i.toNat * n := by
 rw [← hd]; clear hd
 induction done with
 | nil => simp
 | cons x l ih => rw [OM, Nu, h, ih, Nx, Nat.succ_mul]; omega
end
theorem IJ {α : Type} (l : List α) (k : Int) (hk : 0 ≤ k) (hb : k + l.length ≤ 1073741824) : Fun Tryz.prog 31 [.t (T.ints (mkI l k)), .t (.int k)] (.t (.int (k + l.length))) := by
 rw [← JA l k]; exact HV _ k hk (by rw [GL]; exact hb)
open Go.Eng
def Dz (x : Ins) (k : Int) : Ins := ⟨k, k + 1⟩
def ctIns (x : Ins) : Int := 1 + 1
theorem B0 (x : Ins) : 1 ≤ ctIns x := by
 unfold ctIns; omega
def Ins.cl (x : Ins) : List T := (Ins.tt x).cells
theorem Ins.cl_len (x : Ins) : x.cl.length = 2 := rfl
theorem HN (k : Int) : Fun Tryz.prog 29 [.t (.list 2 []), .t (.int k)] (Aq [.t (.int k)]) := by
 refine Fun.begin tys Tryz.func29 Z Z (N := 27) [(0, .t (.list 2 [])), (1, .t (.int k))] Z Z (fun w0 G F0 => ?_);refine sG (eZ Z (nB (sQ (sG (eZ Z (nB (AD ?_)))))));refine lK (α := Int) [0, 1] [] (fun x => [(5, .t (.int x))]) (fun x => []) (fun x => 0 ≤ x) (fun x => Int.toNat (0)) 0 ?_ (fun z hx => ?_)
 ·exact OC 0
 have hz := hx
 refine nY Z (sQ (sG (eK 2 Z (evE ?_))));refine eZ Z (nB ?_);refine AC Z (fun h1 => ?_) (fun h1 => ?_)
 ·
  simp only [HS] at h1
  exfalso; simp at h1; omega
 simp only [HS] at h1;refine AU (tE (AP (AK (tN (sG (eK 2 Z (nB (rT (eR ?_)))))))))
 ·rfl
theorem Jr (l : List Ins) (k : Int) (hk : 0 ≤ k) (hb : k + ctL ctIns l ≤ 1073741824) : MarkF Tryz.prog 29 (.list 2 (l.map Ins.tt)) (k) (k + ctL ctIns l) (.list 2 ((mkL Dz ctIns l k).map Ins.tt)) := by
 have hlen := Gg B0 l
 refine MarkF.slice Tryz.func29 rfl rfl (N := 27) rfl (fun y hy => (by obtain ⟨a, _, rfl⟩ := List.mem_map.1 hy; rfl) ) ( by simp [Eu]) (fun h => by cases l with | nil => (rw [show k + ctL ctIns [] = k from by simp [ctL]]; exact HN k) | cons _ _ => simp at h) (fun b cap vs w0 G F0 => ?_);refine sG (eZ Z (nB (sQ (sG (eZ Z (nB (AD ?_)))))));refine lK (α := Int × Int × List Value × List T) [0] [] (fun x => [(5, .t (.int (x.1))), (1, .t (.int (x.2.1)))]) (fun x => [(27, .raw b (cap * 2) (x.2.2.1) (x.2.2.2))]) (fun x => 0 ≤ (x.1) ∧ (x.1) ≤ l.length ∧ k ≤ (x.2.1) ∧ (x.2.1) + ctL ctIns (l.drop (x.1).toNat) = k + ctL ctIns l ∧ ∃ done : List Ins, done.length = (x.1).toNat ∧ (x.2.2.2) = done.flatMap Ins.cl ++ (l.drop (x.1).toNat).flatMap Ins.cl ∧ mkL Dz ctIns l k = done ++ mkL Dz ctIns (l.drop (x.1).toNat) (x.2.1)) (fun x => Int.toNat (l.length - (x.1))) (0, k, vs, (l.map Ins.tt).flatMap T.cells) ?_ (fun x hx => ?_)
 ·exact ⟨by omega, by omega, OC k, rfl, [], rfl, by rw [List.flatMap_map]; rfl, rfl⟩
 obtain ⟨i, k', vs', ts⟩ := x
 obtain ⟨hi0, hi1, hkk, hk', done, hd, hts, he⟩ := hx
 dsimp only at hi0 hi1 hkk hk' hd hts he ⊢;refine nY Z (sQ (sG (eK 2 Z (Gm Z Z (AA Z) Z ⟨68, by kernel_rfl⟩ rfl (eZ Z (nB ?_))))));refine AC Z (fun h1 => ?_) (fun h1 => ?_)
 ·
  simp only [HS] at h1;refine AB (tN (sQ (AD (sG ?_))))
  have hD := HZ Ins.cl_len done hd
  have hca := JP ctIns hi0 h1
  have hcx : ctIns (l[i.toNat]'(by omega)) = ctIns (l[i.toNat]'(by omega)) := rfl
  conv at hcx => rhs; unfold ctIns
  have hcr := B9 B0 (l.drop (i + 1).toNat)
  rw [AX hi0 h1, OM] at hts;subst hts;refine eK 3 Z (D8 tys Z Z (AA Z) Z Z Z Z Z Z (by omega) (by first | omega | (simp only [N0]; omega)) ?_);refine Cn tys Z Z (AA Z) Z Z Z Z Z (kZ [0,1,5,6,7,8,9,12,13,14,15,16] Z (B3 tys (id := 27) Z Z Z Z Z Z Z (by exact J6 hD Z) Z Z Z ?_));refine nZ Z (nA (eZ Z (evI ?_)));refine eZ Z (nA (eK 3 Z (D8 tys Z Z (AA Z) Z Z Z Z Z Z (by omega) (by first | omega | (simp only [N0]; omega)) ?_)));refine Cn tys Z Z (AA Z) Z Z Z Z Z (kZ [0,1,5,6,7,8,9,12,13,14,15,16,17,18,19,20,21,22,23] Z (B3 tys (id := 27) Z Z Z Z Z Z Z (by rw [NT hD]; exact J6 hD Z) Z Z Z ?_));refine nZ Z (nB (rG (eZ Z (evI ?_))));refine eZ Z (oN (bN (tN (rG (eZ Z (evI ?_))))));refine eZ Z (oN ?_);refine lQ (_, _, _, _) ?_ ?_
  ·dsimp only
   refine ⟨by omega, by omega, by omega, by omega, done ++ [Dz (l[i.toNat]'(by omega)) k'], by simp [hd]; omega, ?_, ?_⟩
   ·simp only [NT hD]
    rw [List.flatMap_append, OA];rfl
   ·rw [he, AX hi0 h1, mkL, OA, show k' + ctIns (l[i.toNat]'(by omega)) = k' + 1 + 1 from by omega]
    rfl
  ·(show Int.toNat _ < Int.toNat _); omega
 simp only [HS] at h1;refine AU (tE (AP (AK (tN (sG (eK 2 Z (nB (rT ?_))))))));refine CZ (.inr Z) Z Z Z ?_ ?_
 ·rw [AQ h1] at hk'; simp only [Cj] at hk'; omega
 ·rw [hts, AQ h1, he, AQ h1, List.flatMap_map, mkL, OI]; exact OI _
theorem IK (l : List Ins) (k : Int) (hk : 0 ≤ k) (hb : k + ctL ctIns l ≤ 1073741824) : Fun Tryz.prog 32 [.t (T.Inss (mkL Dz ctIns l k)), .t (.int k)] (Aq [.t (.int (k + ctL ctIns l))]) := by
 have hlen := Gg B0 l
 have hml := Eu Dz ctIns l k
 refine Fun.begin tys Tryz.func32 Z Z (N := 31) [(0, .t (T.Inss (mkL Dz ctIns l k))), (1, .t (.int k))] Z Z (fun w0 G F0 => ?_);refine sG (eZ Z (nB (sQ (sG (eZ Z (nB (AD ?_)))))));refine lK (α := Int × Int) [0] [] (fun x => [(5, .t (.int (x.1))), (1, .t (.int (x.2)))]) (fun x => []) (fun x => 0 ≤ (x.1) ∧ (x.1) ≤ l.length ∧ k ≤ (x.2) ∧ (x.2) + ctL ctIns (l.drop (x.1).toNat) = k + ctL ctIns l ∧ (x.2) = k + ctL ctIns (l.take (x.1).toNat)) (fun x => Int.toNat (l.length - (x.1))) (0, k) ?_ (fun x hx => ?_)
 ·exact ⟨by omega, by omega, OC k, rfl, by rw [show l.take (0 : Int).toNat = [] from rfl]; rw [Cj]; omega⟩
 obtain ⟨i, k'⟩ := x
 obtain ⟨hi0, hi1, hkk, hk', hkt⟩ := hx
 dsimp only at hi0 hi1 hkk hk' hkt ⊢;refine nY Z (sQ (sG (eK 2 Z (evE ?_))));refine eZ Z (nB ?_);refine AC Z (fun h1 => ?_) (fun h1 => ?_)
 ·
  simp only [HS] at h1;refine AB (tN (sQ (AD (sQ (sG ?_)))))
  have hca := JP ctIns (l := l) hi0 (by omega)
  have hcx : ctIns (l[i.toNat]'(by omega)) = ctIns (l[i.toNat]'(by omega)) := rfl
  conv at hcx => rhs; unfold ctIns
  have hcr := B9 B0 (l.drop (i + 1).toNat)
  refine eK 2 Z (Bi tys Z Z (AA Z) Z Z Z Z Z Z Z (by omega) _ (K2 Ins.tt Dz ctIns hkt (by omega) (by omega)) (eK 2 Z (kZ [0,1,5,6,7,8,9,12,13,14,15,16] Z (eK 2 Z (AI (Le.known (t := 18) false Z (by simp [Dz])) ?_)))));refine nB (Ax Z (AB (tN (sG (eZ Z (evI ?_))))));refine eZ Z (nB (sQ (sG (eK 2 Z (Bi tys Z Z (AA Z) Z Z Z Z Z Z Z (by omega) _ (K2 Ins.tt Dz ctIns hkt (by omega) (by omega)) (eZ Z (kZ [0,1,5,6,7,8,9,12,13,14,15,16,17,18,19,20,21,22,23,24] Z (eK 3 Z (AI (Le.known (t := 27) false Z (by simp [Dz])) ?_)))))))));refine nB (Ax Z (AB (tN (rG (eZ Z (evI ?_))))));refine eZ Z (oN (bN (tN (rG (eZ Z (evI ?_))))));refine eZ Z (kZ [0,1,5,6,7,8,9,10,11,12,13,14,15,16,17,18,19,20,21,22,23,24,25,26,27,28,29] Z (oN ?_));refine lQ (_, _) ?_ ?_
  ·dsimp only
   refine ⟨by omega, by omega, by omega, by omega, ?_⟩;rw [JO ctIns hi0 (by omega)];omega
  ·(show Int.toNat _ < Int.toNat _); omega
 simp only [HS] at h1;refine AU (tE (AP (AK (tN (sG (eK 2 Z (nB (rT (eR ?_)))))))))
 ·rw [AQ (by omega)] at hk'; simp only [Cj] at hk'; refine congrArg (fun n => [D.t (T.int n)]) ?_; omega
def DE (x : Row) (k : Int) : Row := ⟨k, k + 1, k + 1 + 1⟩
def ctRow (x : Row) : Int := 1 + 1 + 1
theorem Bz (x : Row) : 1 ≤ ctRow x := by
 unfold ctRow; omega
def Row.cl (x : Row) : List T := (Row.tt x).cells
theorem Row.cl_len (x : Row) : x.cl.length = 3 := rfl
theorem HL (k : Int) : Fun Tryz.prog 30 [.t (.list 3 []), .t (.int k)] (Aq [.t (.int k)]) := by
 refine Fun.begin tys Tryz.func30 Z Z (N := 34) [(0, .t (.list 3 [])), (1, .t (.int k))] Z Z (fun w0 G F0 => ?_);refine sG (eZ Z (nB (sQ (sG (eZ Z (nB (AD ?_)))))));refine lK (α := Int) [0, 1] [] (fun x => [(5, .t (.int x))]) (fun x => []) (fun x => 0 ≤ x) (fun x => Int.toNat (0)) 0 ?_ (fun z hx => ?_)
 ·exact OC 0
 have hz := hx
 refine nY Z (sQ (sG (eK 2 Z (evE ?_))));refine eZ Z (nB ?_);refine AC Z (fun h1 => ?_) (fun h1 => ?_)
 ·
  simp only [HS] at h1
  exfalso; simp at h1; omega
 simp only [HS] at h1;refine AU (tE (AP (AK (tN (sG (eK 2 Z (nB (rT (eR ?_)))))))))
 ·rfl
theorem Jp (l : List Row) (k : Int) (hk : 0 ≤ k) (hb : k + ctL ctRow l ≤ 1073741824) : MarkF Tryz.prog 30 (.list 3 (l.map Row.tt)) (k) (k + ctL ctRow l) (.list 3 ((mkL DE ctRow l k).map Row.tt)) := by
 have hlen := Gg Bz l
 refine MarkF.slice Tryz.func30 rfl rfl (N := 34) rfl (fun y hy => (by obtain ⟨a, _, rfl⟩ := List.mem_map.1 hy; rfl) ) ( by simp [Eu]) (fun h => by cases l with | nil => (rw [show k + ctL ctRow [] = k from by simp [ctL]]; exact HL k) | cons _ _ => simp at h) (fun b cap vs w0 G F0 => ?_);refine sG (eZ Z (nB (sQ (sG (eZ Z (nB (AD ?_)))))));refine lK (α := Int × Int × List Value × List T) [0] [] (fun x => [(5, .t (.int (x.1))), (1, .t (.int (x.2.1)))]) (fun x => [(34, .raw b (cap * 3) (x.2.2.1) (x.2.2.2))]) (fun x => 0 ≤ (x.1) ∧ (x.1) ≤ l.length ∧ k ≤ (x.2.1) ∧ (x.2.1) + ctL ctRow (l.drop (x.1).toNat) = k + ctL ctRow l ∧ ∃ done : List Row, done.length = (x.1).toNat ∧ (x.2.2.2) = done.flatMap Row.cl ++ (l.drop (x.1).toNat).flatMap Row.cl ∧ mkL DE ctRow l k = done ++ mkL DE ctRow (l.drop (x.1).toNat) (x.2.1)) (fun x => Int.toNat (l.length - (x.1))) (0, k, vs, (l.map Row.tt).flatMap T.cells) ?_ (fun x hx => ?_)
 ·exact ⟨by omega, by omega, OC k, rfl, [], rfl, by rw [List.flatMap_map]; rfl, rfl⟩
 obtain ⟨i, k', vs', ts⟩ := x
 obtain ⟨hi0, hi1, hkk, hk', done, hd, hts, he⟩ := hx
 dsimp only at hi0 hi1 hkk hk' hd hts he ⊢;refine nY Z (sQ (sG (eK 2 Z (Gm Z Z (AA Z) Z ⟨66, by kernel_rfl⟩ rfl (eZ Z (nB ?_))))));refine AC Z (fun h1 => ?_) (fun h1 => ?_)
 ·
  simp only [HS] at h1;refine AB (tN (sQ (AD (sG ?_))))
  have hD := HZ Row.cl_len done hd
  have hca := JP ctRow hi0 h1
  have hcx : ctRow (l[i.toNat]'(by omega)) = ctRow (l[i.toNat]'(by omega)) := rfl
  conv at hcx => rhs; unfold ctRow
  have hcr := B9 Bz (l.drop (i + 1).toNat)
  rw [AX hi0 h1, OM] at hts;subst hts;refine eK 3 Z (D8 tys Z Z (AA Z) Z Z Z Z Z Z (by omega) (by first | omega | (simp only [N0]; omega)) ?_);refine Cn tys Z Z (AA Z) Z Z Z Z Z (kZ [0,1,5,6,7,8,9,12,13,14,15,16] Z (B3 tys (id := 34) Z Z Z Z Z Z Z (by exact J6 hD Z) Z Z Z ?_));refine nZ Z (nA (eZ Z (evI ?_)));refine eZ Z (nA (eK 3 Z (D8 tys Z Z (AA Z) Z Z Z Z Z Z (by omega) (by first | omega | (simp only [N0]; omega)) ?_)));refine Cn tys Z Z (AA Z) Z Z Z Z Z (kZ [0,1,5,6,7,8,9,12,13,14,15,16,17,18,19,20,21,22,23] Z (B3 tys (id := 34) Z Z Z Z Z Z Z (by rw [NT hD]; exact J6 hD Z) Z Z Z ?_));refine nZ Z (nA (eZ Z (evI ?_)));refine eZ Z (nA (eK 3 Z (D8 tys Z Z (AA Z) Z Z Z Z Z Z (by omega) (by first | omega | (simp only [N0]; omega)) ?_)));refine Cn tys Z Z (AA Z) Z Z Z Z Z (kZ [0,1,5,6,7,8,9,12,13,14,15,16,17,18,19,20,21,22,23,24,25,26,27,28,29,30] Z (B3 tys (id := 34) Z Z Z Z Z Z Z (by rw [NT hD, NT hD]; exact J6 hD Z) Z Z Z ?_));refine nZ Z (nB (rG (eZ Z (evI ?_))));refine eZ Z (oN (bN (tN (rG (eZ Z (evI ?_))))));refine eZ Z (oN ?_);refine lQ (_, _, _, _) ?_ ?_
  ·dsimp only
   refine ⟨by omega, by omega, by omega, by omega, done ++ [DE (l[i.toNat]'(by omega)) k'], by simp [hd]; omega, ?_, ?_⟩
   ·simp only [NT hD]
    rw [List.flatMap_append, OA];rfl
   ·rw [he, AX hi0 h1, mkL, OA, show k' + ctRow (l[i.toNat]'(by omega)) = k' + 1 + 1 + 1 from by omega]
    rfl
  ·(show Int.toNat _ < Int.toNat _); omega
 simp only [HS] at h1;refine AU (tE (AP (AK (tN (sG (eK 2 Z (nB (rT ?_))))))));refine CZ (.inr Z) Z Z Z ?_ ?_
 ·rw [AQ h1] at hk'; simp only [Cj] at hk'; omega
 ·rw [hts, AQ h1, he, AQ h1, List.flatMap_map, mkL, OI]; exact OI _
theorem II (l : List Row) (k : Int) (hk : 0 ≤ k) (hb : k + ctL ctRow l ≤ 1073741824) : Fun Tryz.prog 33 [.t (T.Rows (mkL DE ctRow l k)), .t (.int k)] (Aq [.t (.int (k + ctL ctRow l))]) := by
 have hlen := Gg Bz l
 have hml := Eu DE ctRow l k
 refine Fun.begin tys Tryz.func33 Z Z (N := 40) [(0, .t (T.Rows (mkL DE ctRow l k))), (1, .t (.int k))] Z Z (fun w0 G F0 => ?_);refine sG (eZ Z (nB (sQ (sG (eZ Z (nB (AD ?_)))))));refine lK (α := Int × Int) [0] [] (fun x => [(5, .t (.int (x.1))), (1, .t (.int (x.2)))]) (fun x => []) (fun x => 0 ≤ (x.1) ∧ (x.1) ≤ l.length ∧ k ≤ (x.2) ∧ (x.2) + ctL ctRow (l.drop (x.1).toNat) = k + ctL ctRow l ∧ (x.2) = k + ctL ctRow (l.take (x.1).toNat)) (fun x => Int.toNat (l.length - (x.1))) (0, k) ?_ (fun x hx => ?_)
 ·exact ⟨by omega, by omega, OC k, rfl, by rw [show l.take (0 : Int).toNat = [] from rfl]; rw [Cj]; omega⟩
 obtain ⟨i, k'⟩ := x
 obtain ⟨hi0, hi1, hkk, hk', hkt⟩ := hx
 dsimp only at hi0 hi1 hkk hk' hkt ⊢;refine nY Z (sQ (sG (eK 2 Z (evE ?_))));refine eZ Z (nB ?_);refine AC Z (fun h1 => ?_) (fun h1 => ?_)
 ·
  simp only [HS] at h1;refine AB (tN (sQ (AD (sQ (sG ?_)))))
  have hca := JP ctRow (l := l) hi0 (by omega)
  have hcx : ctRow (l[i.toNat]'(by omega)) = ctRow (l[i.toNat]'(by omega)) := rfl
  conv at hcx => rhs; unfold ctRow
  have hcr := B9 Bz (l.drop (i + 1).toNat)
  refine eK 2 Z (Bi tys Z Z (AA Z) Z Z Z Z Z Z Z (by omega) _ (K2 Row.tt DE ctRow hkt (by omega) (by omega)) (eK 2 Z (kZ [0,1,5,6,7,8,9,12,13,14,15,16] Z (eK 2 Z (AI (Le.known (t := 18) false Z (by simp [DE])) ?_)))));refine nB (Ax Z (AB (tN (sG (eZ Z (evI ?_))))));refine eZ Z (nB (sQ (sG (eK 2 Z (Bi tys Z Z (AA Z) Z Z Z Z Z Z Z (by omega) _ (K2 Row.tt DE ctRow hkt (by omega) (by omega)) (eZ Z (kZ [0,1,5,6,7,8,9,12,13,14,15,16,17,18,19,20,21,22,23,24] Z (eK 3 Z (AI (Le.known (t := 27) false Z (by simp [DE])) ?_)))))))));refine nB (Ax Z (AB (tN (sG (eZ Z (evI ?_))))));refine eZ Z (nB (sQ (sG (eK 2 Z (Bi tys Z Z (AA Z) Z Z Z Z Z Z Z (by omega) _ (K2 Row.tt DE ctRow hkt (by omega) (by omega)) (kZ [0,1,5,6,7,8,9,12,13,14,15,16,17,18,19,20,21,22,23,24,25,26,27,28,29,30,31,32] Z (eK 4 Z (AI (Le.known (t := 36) false Z (by simp [DE])) ?_))))))));refine nB (Ax Z (AB (tN (rG (eZ Z (evI ?_))))));refine eZ Z (oN (bN (tN (kY [0,1,5,6,7,8,9,12,13,14,15,16,17,18,19,20,21,22,23,24,25,26,27,28,29,30,31,32,33,34,35,36,37,38] Z (rG (eZ Z (evI ?_)))))));refine eZ Z (oN ?_);refine lQ (_, _) ?_ ?_
  ·dsimp only
   refine ⟨by omega, by omega, by omega, by omega, ?_⟩;rw [JO ctRow hi0 (by omega)];omega
  ·(show Int.toNat _ < Int.toNat _); omega
 simp only [HS] at h1;refine AU (tE (AP (AK (tN (sG (eK 2 Z (nB (rT (eR ?_)))))))))
 ·rw [AQ (by omega)] at hk'; simp only [Cj] at hk'; refine congrArg (fun n => [D.t (T.int n)]) ?_; omega
def Iv (x : Code) (k : Int) : Code := ⟨x.params, x.vars, mkI x.sites (k), mkL Dz ctIns x.ins (k + (x.sites.length : Int)), mkL DE ctRow x.rows (k + (x.sites.length : Int) + ctL ctIns x.ins)⟩
def CJ (x : Code) : Int := (x.sites.length : Int) + ctL ctIns x.ins + ctL ctRow x.rows
theorem KD (x : Code) : 0 ≤ CJ x := by
 have p1 := B9 B0 x.ins
 have p2 := B9 Bz x.rows
 unfold CJ; omega
theorem E9 (x : Code) (k : Int) (hk : 0 ≤ k) (hb : k + CJ x ≤ 1073741824) : Fun Tryz.prog 9 [.t (Iv x k).tt, .t (.int k)] (Aq [.t (.int (k + CJ x))]) := by
 have hb2 := hb
 unfold CJ at hb2
 have p0 := B9 B0 x.ins
 have p1 := B9 Bz x.rows
 refine Fun.begin tys Tryz.func9 Z Z (N := 24) [(0, .t (Iv x k).tt), (1, .t (.int k))] Z Z (fun w0 G F0 => ?_);refine sG (BD Z Z (AA Z) Z Z (nZ Z (eZ Z (nA (eK 3 Z (AJ ?_))))));refine ⟨_, IJ x.sites (k) (by omega) (by omega), rfl, ?_⟩;refine eZ Z (nB (sQ (sQ (kY [1,2,4] Z (rG (eK 2 Z (AI (Le.known (t := 10) false Z (by first | (simp; done) | (simp; omega))) ?_)))))));refine nB (Ax Z (AB (tN (sG (eK 3 Z (AJ ?_))))));refine ⟨_, IK x.ins (k + (x.sites.length : Int)) (by omega) (by omega), rfl, ?_⟩;refine eZ Z (nB (sQ (sQ (kY [1,2,4] Z (rG (eK 2 Z (AI (Le.known (t := 16) false Z (by first | (simp; done) | (simp; omega))) ?_)))))));refine nB (Ax Z (AB (tN (sG (eK 3 Z (AJ ?_))))));refine ⟨_, II x.rows (k + (x.sites.length : Int) + ctL ctIns x.ins) (by omega) (by omega), rfl, ?_⟩;refine eZ Z (nB (sQ (sQ (kY [1,4] Z (rG (eK 2 Z (AI (Le.known (t := 22) false Z (by first | (simp; done) | (simp; omega))) ?_)))))));refine nB (Ax Z (AB (tN (sG (eK 2 Z (nB (rT (eR ?_))))))))
 ·refine congrArg (fun n => [D.t (T.int n)]) ?_; unfold CJ; omega
theorem I4 (l : List Int) : l.map T.int = (l.map (Value.int .i64)).map T.v := by rw [List.map_map]; rfl
theorem HM (l : List Int) (k : Int) (hk : 0 ≤ k) (hb : k + l.length ≤ 1073741824) : MarkF Tryz.prog 28 (.sub (l.map T.int)) (k) (k + l.length) (.sub ((mkI l k).map T.int)) := by
 have hul : (l.map (Value.int .i64)).length = l.length := N0 ..
 rw [I4 l, I4 (mkI l k)];refine MarkF.sub Tryz.func28 Z Z (N := 19) Z (by simp [GL]) (fun h => by cases l with | nil => (rw [show k + (([] : List Int).length : Int) = k from by simp]; exact EC k) | cons _ _ => simp at h) (fun b cap vs pre w0 G F0 => ?_);rw [← I4 l, ← I4 (mkI l k)];refine sG (eZ Z (nB (sQ (sG (eZ Z (nB (AD ?_)))))));refine lK (α := Int × Int × List Value × List T) [0] [] (fun x => [(5, .t (.int (x.1))), (1, .t (.int (x.2.1)))]) (fun x => [(19, .raw b (List.length pre + cap) (x.2.2.1) (x.2.2.2))]) (fun x => 0 ≤ (x.1) ∧ (x.1) ≤ l.length ∧ (x.2.1) = k + (x.1) ∧ ∃ done : List Int, done.length = (x.1).toNat ∧ (x.2.2.2) = List.map T.v pre ++ (done ++ l.drop (x.1).toNat).map T.int ∧ mkI l k = done ++ mkI (l.drop (x.1).toNat) (x.2.1)) (fun x => Int.toNat (l.length - (x.1))) (0, k, vs, List.map T.v pre ++ l.map T.int) ?_ (fun x hx => ?_)
 ·exact ⟨by omega, by omega, by show k = k + 0; omega, [], rfl, rfl, rfl⟩
 obtain ⟨i, k', vs', ts⟩ := x
 obtain ⟨hi0, hi1, hk', done, hd, hts, he⟩ := hx
 dsimp only at hi0 hi1 hk' hd hts he ⊢;refine nY Z (sQ (sG (eK 2 Z (Gm Z Z (AA Z) Z ⟨3, by kernel_rfl⟩ rfl (eZ Z (nB ?_))))));refine AC Z (fun h1 => ?_) (fun h1 => ?_)
 ·
  simp only [HS] at h1;refine AB (tN (sQ (AD (sG (eK 3 Z (Nl tys Z Z (AA Z) Z Z Z Z Z Z (by omega) (by omega) (B3 tys (id := 19) Z Z Z Z Z Z Z (by rw [hts]; exact J6 (by simp) (cell1 hd hi0 (by omega))) Z Z Z ?_)))))));refine nZ Z (kZ [0,1,5,6,7,8,9,12,13,14,15] Z (nB (rG (eZ Z (evI ?_)))));refine eZ Z (oN (bN (tN (rG (eZ Z (evI ?_))))));refine eZ Z (oN ?_);refine lQ (_, _, _, _) ?_ ?_
  ·dsimp only
   have h2 : i < l.length := by omega
   exact ⟨by omega, by omega, by omega, done ++ [k'], by simp [hd]; omega, by rw [hts]; exact (NT (by simp)).trans (congrArg (List.map T.v pre ++ ·) (set1 hd hi0 h2 k')), by rw [he, AX hi0 h2, mkI]; simp⟩
  ·(show Int.toNat _ < Int.toNat _); omega
 simp only [HS] at h1;refine AU (tE (AP (AK (tN (sG (eK 2 Z (nB (rT ?_))))))))
 have h2 : (l.length : Int) ≤ i := by omega
 refine CZ (.inr Z) Z Z Z ?_ ?_
 ·omega
 ·rw [hts, AQ h2, he, AQ h2]; rfl
theorem H7 (x : Code) (S S' : T) (k : Int) (hk : 0 ≤ k) (hb : k + CJ x ≤ 1073741824) (hS : MarkF Tryz.prog 28 S k (k + (x.sites.length : Int)) S') (hs1 : S.flat = true) (hs2 : S'.flat = true) :
  MarkF Tryz.prog 8 (.agg ([T.int x.params, T.int x.vars, S, T.Inss x.ins, T.Rows x.rows])) (k) (k + CJ x) (.agg ([T.int x.params, T.int x.vars, S', T.Inss (mkL Dz ctIns x.ins (k + (x.sites.length : Int))), T.Rows (mkL DE ctRow x.rows (k + (x.sites.length : Int) + ctL ctIns x.ins))])) := by
 have hb2 := hb
 unfold CJ at hb2
 have p0 := B9 B0 x.ins
 have p1 := B9 Bz x.rows
 refine MarkF.struct Tryz.func8 Z Z (N := 18) Z (fun vs hvs hone w0 G F0 => ?_)
 obtain ⟨a0, a1, a2, a3, a4, rfl⟩ : ∃ a0 a1 a2 a3 a4, vs = [a0, a1, a2, a3, a4] := by
  match vs, hvs with
  | [a0, a1, a2, a3, a4], _ => exact ⟨_, _, _, _, _, rfl⟩
 refine sG (BD Z Z (AA Z) Z Z (nZ Z (eZ Z (nA (eK 3 Z (JY (id := 18) (j := 2) Z Z (AA Z) Z Z Z Z Z Z Z Z hs1 hs2 hS (eZ Z (nB (sQ (kY [1,2,4] Z (rG (eK 3 Z (JZ (id := 18) (j := 3) Z Z (AA Z) Z Z Z Z Z Z (rfl) (rfl) (Jr x.ins (k + (x.sites.length : Int)) (by omega) (by omega)) (eZ Z (nA ?_)))))))))))))));refine eK 3 Z (JZ (id := 18) (j := 4) Z Z (AA Z) Z Z Z Z Z Z (rfl) (rfl) (Jp x.rows (k + (x.sites.length : Int) + ctL ctIns x.ins) (by omega) (by omega)) (kZ [1,4,16] Z (eZ Z (nA (eK 2 Z (nB (rT ?_)))))));refine Hs (.inr Z) Z Z Z ?_ ?_
 ·unfold CJ; omega
 ·rfl
open Go.Eng
theorem Kb {B : Nat} : ∀ (ls : List Tx) (k : Int) (c : Code), (∀ l, l ∈ ls → (B5 l).length ≤ B) → 0 ≤ k → c.sites.length ≤ B → (c.ins.length : Int) ≤ k → (c.rows.length : Int) ≤ k →
  (runG k c ls).2.sites.length ≤ B ∧ ((runG k c ls).2.ins.length : Int) ≤ k + ls.length ∧ ((runG k c ls).2.rows.length : Int) ≤ k + ls.length
 | [], k, c, _, _, h1, h2, h3 => by rw [runG]; simp only [N4]; exact ⟨h1, by omega, by omega⟩
 | l :: ls, k, c, h, h0, h1, h2, h3 => by
  rw [runG]
  have sm := Ij (k := k) (l := l) (h l (by simp)) h1 h2 h3
  split
  ·have := Kb ls (k + 1) (stepG k c l).1 (fun x hx => h x (by simp [hx])) (by omega) sm.1 sm.2.1 sm.2.2
   rw [Nx];exact ⟨this.1, by omega, by omega⟩
  ·rw [Nx]; exact ⟨h1, by simp only; omega, by simp only; omega⟩
theorem Lw {s : Tx} (hs : s.length ≤ 1048576) : (readL s).1.sites.length ≤ 1048576 ∧ (readL s).1.ins.length ≤ 1048577 ∧ (readL s).1.rows.length ≤ 1048577 := by
 have z : code0.sites.length ≤ 1048576 ∧ code0.ins.length ≤ 1048577 ∧ code0.rows.length ≤ 1048577 := by decide
 unfold readL;split
 ·split
  ·split
   ·have hl := Av (c := 10) (l := s.dropLast) (pre := [])
    rw [List.length_dropLast] at hl
    have := Kb (B := 1048576) (AH 10 [] s.dropLast) 0 code0 (fun l hx => Im (by have := A1 hx; simp at this; omega)) (OC 0) (by decide) (by decide) (by decide)
    exact ⟨this.1, by simp only; omega, by simp only; omega⟩
   ·exact z
  ·exact z
 ·exact z
theorem IR {α : Type} {ct : α → Int} (h : ∀ x, ct x ≤ 3) : ∀ l : List α, ctL ct l ≤ 3 * l.length
 | [] => by simp [Cj]
 | x :: l => by
  have h1 := h x
  have h2 := IR h l
  rw [Dd, Nx]; omega
theorem LF {c : Code} (h1 : c.sites.length ≤ 1048576) (h2 : c.ins.length ≤ 1048577) (h3 : c.rows.length ≤ 1048577) : 1 + CJ c ≤ 1073741824 := by
 have e1 := IR (ct := ctIns) (fun x => by unfold ctIns; omega) c.ins
 have e2 := IR (ct := ctRow) (fun x => by unfold ctRow; omega) c.rows
 unfold CJ; omega
def Lr (b : Bool) (l : List Int) : T := if b = true then .sub (l.map T.int) else T.ints l
theorem subT_M (r : Code × Int × Bool) : subT r = Lr r.2.2 r.1.sites := rfl
theorem Gv (b : Bool) (l : List Int) : (Lr b l).flat = true := by cases b <;> rfl
theorem M3 (b : Bool) (l : List Int) : (Lr b l).unsub = T.ints l := by cases b <;> rfl
theorem KU (b : Bool) (l : List Int) (k : Int) (hk : 0 ≤ k) (hb : k + l.length ≤ 1073741824) : MarkF Tryz.prog 28 (Lr b l) k (k + l.length) (Lr b (mkI l k)) := by
 cases b
 ·exact Jq l k hk hb
 ·exact HM l k hk hb
theorem unC (p v b l i r) : [T.int p, T.int v, Lr b l, T.Inss i, T.Rows r].map T.unsub = [T.int p, T.int v, T.ints l, T.Inss i, T.Rows r] := by
 show [_, _, (Lr b l).unsub, _, _] = _;rw [M3]; rfl
theorem Ex (s : Tx) : FunL Tryz.prog Lad 3 [.t (T.str s)] (Aq [.t (.bool true)]) := by
 refine FunL.begin LadS tys Tryz.func3 Z Z (N := 82) [(0, .t (T.str s))] Z Z (fun w0 G F0 hL => ?_);refine sG (eZ Z (nB (sQ (sG (eZ Z (A5 Z Z (AA Z) Z (by kernel_rfl) Z (eZ Z (nB ?_))))))));refine AC Z (fun h1 => ?_) (fun h1 => ?_)
 ·
  simp only [HS] at h1;refine sG (eZ Z (nB (rT (tR (eR ?_)))))
  ·rfl
 simp only [HS] at h1;refine AB (tN (sQ ?_))
 have hs : s.length ≤ 1048576 := by omega
 have hS := EH s hs
 have hI := EL s hs
 have hsm := Lw hs
 rw [subT_M] at hI;generalize readL s = r at hS hI hsm
 obtain ⟨c, n, b⟩ := r
 dsimp only at hS hI hsm
 have hok : c.ok 9223372036854775807 := ⟨by unfold okN; omega, by unfold okN; omega, by unfold okN; omega, trivial⟩
 have hct : 1 + CJ c ≤ 1073741824 := LF hsm.1 hsm.2.1 hsm.2.2
 have hcp := KD c
 have hmk := KU b c.sites 1 (by decide) (by omega)
 refine rG (eZ Z (AJ ?_));refine ⟨_, hS, rfl, ?_⟩;refine Al Z Z (AA Z) (.inr Z) Z Z (nZ Z (Ao Z Z (AA Z) Z Z Z Z (AI (Le.freeze (u := 20) Z) (nZ Z (WO_evF tys Z Z (AA Z) (d := .t _) Z (nZ Z (kZ [0,2,17,20,21] Z (WO_evF tys Z Z (AA Z) (d := .t _) Z (nZ Z (AR tys Z Z (AA Z) Z Z Z (nZ Z (sT Z (nZ Z (eK 2 Z (nA ?_)))))))))))))));refine eZ Z (B7 hL ?_);refine ⟨_, hI, rfl, ?_⟩;refine nZ Z (Al Z Z (AA Z) (.inr Z) Z Z (nZ Z (Ao Z Z (AA Z) Z Z Z Z ?_)));refine F4 (u := 26) 26 Z Z (fun v26 hv26 => ?_)
 obtain ⟨a26_0, a26_1, a26_2, a26_3, a26_4, rfl⟩ : ∃ a26_0 a26_1 a26_2 a26_3 a26_4, v26 = [a26_0, a26_1, a26_2, a26_3, a26_4] := by
  match v26, hv26 with
  | [a26_0, a26_1, a26_2, a26_3, a26_4], _ => exact ⟨_, _, _, _, _, rfl⟩
 refine nZ Z (kZ [0,2,3,4,5,23,26] Z (WO_evF tys Z Z (AA Z) (d := .t _) Z (nZ Z (WO_evF tys Z Z (AA Z) (d := .t _) Z (nZ Z (AR tys Z Z (AA Z) Z Z Z (nZ Z (sT Z (nZ Z (eK 2 Z (nB (sQ (sG (eZ Z (nZ Z ?_)))))))))))))));refine eZ Z ?_
 try refine AI (Le.freeze (u := 30) rfl) ?_
 refine nZ Z (Ba Z Z (AA Z) Z Z (es := [.t c.tt, .t c.tt]) (ResL.rawU (id := 26) Z Z (unC _ _ _ _ _ _) (ResL.t ResL.done)) (Fw c c hok hok) Z (AI (Le.known (t := 31) true Z (FI _)) (kZ [0,2,3,4,5,6,7,8,31] Z (xK 5 Z (AI (Le.known (t := 36) false Z (by simp)) ?_)))));refine xK 4 Z (kZ [0,2,3,4,5,6,38,39,40] Z (xZ Z (AI (Le.known (t := 41) false Z (by simp)) ?_)));refine eZ Z (nB (Ax Z (AB (tN (sG (eZ Z (nA (eZ Z (nZ Z (eZ Z (MW (id := 26) Z Z (AA Z) Z Z Z Z Z (H7 c (Lr b c.sites) (Lr b (mkI c.sites 1)) 1 (by decide) hct hmk (Gv _ _) (Gv _ _)) (nZ Z (eZ Z (nB (sQ ?_)))))))))))))));refine kY [0,2,3,4,5,6,9] Z (rG (eZ Z (nA (eZ Z (nZ Z (eZ Z (Ba Z Z (AA Z) Z Z (es := [.t (Iv c 1).tt, .t (.int 1)]) (ResL.rawU (id := 26) Z Z (unC _ _ _ _ _ _) (ResL.t ResL.done)) (E9 c 1 (by decide) hct) Z (eZ Z (nB (sQ (sG (eK 2 Z (AI (Le.known (t := 50) false Z (by simp; omega)) ?_)))))))))))));refine nB (Ax Z (AB (tN (sQ (sQ (kY [0,2,3,4,5,6,9,10] Z (rG (eK 3 Z (AI (Le.known (t := 53) false Z (by simp)) ?_)))))))));refine nB (Ax Z (AB (tN (sG (eZ Z (B7 hL ?_))))));refine ⟨_, hI, rfl, ?_⟩;refine nZ Z (Al Z Z (AA Z) (.inr Z) Z Z (nZ Z (Ao Z Z (AA Z) Z Z Z Z ?_)));refine F4 (u := 57) 57 Z Z (fun v57 hv57 => ?_)
 obtain ⟨a57_0, a57_1, a57_2, a57_3, a57_4, rfl⟩ : ∃ a57_0 a57_1 a57_2 a57_3 a57_4, v57 = [a57_0, a57_1, a57_2, a57_3, a57_4] := by
  match v57, hv57 with
  | [a57_0, a57_1, a57_2, a57_3, a57_4], _ => exact ⟨_, _, _, _, _, rfl⟩
 refine nZ Z (WO_evF tys Z Z (AA Z) (d := .t _) Z (nZ Z (WO_evF tys Z Z (AA Z) (d := .t _) Z (nZ Z (kZ [2,3,4,5,6,9,10,57,58,59] Z (AR tys Z Z (AA Z) Z Z Z (nZ Z (sT Z (nZ Z (eK 2 Z (nB (sQ (sG (eZ Z (nZ Z ?_)))))))))))))));refine eZ Z ?_
 try refine AI (Le.freeze (u := 61) rfl) ?_
 refine nZ Z (Ba Z Z (AA Z) Z Z (es := [.t c.tt, .t c.tt]) (ResL.rawU (id := 57) Z Z (unC _ _ _ _ _ _) (ResL.t ResL.done)) (Fw c c hok hok) Z (AI (Le.known (t := 62) true Z (FI _)) (eK 2 Z (kZ [2,4,5,6,9,10,12,13,64] Z (xK 3 Z (AI (Le.known (t := 67) false Z (by simp)) ?_))))));refine xK 5 Z (AI (Le.known (t := 72) false Z (by simp)) ?_);refine eZ Z (kZ [2,6,9,10,73] Z (nB (Ax Z (AB (tN (sG (eZ Z (nA (eZ Z (nZ Z (eZ Z (Ba Z Z (AA Z) Z Z (es := [.t (Iv c 1).tt, .t (.int 1)]) (ResL.rawU (id := 26) Z Z (unC _ _ _ _ _ _) (ResL.t ResL.done)) (E9 c 1 (by decide) hct) Z (eZ Z (nB (sQ ?_)))))))))))))));refine sG (eK 2 Z (AI (Le.known (t := 78) false Z (by simp; omega)) ?_));refine nB (Ax Z (AB (tN (sQ (sQ (kY [2,9,10] Z (rG (eK 3 Z (AI (Le.known (t := 81) false Z (by simp)) ?_)))))))));refine nB (Ax Z (AB (tN (sG (eZ Z (nB (rT (eR ?_))))))))
 ·rfl
end Go.Proofs.YthinnpkpafmbcaaGreatDoor
