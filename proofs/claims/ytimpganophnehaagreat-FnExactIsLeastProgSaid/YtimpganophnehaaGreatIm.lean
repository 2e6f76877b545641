/- Walks of how the program runs a program, and of whether one ends so; the law. -/
import Derived.Test.YtimpganophnehaaGreatIl
import Derived.Test.YtimpganophnehaaGreatIg
set_option linter.unusedVariables false
set_option linter.unusedSimpArgs false
set_option maxRecDepth 10000
set_option maxHeartbeats 1000000
namespace Go.Proofs.YtimpganophnehaaGreat
open Go.Eng

theorem levI {p : Prog} {inp : List Int} {most : Nat} (hg : goodP p = true) (hp : p.ok 1048576) (hi : inp.length ≤ 1048576) (hmost : most ≤ 1048576) (n : Nat) : CallI p inp most n (lev p inp most n) ∧ StmtI p inp most n (lev p inp most n) := by
 induction n using Nat.strongRecOn with
 | _ n hI =>
  constructor
  ·intro fn args b m bm bb q pv iv xv xt h0 h1 ha hu hd hn hn2 hti
   by_cases hz : m.fuel = 0
   ·exact callI0_fun p inp most n hI hg hp hi hmost fn args b m bm bb q pv iv xv xt h0 h1 ha hu hd hn hz hn2 hti
   ·exact callI1_fun p inp most n hI hg hp hi hmost fn args b m bm bb q pv iv xv xt h0 h1 ha hu hd hn hz hn2 hti
  ·intro fn f t s bm bc bb q pv iv xv xt h0 h1 hfd ht hs hn hn2 hti hof hdm
   exact stmtI_fun p inp most n hI hg hp hi hmost fn f t s bm bc bb q pv iv xv xt h0 h1 hfd ht hs hn hn2 hti hof hdm

theorem haH_2 {h : Int} (e : haH h = 2) : h = 2 := by unfold haH at e; split at e <;> omega
theorem haH_3 {h : Int} (e : haH h = 3) : h = 3 := by unfold haH at e; split at e <;> omega
theorem coH_ge {h : Int} (h1 : 1 ≤ h) (a : ¬ haH h = 1) (b : ¬ haH h = 2) (c : ¬ haH h = 3) : 4 ≤ h ∧ coH h = h := by
 unfold haH at a b c
 by_cases h4 : 4 ≤ h
 ·exact ⟨h4, by unfold coH; rw [if_pos h4]⟩
 ·rw [if_neg h4] at a b c; omega

theorem runBig_fun (p : Prog) (inp : List Int) (most fuel : Nat) (hg : goodP p = true) (hp : p.ok 1048576) (hi : inp.length ≤ 1048576) (hmost : most ≤ 1048576) (hfu : fuel ≤ 1048576) : Fun Tryz.prog 72 [.t p.tt, .t (T.ints inp), .t (.int most), .t (.int fuel)] (tupD [.agg [.t (.int (runL p inp most fuel).1), .t (.int (outV (runL p inp most fuel).1 (runL p inp most fuel).2.1)), .own (T.ints (runL p inp most fuel).2.2.2.trace), .t (.int (runL p inp most fuel).2.2.2.used)]]) := by
 have hto := runL_to (inp := inp) hg most fuel
 have hC := (levI (inp := inp) hg hp hi hmost fuel).1
 have hm := goodP_main hg
 obtain ⟨R, hR⟩ : ∃ R, R = runL p inp most fuel := ⟨_, rfl⟩
 rw [← hR] at hto ⊢
 have hr1 := hto.h1
 refine Fun.begin tys Tryz.func72 rfl rfl (N := 56) [(0, .t p.tt), (1, .t (T.ints inp)), (2, .t (.int most)), (3, .t (.int fuel))] rfl rfl (fun w0 G F0 => ?_)
 refine sQ (rG (WO_box rfl rfl (lt_of rfl) rfl rfl (nZ rfl (WO_alloc tys rfl rfl (lt_of rfl) rfl rfl rfl (nZ rfl (oN (tN (sQ (rG (eZ rfl ?_))))))))))
 try refine WO_le (Le.freeze (u := 12) rfl) ?_
 refine nZ rfl (eK 3 rfl (WO_structW (pl := [(0, 1), (1, 1), (2, 1), (3, 1), (4, 1), (5, 4)]) tys rfl rfl (lt_of rfl) rfl rfl rfl (by kernel_rfl) rfl rfl rfl rfl rfl (WO_box rfl rfl (lt_of rfl) rfl rfl (nZ rfl (eZ rfl (kZ [8,9] rfl (oN (tN (sQ ?_)))))))))
 refine W_tellBox (u := 17) (j := 0) 99 rfl rfl rfl (fun pv => ?_)
 refine nY rfl ?_
 refine W_tellBox (u := 17) (j := 1) 98 rfl rfl rfl (fun iv => ?_)
 refine nY rfl (W_le (Le.roJoin 99 98 rfl rfl) (nY rfl (W_le (Le.nilBox (u := 17) (j := 7) 1 rfl rfl) (nY rfl ?_))))
 refine W_pin (u := 17) (pid := 1017) rfl rfl (fun bm => ?_)
 refine nY rfl (W_le (Le.noBox 150 (gC 0 [] [] 0 0 0 false (.pointer none)) rfl) (nY rfl ?_))
 have hCa := hC 0 [] none ⟨0, fuel, 0, []⟩ bm 0 ⟨0, [], [], 0, .pointer none⟩ pv iv [] [] (by omega) hm.1 (by rw [hm.2]; rfl) (Nat.zero_le _) (Nat.zero_le _) (Nat.le_refl _) hfu (by simpa using hfu)
 rw [show (lev p inp most fuel).call 0 [] none ⟨0, fuel, 0, []⟩ = R from hR.symm] at hCa
 refine rG (eZ rfl (WO_le (Le.close (u := 17) 1017 rfl rfl rfl) (nZ rfl ?_)))
 refine WO_callP (rid := 99) [150, 17] rfl rfl (lt_of rfl) rfl rfl (by repeat (first | exact ResP.done | refine ResP.pin0 1150 rfl ?_ | refine ResP.pin0 1017 rfl ?_ | refine ResP.t ?_ | refine ResP.nil 1 ?_ | refine ResP.nil' ?_ | refine ResP.own ?_ | refine ResP.sl rfl rfl (by first | omega | (simp; omega)) ?_ | refine ResP.aggT (by repeat (first | exact ResP.done | refine ResP.t ?_)) ?_)) rfl (by repeat (first | exact trivial | refine ⟨rfl, rfl, ?_⟩)) (by decide) (hCa) rfl rfl rfl ?_
 refine nZ rfl (WO_le (Le.open (u := 17) 1017 rfl rfl rfl rfl) (nZ rfl (eZ rfl (WO_evF tys rfl rfl (lt_of rfl) (d := .t _) rfl (nZ rfl (WO_evF tys rfl rfl (lt_of rfl) (d := .t _) rfl (nZ rfl (eK 2 rfl (oN (tN (sQ (sQ (kY [8,9,10,11] rfl (rG (eZ rfl ?_)))))))))))))))
 refine oN (tN (W_block (sQ (rG (eK 2 rfl (oN (tN ?_)))))))
 refine W_cond rfl (fun h1 => ?_) (fun h1 => ?_)
 ·
  simp only [HS] at h1
  refine rG (eK 3 rfl (WO_nil' rfl rfl (lt_of rfl) rfl rfl rfl (eK 2 rfl (kZ [8,9,27,28,31] rfl (sT rfl (nZ rfl (WO_nil' rfl rfl (lt_of rfl) rfl rfl rfl (eK 2 rfl (sT rfl (nZ rfl (oN (bN (tN (sQ (W_le (Le.adoptBox (u := 17) (j := 7) (id := 195) rfl rfl rfl) ?_)))))))))))))))
  refine nY rfl (rG (eZ rfl (WO_nil' rfl rfl (lt_of rfl) rfl rfl rfl (eK 2 rfl ?_))))
  try refine WO_le (Le.freeze (u := 55) rfl) ?_
  refine nZ rfl (kZ [8,55] rfl (sT rfl (nZ rfl (WO_le (Le.gatherBox (u := 8) (j := 2) (id := 195) rfl rfl rfl (by simp) rfl) ?_))))
  refine nZ rfl (nZ rfl (oN (tN (rT (eR ?_)))))
  ·first
   | (have e := haH_1 (by assumption); exact retO e.symm (by rw [outV, if_pos e]) (by simp [List.take_of_length_le]) rfl)
 simp only [HS] at h1
 refine sQ (rG (eK 2 rfl (oN (tN ?_))))
 refine W_cond rfl (fun h2 => ?_) (fun h2 => ?_)
 ·
  simp only [HS] at h2
  refine rG (eK 3 rfl (WO_nil' rfl rfl (lt_of rfl) rfl rfl rfl (kZ [8,9,38,39,40] rfl (eK 2 rfl (sT rfl (nZ rfl (WO_nil' rfl rfl (lt_of rfl) rfl rfl rfl (eK 2 rfl (sT rfl (nZ rfl (oN (bN (tN (sQ (W_le (Le.adoptBox (u := 17) (j := 7) (id := 195) rfl rfl rfl) ?_)))))))))))))))
  refine nY rfl (kY [8,9] rfl (rG (eZ rfl (WO_nil' rfl rfl (lt_of rfl) rfl rfl rfl (eK 2 rfl ?_)))))
  try refine WO_le (Le.freeze (u := 55) rfl) ?_
  refine nZ rfl (sT rfl (nZ rfl (WO_le (Le.gatherBox (u := 8) (j := 2) (id := 195) rfl rfl rfl (by simp) rfl) ?_)))
  refine nZ rfl (nZ rfl (oN (tN (rT (eR ?_)))))
  ·first
   | (have e := haH_2 (by assumption); exact retO e.symm (by rw [outV, if_neg (by omega), if_pos e]) (by simp [List.take_of_length_le]) rfl)
 simp only [HS] at h2
 refine sQ (rG (eK 2 rfl (oN (tN ?_))))
 refine W_cond rfl (fun h3 => ?_) (fun h3 => ?_)
 ·
  simp only [HS] at h3
  refine kY [8,9] rfl (rG (eZ rfl (WO_nil' rfl rfl (lt_of rfl) rfl rfl rfl (eK 2 rfl (sT rfl (nZ rfl (oN (bN (tN (sQ (W_le (Le.adoptBox (u := 17) (j := 7) (id := 195) rfl rfl rfl) (nY rfl (rG (eZ rfl (WO_nil' rfl rfl (lt_of rfl) rfl rfl rfl ?_)))))))))))))))
  refine eK 2 rfl ?_
  try refine WO_le (Le.freeze (u := 55) rfl) ?_
  refine nZ rfl (kZ [8,55] rfl (sT rfl (nZ rfl (WO_le (Le.gatherBox (u := 8) (j := 2) (id := 195) rfl rfl rfl (by simp) rfl) ?_))))
  refine nZ rfl (nZ rfl (oN (tN (rT (eR ?_)))))
  ·first
   | (have e := haH_3 (by assumption); exact retO e.symm (by rw [outV, if_neg (by omega), if_neg (by omega)]) (by simp [List.take_of_length_le]) rfl)
 simp only [HS] at h3
 refine W_skip (bN (tN (sQ (W_le (Le.adoptBox (u := 17) (j := 7) (id := 195) rfl rfl rfl) (nY rfl (kY [8,9] rfl (rG (eZ rfl (WO_nil' rfl rfl (lt_of rfl) rfl rfl rfl (eK 2 rfl ?_))))))))))
 try refine WO_le (Le.freeze (u := 55) rfl) ?_
 refine nZ rfl (sT rfl (nZ rfl (WO_le (Le.gatherBox (u := 8) (j := 2) (id := 195) rfl rfl rfl (by simp) rfl) ?_)))
 refine nZ rfl (nZ rfl (oN (tN (rT (eR ?_)))))
 ·first
  | exact retO (coH_ge hr1 (by assumption) (by assumption) (by assumption)).2 (by have h := (coH_ge hr1 (by assumption) (by assumption) (by assumption)).1; rw [outV, if_neg (by omega), if_neg (by omega)]) (by simp [List.take_of_length_le]) rfl

theorem endsI_fun (p : Prog) (inp : List Int) (code value : Int) (hg : goodP p = true) (hp : p.ok 1048576) (hi : inp.length ≤ 1048576) : Fun Tryz.prog 38 [.t p.tt, .t (T.ints inp), .t (.int code), .t (.int value)] (tupD [.t (.bool (endsB p inp code value))]) := by
 refine Fun.begin tys Tryz.func38 rfl rfl (N := 23) [(0, .t p.tt), (1, .t (T.ints inp)), (2, .t (.int code)), (3, .t (.int value))] rfl rfl (fun w0 G F0 => ?_)
 refine sQ (rG (WO_box rfl rfl (lt_of rfl) rfl rfl (nZ rfl (eZ rfl (oN (tN (sQ (rG (eZ rfl ?_)))))))))
 try refine WO_le (Le.freeze (u := 10) rfl) ?_
 refine nZ rfl (eZ rfl (callB ?_))
 refine ⟨_, runBig_fun p inp 12 600 hg hp hi (by omega) (by omega), rfl, ?_⟩
 refine WO_alloc tys rfl rfl (lt_of rfl) rfl rfl rfl (nZ rfl (sT rfl (nZ rfl (oN (tN (sQ (kY [2,3,8,9] rfl (rG (eK 5 rfl ?_)))))))))
 refine WO_guard rfl rfl rfl rfl (lt_of rfl) (fun h1 => ?_) (fun h1 => ?_)
 rotate_left
 ·
  simp only [HS] at h1
  refine gN rfl rfl (gN rfl rfl (gN rfl rfl (eZ rfl (kZ [8,22] rfl (eZ rfl (oN (tN (rT (eR ?_)))))))))
  ·exact retB (by grind [endsB])
 simp only [HS] at h1
 refine eZ rfl (gY rfl (eZ rfl (gY rfl (eZ rfl (gY rfl (eZ rfl (kZ [8,17,21] rfl (eK 2 rfl (oN (tN (rT (eR ?_))))))))))))
 ·exact retB (by grind [endsB])

theorem areRun1_fun (n : Int) : Fun Tryz.prog 126 [.t (.int n)] (tupD [.t (.bool (!decide (-2147483648 ≤ n ∧ n ≤ 2147483647)))]) := by
 refine Fun.begin tys Tryz.func126 rfl rfl (N := 6) [(0, .t (.int n))] rfl rfl (fun w0 G F0 => ?_)
 refine sQ (rG (eZ rfl (oN (tN (sQ (rG (eZ rfl (callB ?_))))))))
 refine ⟨_, isSmall_fun _, rfl, ?_⟩
 refine eK 2 rfl (oN (tN (rT (eR ?_))))
 ·rfl

theorem any_not_small {l : List Int} : (l.any fun n => !decide (-2147483648 ≤ n ∧ n ≤ 2147483647)) = !allIn l (-2147483648) 2147483647 := by
 rw [allIn, List.not_all_eq_any_not]

theorem areRun_fun (p : Prog) (inp : List Int) (most : Int) (hp : p.ok 1048576) (hi : inp.length ≤ 1048576) : Fun Tryz.prog 70 [.t p.tt, .t (T.ints inp), .t (.int most)] (tupD [.t (.bool (askedB p inp most))]) := by
 refine Fun.begin tys Tryz.func70 rfl rfl (N := 23) [(0, .t p.tt), (1, .t (T.ints inp)), (2, .t (.int most))] rfl rfl (fun w0 G F0 => ?_)
 refine sQ (rG (WO_box rfl rfl (lt_of rfl) rfl rfl (nZ rfl (eZ rfl (oN (tN (sQ (rG (eZ rfl ?_)))))))))
 try refine WO_le (Le.freeze (u := 7) rfl) ?_
 refine nZ rfl (callB ?_)
 refine ⟨_, isProg_fun p hp, rfl, ?_⟩
 refine eZ rfl ?_
 refine WO_guard rfl rfl rfl rfl (lt_of rfl) (fun h1 => ?_) (fun h1 => ?_)
 rotate_left
 ·
  simp only [HS] at h1
  refine gN rfl rfl (gN rfl rfl (eK 2 rfl (kZ [1,2,6,14] rfl (gN rfl rfl (gN rfl rfl (eK 2 rfl (gN rfl rfl (gN rfl rfl (gN rfl rfl (eK 2 rfl (kZ [6] rfl (oN (tN (rT (eR ?_)))))))))))))))
  ·exact retB (by first | grind [askedB] | (rw [any_not_small]; grind [askedB]))
 refine eZ rfl (gY rfl (evE ?_))
 refine gY rfl (eK 2 rfl (kZ [1,2,6,13] rfl (eZ rfl ?_)))
 refine WO_guard rfl rfl rfl rfl (lt_of rfl) (fun h2 => ?_) (fun h2 => ?_)
 rotate_left
 ·
  simp only [HS] at h2
  refine gN rfl rfl (eK 2 rfl (gN rfl rfl (gN rfl rfl (gN rfl rfl (eK 2 rfl (kZ [6] rfl (oN (tN (rT (eR ?_))))))))))
  ·exact retB (by first | grind [askedB] | (rw [any_not_small]; grind [askedB]))
 simp only [HS] at h2
 refine eZ rfl (gY rfl (callB ?_))
 refine ⟨_, within_fun _ _ _, rfl, ?_⟩
 refine eK 2 rfl ?_
 refine WO_guard rfl rfl rfl rfl (lt_of rfl) (fun h3 => ?_) (fun h3 => ?_)
 rotate_left
 ·
  simp only [HS] at h3
  refine gN rfl rfl (gN rfl rfl (eK 2 rfl (kZ [6] rfl (oN (tN (rT (eR ?_)))))))
  ·exact retB (by first | grind [askedB] | (rw [any_not_small]; grind [askedB]))
 simp only [HS] at h3
 refine eZ rfl (gY rfl (callB ?_))
 refine ⟨_, hasS_fun inp (fun n => !decide (-2147483648 ≤ n ∧ n ≤ 2147483647)) _ [] rfl (by omega) (fun x _ => areRun1_fun x), rfl, ?_⟩
 refine gY rfl (eK 2 rfl (kZ [6,22] rfl (eZ rfl (oN (tN (rT (eR ?_)))))))
 ·exact retB (by first | grind [askedB] | (rw [any_not_small]; grind [askedB]))

theorem areEnds_fun (p : Prog) (inp : List Int) (code value : Int) (hp : p.ok 1048576) (hi : inp.length ≤ 1048576) : Fun Tryz.prog 37 [.t p.tt, .t (T.ints inp), .t (.int code), .t (.int value)] (tupD [.t (.bool (endsOk p inp code value))]) := by
 refine Fun.begin tys Tryz.func37 rfl rfl (N := 20) [(0, .t p.tt), (1, .t (T.ints inp)), (2, .t (.int code)), (3, .t (.int value))] rfl rfl (fun w0 G F0 => ?_)
 refine sQ (rG (WO_box rfl rfl (lt_of rfl) rfl rfl (nZ rfl (eZ rfl (oN (tN (sQ (rG (eZ rfl ?_)))))))))
 try refine WO_le (Le.freeze (u := 9) rfl) ?_
 refine nZ rfl (eZ rfl (callB ?_))
 refine ⟨_, areRun_fun p inp 12 hp hi, rfl, ?_⟩
 refine eZ rfl ?_
 refine WO_guard rfl rfl rfl rfl (lt_of rfl) (fun h1 => ?_) (fun h1 => ?_)
 rotate_left
 ·
  simp only [HS] at h1
  refine gN rfl rfl (eK 2 rfl (kZ [3,8,16] rfl (gN rfl rfl (gN rfl rfl (eK 2 rfl (oN (tN (rT (eR ?_)))))))))
  ·exact retB (by grind [endsOk])
 refine eZ rfl (gY rfl (callB ?_))
 refine ⟨_, within_fun _ _ _, rfl, ?_⟩
 refine eZ rfl (kZ [3,8,15] rfl (eZ rfl ?_))
 refine WO_guard rfl rfl rfl rfl (lt_of rfl) (fun h2 => ?_) (fun h2 => ?_)
 rotate_left
 ·
  simp only [HS] at h2
  refine gN rfl rfl (eK 2 rfl (oN (tN (rT (eR ?_)))))
  ·exact retB (by grind [endsOk])
 simp only [HS] at h2
 refine eZ rfl (gY rfl (callB ?_))
 refine ⟨_, isSmall_fun _, rfl, ?_⟩
 refine eK 2 rfl (oN (tN (rT (eR ?_))))
 ·exact retB (by grind [endsOk])

theorem eqIe_refl (l : List Int) : eqL eqI l l = true := eqL_refl eqI_refl l

end Go.Proofs.YtimpganophnehaaGreat
