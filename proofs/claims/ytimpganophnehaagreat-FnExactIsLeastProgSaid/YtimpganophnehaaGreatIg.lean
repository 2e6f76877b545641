/- Walks of how the reference runs a program, and of whether one ends so. -/
import Derived.Test.YtimpganophnehaaGreatIf
import Derived.Test.YtimpganophnehaaGreatGc
set_option linter.unusedVariables false
set_option linter.unusedSimpArgs false
set_option maxRecDepth 10000
set_option maxHeartbeats 1000000
namespace Go.Proofs.YtimpganophnehaaGreat
open Go.Eng

theorem levC {p : Prog} {inp : List Int} {most : Nat} (hg : goodP p = true) (hp : p.ok 1048576) (hi : inp.length ≤ 1048576) (hmost : most ≤ 1048576) : ∀ n, CallS p inp most n (lev p inp most n) ∧ StmtC p inp most n (lev p inp most n)
 | 0 => by
  have hL := lev_ok (inp := inp) hg most 0
  constructor
  ·intro fn args b m bm bb pv iv xv xt h0 h1 ha hu hd hn hn2 hti
   have hz : m.fuel = 0 := by omega
   have h := callP_fun p inp most 0 (lev p inp most 0) hL (fun k hk => by omega) (fun k hk => by omega) hg hp hi hmost fn args b m bm bb pv iv xv xt h0 h1 ha hu hd hn hn2 hti
   rw [ca_0 hz, burn_0 hz] at h
   exact h
  ·intro f t s bm bc bb pv iv fbv fsv xv xt hf ht hs hn hn2 hti hof hdm
   have hz : s.m.fuel = 0 := by omega
   have h := stmtP_fun p inp most 0 (lev p inp most 0) hL (fun k hk => by omega) (fun k hk => by omega) hg hp hi hmost f t s bm bc bb pv iv fbv fsv xv xt hf ht hs hn hn2 hti hof hdm
   rw [st_0 hz, burn_0 hz] at h
   exact h
 | n + 1 => by
  obtain ⟨hC, hS⟩ := levC (inp := inp) hg hp hi hmost n
  have hL := lev_ok (inp := inp) hg most n
  exact ⟨callS_next hL (fun k hk => by cases hk; exact hC) (fun k hk => by cases hk; exact hS) hg hp hi hmost _ rfl, stmtC_next hL (fun k hk => by cases hk; exact hC) (fun k hk => by cases hk; exact hS) hg hp hi hmost _ rfl⟩

def runL (p : Prog) (inp : List Int) (most fuel : Nat) : Int × Int × Option By × Ms := (lev p inp most fuel).call 0 [] none ⟨0, fuel, 0, []⟩
def outV (h v : Int) : Int := if h = 1 then v else if h = 2 then v else 0
theorem goodP_main {p : Prog} (hg : goodP p = true) : (0 : Int) < p.funcs.length ∧ atI (paramsL p) 0 = 0 := by
 have h1 := goodP_len hg
 refine ⟨by omega, ?_⟩
 unfold goodP at hg
 simp only [Bool.and_eq_true, decide_eq_true_eq] at hg
 exact hg.2.2.1
theorem runL_to {p : Prog} {inp : List Int} (hg : goodP p = true) (most fuel : Nat) : Ms.to inp (runL p inp most fuel).1 none (runL p inp most fuel).2.2.1 ⟨0, fuel, 0, []⟩ (runL p inp most fuel).2.2.2 :=
 (lev_ok hg most fuel).call 0 [] none ⟨0, fuel, 0, []⟩ (by omega) (goodP_main hg).1 (by rw [(goodP_main hg).2]; rfl) (Nat.zero_le _)
theorem retO {a a' b b' c c' : Int} {t t' : List T} (h1 : a = a') (h2 : b = b') (h3 : t = t') (h4 : c = c') : [D.agg [D.t (T.v (Value.int .i64 a)), D.t (T.v (Value.int .i64 b)), D.own (T.list 1 t), D.t (T.v (Value.int .i64 c))]] = [D.agg [D.t (T.int a'), D.t (T.int b'), D.own (T.list 1 t'), D.t (T.int c')]] := by rw [h1, h2, h3, h4]

theorem l4Run_fun (p : Prog) (inp : List Int) (most fuel : Nat) (hg : goodP p = true) (hp : p.ok 1048576) (hi : inp.length ≤ 1048576) (hmost : most ≤ 1048576) (hfu : fuel ≤ 1048576) : Fun Tryz.prog 120 [.t p.tt, .t (T.ints inp), .t (.int most), .t (.int fuel)] (tupD [.agg [.t (.int (runL p inp most fuel).1), .t (.int (outV (runL p inp most fuel).1 (runL p inp most fuel).2.1)), .own (T.ints (runL p inp most fuel).2.2.2.trace), .t (.int (runL p inp most fuel).2.2.2.used)]]) := by
 have hto := runL_to (inp := inp) hg most fuel
 have hC := (levC (inp := inp) hg hp hi hmost fuel).1
 have hm := goodP_main hg
 obtain ⟨R, hR⟩ : ∃ R, R = runL p inp most fuel := ⟨_, rfl⟩
 rw [← hR] at hto ⊢
 refine Fun.begin tys Tryz.func120 rfl rfl (N := 49) [(0, .t p.tt), (1, .t (T.ints inp)), (2, .t (.int most)), (3, .t (.int fuel))] rfl rfl (fun w0 G F0 => ?_)
 refine sQ (rG (WO_box rfl rfl (lt_of rfl) rfl rfl (nZ rfl (WO_alloc tys rfl rfl (lt_of rfl) rfl rfl rfl (nZ rfl (oN (tN (sQ (rG (eZ rfl ?_))))))))))
 try refine WO_le (Le.freeze (u := 13) rfl) ?_
 refine nZ rfl (eK 3 rfl (WO_structW (pl := [(0, 1), (1, 1), (2, 1), (3, 1), (4, 1), (5, 1)]) tys rfl rfl (lt_of rfl) rfl rfl rfl (by kernel_rfl) rfl rfl rfl rfl rfl (WO_box rfl rfl (lt_of rfl) rfl rfl (nZ rfl (eZ rfl (kZ [8,9] rfl (oN (tN (sQ ?_)))))))))
 refine W_tellBox (u := 18) (j := 0) 99 rfl rfl rfl (fun pv => ?_)
 refine nY rfl ?_
 refine W_tellBox (u := 18) (j := 1) 98 rfl rfl rfl (fun iv => ?_)
 refine nY rfl (W_le (Le.roJoin 99 98 rfl rfl) (nY rfl (W_le (Le.nilBox (u := 18) (j := 5) 1 rfl rfl) (nY rfl ?_))))
 refine W_pin (u := 18) (pid := 1018) rfl rfl (fun bm => ?_)
 refine nY rfl (rG (eZ rfl (WO_structW (pl := [(0, 2), (2, 1)]) tys rfl rfl (lt_of rfl) rfl rfl rfl (by kernel_rfl) rfl rfl rfl rfl rfl (WO_box rfl rfl (lt_of rfl) rfl rfl (nZ rfl ?_)))))
 refine WO_pin (u := 22) (pid := 1022) rfl rfl (fun bx => ?_)
 refine nZ rfl ?_
 have hCa := hC 0 [] none ⟨0, fuel, 0, []⟩ bm bx pv iv [] [] (by omega) hm.1 (by rw [hm.2]; rfl) (Nat.zero_le _) (Nat.zero_le _) (Nat.le_refl _) hfu (by simpa using hfu)
 rw [show (lev p inp most fuel).call 0 [] none ⟨0, fuel, 0, []⟩ = R from hR.symm] at hCa
 refine nZ rfl (WO_le (Le.close (u := 22) 1022 rfl rfl rfl) (nZ rfl (WO_le (Le.close (u := 18) 1018 rfl rfl rfl) (nZ rfl ?_))))
 refine WO_callP (rid := 99) [22, 18] rfl rfl (lt_of rfl) rfl rfl (by repeat (first | exact ResP.done | refine ResP.pin0 1022 rfl ?_ | refine ResP.pin0 1018 rfl ?_ | refine ResP.t ?_ | refine ResP.nil 1 ?_ | refine ResP.nil' ?_ | refine ResP.own ?_ | refine ResP.sl rfl rfl (by first | omega | (simp; omega)) ?_ | refine ResP.aggT (by repeat (first | exact ResP.done | refine ResP.t ?_)) ?_)) rfl (by repeat (first | exact trivial | refine ⟨rfl, rfl, ?_⟩)) (by decide) (hCa) rfl rfl rfl ?_
 refine nZ rfl (WO_le (Le.open (u := 22) 1022 rfl rfl rfl rfl) (nZ rfl (WO_le (Le.open (u := 18) 1018 rfl rfl rfl rfl) (nZ rfl (eZ rfl (WO_evF tys rfl rfl (lt_of rfl) (d := .t _) rfl (nZ rfl (WO_extract rfl rfl (lt_of rfl) rfl rfl rfl rfl ?_))))))))
 first | refine WO_le (Le.adoptE (u := 25) 25 rfl (by first | exact lenN | exact rfl)) ?_ | skip
 refine nZ rfl (WO_alloc tys rfl rfl (lt_of rfl) rfl rfl rfl (nZ rfl (eZ rfl (kZ [8,9,10,11,25] rfl (sT rfl (nZ rfl (oN (tN (sQ (W_le (Le.adoptBox (u := 18) (j := 5) (id := 195) rfl rfl rfl) (nY rfl (W_regionGm 12 mixed rfl (by kernel_rfl) (by kernel_rfl) ?_))))))))))))
 iterate 3 (refine QG_ev tys rfl rfl (lt_of rfl) rfl ?_)
 refine QG_nil' rfl rfl (lt_of rfl) rfl rfl rfl (QG_ev tys rfl rfl (lt_of rfl) rfl (QG_norm rfl (QG_ev tys rfl rfl (lt_of rfl) rfl (QG_ev tys rfl rfl (lt_of rfl) rfl (QG_nil' rfl rfl (lt_of rfl) rfl rfl rfl (QG_ev tys rfl rfl (lt_of rfl) rfl (QG_ev tys rfl rfl (lt_of rfl) rfl (QG_struct tys rfl rfl (lt_of rfl) rfl rfl rfl (by kernel_rfl) rfl rfl rfl rfl rfl rfl (QG_norm rfl (QG_alloc tys rfl rfl (lt_of rfl) rfl rfl rfl rfl (QG_nil ?_)))))))))))
 refine ⟨by kernel_rfl, ?_⟩
 refine nZ rfl (sT rfl (nZ rfl (oN (tN (sQ (sQ (W_le (Le.gatherBox (u := 12) (j := 2) (id := 195) rfl rfl rfl (by simp) rfl) ?_)))))))
 refine nY rfl (rG (eK 2 rfl (oN (tN (W_block (sQ (rG (eK 2 rfl (oN (tN ?_))))))))))
 refine W_cond rfl (fun h1 => ?_) (fun h1 => ?_)
 ·
  simp only [HS] at h1
  refine rG (eK 2 rfl (sT rfl (nZ rfl (oN (bN (tN (sQ (kY [8,12] rfl (rG (WO_loadMove tys rfl rfl (lt_of rfl) rfl rfl rfl rfl rfl rfl (nZ rfl (sT rfl (nZ rfl (oN (tN ?_)))))))))))))))
  refine rT (eR ?_)
  ·exact retO rfl (by grind [outV, xV, eV]) (by simp [List.take_of_length_le]) rfl
 simp only [HS] at h1
 refine sQ (rG (eK 2 rfl (oN (tN ?_))))
 refine W_cond rfl (fun h2 => ?_) (fun h2 => ?_)
 ·
  simp only [HS] at h2
  refine kY [8,11,12] rfl (rG (eK 3 rfl (sT rfl (nZ rfl (oN (bN (tN (sQ (rG (WO_loadMove tys rfl rfl (lt_of rfl) rfl rfl rfl rfl rfl rfl (nZ rfl (sT rfl (nZ rfl (oN (tN ?_)))))))))))))))
  refine rT (eR ?_)
  ·exact retO rfl (by grind [outV, xV, eV]) (by simp [List.take_of_length_le]) rfl
 simp only [HS] at h2
 refine W_skip (bN (tN (sQ (kY [8,12] rfl (rG (WO_loadMove tys rfl rfl (lt_of rfl) rfl rfl rfl rfl rfl rfl (nZ rfl (sT rfl (nZ rfl (oN (tN (rT (eR ?_)))))))))))))
 ·exact retO rfl (by grind [outV, xV, eV]) (by simp [List.take_of_length_le]) rfl

def endsB (p : Prog) (inp : List Int) (code value : Int) : Bool := decide ((runL p inp 12 600).1 = code) && decide (outV (runL p inp 12 600).1 (runL p inp 12 600).2.1 = value)

theorem l18Ends_fun (p : Prog) (inp : List Int) (code value : Int) (hg : goodP p = true) (hp : p.ok 1048576) (hi : inp.length ≤ 1048576) : Fun Tryz.prog 67 [.t p.tt, .t (T.ints inp), .t (.int code), .t (.int value)] (tupD [.t (.bool (endsB p inp code value))]) := by
 refine Fun.begin tys Tryz.func67 rfl rfl (N := 23) [(0, .t p.tt), (1, .t (T.ints inp)), (2, .t (.int code)), (3, .t (.int value))] rfl rfl (fun w0 G F0 => ?_)
 refine sQ (rG (WO_box rfl rfl (lt_of rfl) rfl rfl (nZ rfl (eZ rfl (oN (tN (sQ (rG (eZ rfl ?_)))))))))
 try refine WO_le (Le.freeze (u := 10) rfl) ?_
 refine nZ rfl (eZ rfl (callB ?_))
 refine ⟨_, l4Run_fun p inp 12 600 hg hp hi (by omega) (by omega), rfl, ?_⟩
 refine WO_alloc tys rfl rfl (lt_of rfl) rfl rfl rfl (nZ rfl (sT rfl (nZ rfl (oN (tN (sQ (kY [2,3,8,9] rfl (rG (eK 5 rfl ?_)))))))))
 refine WO_guard rfl rfl rfl rfl (lt_of rfl) (fun h1 => ?_) (fun h1 => ?_)
 rotate_left
 ·
  simp only [HS] at h1
  refine gN rfl rfl (gN rfl rfl (gN rfl rfl (eZ rfl (kZ [8,22] rfl (eZ rfl (oN (tN (rT (eR ?_)))))))))
  ·exact retB (by grind [endsB])
 simp only [HS] at h1
 refine eZ rfl (gY rfl (eZ rfl (gY rfl (eZ rfl (gY rfl (eZ rfl (kZ [8,17,21] rfl (eK 2 rfl (oN (tN (rT (eR ?_))))))))))))
 ·exact retB (by grind [endsB])

def askedB (p : Prog) (inp : List Int) (most : Int) : Bool := goodP p && (decide ((inp.length : Int) ≤ 10) && (allIn inp (-2147483648) 2147483647 && decide (1 ≤ most ∧ most ≤ 12)))

theorem l4Asked_fun (p : Prog) (inp : List Int) (most : Int) (hp : p.ok 1048576) (hi : inp.length ≤ 1048576) : Fun Tryz.prog 65 [.t p.tt, .t (T.ints inp), .t (.int most)] (tupD [.t (.bool (askedB p inp most))]) := by
 refine Fun.begin tys Tryz.func65 rfl rfl (N := 22) [(0, .t p.tt), (1, .t (T.ints inp)), (2, .t (.int most))] rfl rfl (fun w0 G F0 => ?_)
 refine sQ (rG (WO_box rfl rfl (lt_of rfl) rfl rfl (nZ rfl (eZ rfl (oN (tN (sQ (rG (eZ rfl ?_)))))))))
 try refine WO_le (Le.freeze (u := 7) rfl) ?_
 refine nZ rfl (callB ?_)
 refine ⟨_, goodProg_fun p hp, rfl, ?_⟩
 refine eZ rfl ?_
 refine WO_guard rfl rfl rfl rfl (lt_of rfl) (fun h1 => ?_) (fun h1 => ?_)
 rotate_left
 ·
  simp only [HS] at h1
  refine gN rfl rfl (gN rfl rfl (eK 2 rfl (kZ [1,2,6,14] rfl (gN rfl rfl (gN rfl rfl (eK 2 rfl (gN rfl rfl (gN rfl rfl (eK 2 rfl (oN (tN (rT (eR ?_)))))))))))))
  ·exact retB (by grind [askedB])
 refine eZ rfl (gY rfl (evE ?_))
 refine gY rfl (eK 2 rfl (kZ [1,2,6,13] rfl (eZ rfl ?_)))
 refine WO_guard rfl rfl rfl rfl (lt_of rfl) (fun h2 => ?_) (fun h2 => ?_)
 rotate_left
 ·
  simp only [HS] at h2
  refine gN rfl rfl (eK 2 rfl (gN rfl rfl (gN rfl rfl (eK 2 rfl (oN (tN (rT (eR ?_))))))))
  ·exact retB (by grind [askedB])
 simp only [HS] at h2
 refine eZ rfl (gY rfl (callB ?_))
 refine ⟨_, l1All_fun _ _ _ (by omega), rfl, ?_⟩
 refine eK 2 rfl ?_
 refine WO_guard rfl rfl rfl rfl (lt_of rfl) (fun h3 => ?_) (fun h3 => ?_)
 rotate_left
 ·
  simp only [HS] at h3
  refine gN rfl rfl (eK 2 rfl (oN (tN (rT (eR ?_)))))
  ·exact retB (by grind [askedB])
 refine eZ rfl (gY rfl (callB ?_))
 refine ⟨_, l1In_fun _ _ _, rfl, ?_⟩
 refine eK 2 rfl (kZ [6] rfl (oN (tN (rT (eR ?_)))))
 ·exact retB (by grind [askedB])

def endsOk (p : Prog) (inp : List Int) (code value : Int) : Bool := askedB p inp 12 && (decide (1 ≤ code ∧ code ≤ 4) && decide (-2147483648 ≤ value ∧ value ≤ 2147483647))
theorem endsOk_g {p : Prog} {inp : List Int} {code value : Int} (h : endsOk p inp code value = true) : goodP p = true := by
 unfold endsOk askedB at h
 simp only [Bool.and_eq_true] at h
 exact h.1.1

theorem specEndsSo_fun (p : Prog) (inp : List Int) (code value : Int) (hp : p.ok 1048576) (hi : inp.length ≤ 1048576) : Fun Tryz.prog 34 [.t p.tt, .t (T.ints inp), .t (.int code), .t (.int value)] (tupD [.t (.bool (endsOk p inp code value && endsB p inp code value)), .t (.bool (endsOk p inp code value))]) := by
 refine Fun.begin tys Tryz.func34 rfl rfl (N := 29) [(0, .t p.tt), (1, .t (T.ints inp)), (2, .t (.int code)), (3, .t (.int value))] rfl rfl (fun w0 G F0 => ?_)
 refine sQ (rG (WO_box rfl rfl (lt_of rfl) rfl rfl (nZ rfl (eK 2 rfl (oN (tN (sQ (sQ (rG (eZ rfl ?_))))))))))
 try refine WO_le (Le.freeze (u := 10) rfl) ?_
 refine nZ rfl (eZ rfl (callB ?_))
 refine ⟨_, l4Asked_fun p inp 12 hp hi, rfl, ?_⟩
 refine eK 2 rfl ?_
 refine WO_guard rfl rfl rfl rfl (lt_of rfl) (fun h1 => ?_) (fun h1 => ?_)
 rotate_left
 ·
  simp only [HS] at h1
  refine gN rfl rfl (kZ [1,2,3,4,8,9,14,16] rfl (gN rfl rfl (eK 2 rfl (gN rfl rfl (gN rfl rfl (gN rfl rfl (eZ rfl (oN (tN (W_condT rfl (sQ (kY [1,2,3,4,8,9] rfl (rG (eK 2 rfl (oN ?_)))))))))))))))
  refine tN (rT (tR (eR ?_)))
  ·(have hno : endsOk p inp code value = false := (by grind [endsOk]); exact retBB (by rw [hno]; rfl) hno.symm)
 simp only [HS] at h1
 refine eZ rfl (gY rfl (callB ?_))
 refine ⟨_, l1In_fun _ _ _, rfl, ?_⟩
 refine kZ [1,2,3,4,8,9,14,16] rfl (gY rfl (eK 3 rfl ?_))
 refine WO_guard rfl rfl rfl rfl (lt_of rfl) (fun h2 => ?_) (fun h2 => ?_)
 rotate_left
 ·
  simp only [HS] at h2
  refine gN rfl rfl (gN rfl rfl (eZ rfl (oN (tN (W_condT rfl (sQ (rG (eK 2 rfl (oN (tN (rT (tR (eR ?_)))))))))))))
  ·(have hno : endsOk p inp code value = false := (by grind [endsOk]); exact retBB (by rw [hno]; rfl) hno.symm)
 simp only [HS] at h2
 refine eZ rfl (gY rfl (callB ?_))
 refine ⟨_, l2Bound_fun _, rfl, ?_⟩
 refine gY rfl (eK 2 rfl (oN (tN ?_)))
 refine W_cond rfl (fun h3 => ?_) (fun h3 => ?_)
 ·
  simp only [HS] at h3
  refine sQ (kY [1,2,3,4,8,9] rfl (rG (eK 2 rfl (oN (tN (rT (tR (eR ?_))))))))
  ·(have hno : endsOk p inp code value = false := (by grind [endsOk]); exact retBB (by rw [hno]; rfl) hno.symm)
 simp only [HS] at h3
 refine W_skip (tN (sQ (kY [1,2,3,4,8,9] rfl (rG ?_))))
 have hok : endsOk p inp code value = true := by grind [endsOk]
 refine eZ rfl ?_
 try refine WO_le (Le.freeze (u := 24) rfl) ?_
 refine nZ rfl (eK 3 rfl (callB ?_))
 refine ⟨_, l18Ends_fun p inp code value (endsOk_g hok) hp hi, rfl, ?_⟩
 refine eK 2 rfl (oN (tN (rT (eR ?_))))
 ·exact retBB (by rw [hok]; rfl) hok.symm
end Go.Proofs.YtimpganophnehaaGreat
