/- Walks and laws of the claim. -/
import Derived.Test.YtbkamkmmljbedaaNa
set_option linter.unusedVariables false
set_option linter.unusedSimpArgs false
set_option maxRecDepth 10000
set_option maxHeartbeats 4000000
namespace Go.Proofs.Ytbkamkmmljbedaa
open Go.Eng
open Go.Eng
section
variable {P : Program} {c : Ctx} {s : St} {Q : Exit → St → Prop} {ops : Array Oper}
theorem WO_ofRaw {l : List Oper} {id b sz : Nat} {vs : List Value} {ts : List T} {p : Prop} (hM : lookM s.M id = some (.raw b sz vs ts)) (h : ∀ w bs, OwnL w vs ts bs → p) (k : p → WO P c ops l s Q) : WO P c ops l s Q := by
 intro a w hi
 obtain ⟨F, β, fb, mb, ow, hc⟩ := hi
 have hm := hc.mem id
 rw [hM] at hm
 obtain ⟨arr, e, bs', h1, h2, h3, h4, h5⟩ := hm
 exact k (h _ _ h4) a w ⟨F, β, fb, mb, ow, hc⟩
end
theorem own_tcs {w : Go.World} : ∀ {l : List Task} {ws : List Value} {bs : List Nat}, OwnL w ws ((l.map Task.tt).flatMap T.cells) bs → ∃ hdr : List (Option Addr × Nat), hdr.length = l.length ∧ ws = tcsW (hdr.zip l)
 | [], ws, bs, h => by
  cases ws with
  | nil => exact ⟨[], rfl, rfl⟩
  | cons _ _ => cases h
 | t :: l, ws, bs, h => by
  rw [List.map_cons, List.flatMap_cons] at h
  change OwnL w ws (T.Acts t.acts :: T.int t.pos :: T.int t.state :: T.int t.last :: (l.map Task.tt).flatMap T.cells) bs at h
  match ws, h with
  | v0 :: ws, h =>
   obtain ⟨b1, b2, h1, h2, _⟩ := h.cons
   match ws, h2 with
   | v1 :: ws, h2 =>
    obtain ⟨b3, b4, h3, h4, _⟩ := h2.cons
    match ws, h4 with
    | v2 :: ws, h4 =>
     obtain ⟨b5, b6, h5, h6, _⟩ := h4.cons
     match ws, h6 with
     | v3 :: ws, h6 =>
      obtain ⟨b7, b8, h7, h8, _⟩ := h6.cons
      obtain ⟨hdr, g1, g2⟩ := own_tcs h8
      have e0 : ∃ ad cap, v0 = .slice ad t.acts.length cap := by
       generalize hx : T.Acts t.acts = x at h1
       cases h1 with
       | v _ _ => cases hx
       | none _ =>
        have := (T.list.inj hx).2
        rw [List.map_eq_nil_iff] at this
        exact ⟨_, _, by rw [this]; rfl⟩
       | list _ _ _ _ _ _ _ _ =>
        have := congrArg List.length (T.list.inj hx).2
        rw [List.length_map] at this
        exact ⟨_, _, by rw [this]⟩
      obtain ⟨ad, cap, rfl⟩ := e0
      have e1 : v1 = .int .i64 t.pos := by cases h3; rfl
      have e2 : v2 = .int .i64 t.state := by cases h5; rfl
      have e3 : v3 = .int .i64 t.last := by cases h7; rfl
      subst e1 e2 e3 g2
      exact ⟨(ad, cap) :: hdr, by simp [g1], rfl⟩
theorem doI_eq {w : World} {mv : List Int} (hg : GW w) : doI w mv = doOk w mv := by
 have h := hg.trace
 have a1 : ∀ (w : World) i t, (setT w i t).trace = w.trace := fun _ _ _ => rfl
 have a2 : ∀ (w : World) i, (advW w i).trace = w.trace := fun _ _ => rfl
 unfold doI doOk doW
 by_cases h3 : (actOf w mv).kind = 3
 ·rw [if_pos h3, a2]
  by_cases h4 : w.trace.length = 120
  ·simp [h3, h4]
  ·have : w.trace.length + 1 ≤ 120 := by omega
   simp [h3, h4, this]
 ·rw [if_neg h3]
  have : w.trace.length ≤ 120 := by omega
  split <;> first | (simp [h3, a1, a2, this]; done) | skip
  split <;> first | (simp [h3, a1, a2, this]; done) | skip
  split <;> first | (simp [h3, a1, a2, this]; done) | skip
  split <;> first | (simp [h3, a1, a2, this]; done) | skip
  split <;> (simp [h3, a1, a2, this]; done)
theorem doW_len (w : World) (mv : List Int) : (doW w mv).tasks.length = w.tasks.length := by
 have a1 : ∀ (w : World) i t, (setT w i t).tasks.length = w.tasks.length := fun _ _ _ => List.length_set
 have a2 : ∀ (w : World) i, (advW w i).tasks.length = w.tasks.length := fun _ _ => List.length_set
 unfold doW
 split <;> first | (simp only [a1, a2]; done) | skip
 split <;> first | (simp only [a1, a2]; done) | skip
 split <;> first | (simp only [a1, a2]; done) | skip
 split <;> first | (simp only [a1, a2]; done) | skip
 split <;> first | (simp only [a1, a2]; done) | skip
 split <;> (simp only [a1, a2]; done)
theorem doR_len (w : World) (mv : List Int) : (doR w mv).tasks.length = w.tasks.length := by
 unfold doR; split
 ·exact doW_len w mv
 ·rfl
def world0 : World := ⟨[], [], [], [], []⟩
def hasMv (l : List (List Int)) (mv : List Int) : Bool := l.any fun m => decide (m = mv)
def dmOk (w : World) (mv : List Int) : Bool := goodWorld w && (hasMv (movesOf w) mv && doOk w mv)
def dmR (w : World) (mv : List Int) : World := if dmOk w mv then doW w mv else world0
abbrev World.dd (w : World) : D := .agg [.own (T.ints w.room), .own (intss w.held), .own (T.bools w.shut), .own (T.Tasks w.tasks), .own (T.ints w.trace)]
theorem dm_yes {w : World} {mv : List Int} (hg : goodWorld w = true) (hh : hasMv (movesOf w) mv = true) (hd : doOk w mv = true) : [(doR w mv).dd, D.t (T.v (.bool true))] = [(dmR w mv).dd, D.t (T.bool (dmOk w mv))] := by
 have h : dmOk w mv = true := by simp [dmOk, hg, hh, hd]
 have h2 : doI w mv = true := (doI_eq (gw_iff.1 hg)).trans hd
 rw [dmR, h, doR, h2]; rfl
theorem dm_no {w : World} {mv : List Int} (h : dmOk w mv = false) : [world0.dd, D.t (T.v (.bool false))] = [(dmR w mv).dd, D.t (T.bool (dmOk w mv))] := by
 rw [dmR, h]; rfl
theorem hasMv_ok {w : World} {mv : List Int} (h : hasMv (movesOf w) mv = true) : MvOk w mv := by
 unfold hasMv at h
 rw [List.any_eq_true] at h
 obtain ⟨m, h1, h2⟩ := h
 rw [← of_decide_eq_true h2]
 exact moves_ok h1
theorem take_eq_at {a b : List Int} {k : Int} (h0 : 0 ≤ k) (ha : k < a.length) (hb : k < b.length) : a.take (k + 1).toNat = b.take (k + 1).toNat ↔ a.take k.toNat = b.take k.toNat ∧ a[k.toNat]'(by omega) = b[k.toNat]'(by omega) := by
 rw [show (k + 1).toNat = k.toNat + 1 from by omega, List.take_succ_eq_append_getElem (by omega), List.take_succ_eq_append_getElem (by omega)]
 constructor
 ·intro h
  have := List.append_inj h (by simp; omega)
  exact ⟨this.1, by simpa using this.2⟩
 ·rintro ⟨h1, h2⟩
  rw [h1, h2]
theorem equalI_fun (a b : List Int) (ha : a.length ≤ 1073741824) (hb : b.length ≤ 1073741824) : Fun Try.prog 73 [.t (T.ints a), .t (T.ints b)] (tupD [.t (.bool (decide (a = b)))]) := by
 refine Fun.begin tys Try.func73 Z Z (N := 26) [(0, .t (T.ints a)), (1, .t (T.ints b))] Z Z (fun w0 G F0 => ?_)
 refine sQ (rG (eZ Z (oN (tN (sQ (sQ (rG (eZ Z (evE ?_)))))))))
 refine eZ Z (evE ?_)
 refine eZ Z (oN (tN ?_))
 refine W_cond Z (fun h1 => ?_) (fun h1 => ?_)
 ·
  simp only [HS] at h1
  refine sQ (rG (eZ Z (oN (tN (rT (tR (eR ?_)))))))
  ·first
   | (rw [show decide (a = b) = false from decide_eq_false (fun e => by subst e; simp_all)]; done)
 simp only [HS] at h1
 refine W_skip (tN (sQ (sQ (rG (eZ Z (evE ?_))))))
 refine eZ Z (kZ [0,1,4,12,13] Z (oN (tN (W_block ?_))))
 refine lK (α := Int) [0, 1, 12] [] (fun x => [(13, .t (.int x))]) (fun x => []) (fun x => 0 ≤ x ∧ x ≤ a.length ∧ a.take x.toNat = b.take x.toNat) (fun x => Int.toNat (a.length - x)) 0 ?_ (fun k hx => ?_)
 ·exact ⟨by omega, by omega, rfl⟩
 obtain ⟨hk0, hk1, hk2⟩ := hx
 refine nY Z (sQ (rG (eZ Z (oN (tN (sQ ?_))))))
 refine W_cond Z (fun h2 => ?_) (fun h2 => ?_)
 ·
  simp only [HS] at h2
  refine W_skip (tN (sQ (W_block (sQ (rG (eK 2 Z (oN (tN (sQ (W_regionD mixed (by kernel_rfl) (evQ ?_)))))))))))
  refine evQ ?_
  refine QL_idxT tys Z Z (lt_of Z) Z Z Z Z Z Z Z (by omega) _ (getT _ _ (by omega) (by omega)) (QL_norm Z (evQ ?_))
  refine evQ ?_
  refine evQ ?_
  refine QL_idxT tys Z Z (lt_of Z) Z Z Z Z Z Z Z (by omega) _ (getT _ _ (by omega) (by omega)) (evQ ?_)
  refine evQ ?_
  refine QL_norm Z (QL_nil (tN ?_))
  refine W_cond Z (fun h3 => ?_) (fun h3 => ?_)
  ·
   simp only [HS] at h3
   refine sQ (rG (eZ Z (oN (tN (rT (bR (tR (loopQ_r (bR (tR (eR ?_)))))))))))
   ·first
    | (rw [show decide (a = b) = false from decide_eq_false (fun e => by subst e; simp_all)]; done)
  simp only [HS] at h3
  refine W_skip (bN (tN (rG (evI ?_))))
  refine eZ Z (oN ?_)
  refine lQ _ ?_ ?_
  ·skip
   exact ⟨by omega, by omega, (take_eq_at hk0 (by omega) (by omega)).2 ⟨hk2, by simp_all⟩⟩
  ·(show Int.toNat _ < Int.toNat _); omega
 simp only [HS] at h2
 refine W_exit (tE (loopQ_e (inBlk_y (tN (sQ (rG (eZ Z (oN (tN (rT (eR ?_)))))))))))
 ·first
  | (rw [show decide (a = b) = true from decide_eq_true (by rw [List.take_of_length_le (by omega), List.take_of_length_le (by omega)] at hk2; exact hk2)]; done)
theorem idxInts_fun (l : List (List Int)) (p : List Int → Bool) (f : Nat) (caps : List D) (hcaps : caps.all D.imm = true) (hl : l.length ≤ 9223372036854775807) (hf : ∀ x, x ∈ l → Fun Try.prog f (.t (T.ints x) :: caps) (.t (.bool (p x)))) : Fun Try.prog 108 [.t (intss l), .clo f caps] (tupD [.t (.int (idxGo p l 0))]) := by
 refine Fun.begin tys Try.func108 Z Z (N := 19) [(0, .t (intss l)), (1, .clo f caps)] Z Z (fun w0 G F0 => ?_)
 refine sQ (rG (eZ Z (oN (tN (sQ (sQ (rG (eZ Z (evE ?_)))))))))
 refine eZ Z (oN (tN (W_block ?_)))
 refine lK (α := Int) [0, 1, 7] [] (fun x => [(8, .t (.int x))]) (fun x => []) (fun x => 0 ≤ x ∧ x ≤ l.length ∧ idxGo p l 0 = idxGo p (l.drop x.toNat) x) (fun x => Int.toNat (l.length - x)) 0 ?_ (fun k hx => ?_)
 ·exact ⟨by omega, by omega, rfl⟩
 obtain ⟨hk0, hk1, hk2⟩ := hx
 refine nY Z (sQ (rG (eZ Z (oN (tN (sQ ?_))))))
 refine W_cond Z (fun h1 => ?_) (fun h1 => ?_)
 ·
  simp only [HS] at h1
  refine W_skip (tN (sQ (W_block (sQ (rG (eK 2 Z (oN (tN (sQ (rG (WO_moveClo tys Z Z (lt_of Z) Z Z (by assumption) ?_)))))))))))
  refine eK 2 Z (WO_idxT tys Z Z (lt_of Z) Z Z Z Z Z Z Z (by omega) _ (getT _ _ (by omega) (by omega)) (eZ Z ?_))
  refine WO_call Z Z (lt_of Z) Z Z (by repeat (first | exact ResL.done | exact ResL.imms (by first | rfl | assumption) | refine ResL.t ?_ | refine ResL.own ?_ | refine ResL.slA Z (by first | rfl | (simp; done) | (simp; omega)) ?_ | refine ResL.sl Z (by first | omega | (simp; done) | (simp; omega)) ?_ | refine ResL.rp ?_ | refine ResL.clo ?_ ?_ | refine ResL.aggT ?_ ?_ | refine ResL.ref Z ?_ ?_ | refine ResL.nil' ?_ | refine ResL.nil 1 ?_)) (hf _ (List.getElem_mem _)) Z ?_
  refine kZ [0,1,5,7,8,9,10,11,12,13,14,15,16] Z (oN (tN ?_))
  refine W_cond Z (fun h2 => ?_) (fun h2 => ?_)
  ·
   refine sQ (rG (eK 2 Z (oN (tN (rT (bR (tR (loopQ_r (bR (tR (eR ?_)))))))))))
   ·rw [hk2, idx_at hk0 h1]
    simp [h2]
    done
  refine W_skip (bN (tN (rG (evI ?_))))
  refine eZ Z (oN ?_)
  refine lQ _ ?_ ?_
  ·skip
   refine ⟨by omega, by omega, ?_⟩; rw [hk2, idx_at hk0 h1]; simp [h2]
  ·(show Int.toNat _ < Int.toNat _); omega
 simp only [HS] at h1
 refine W_exit (tE (loopQ_e (inBlk_y (tN (sQ (rG (eZ Z (oN (tN (rT (eR ?_)))))))))))
 ·rw [hk2, drop_end h1]
  rfl
theorem hasInts_fun (l : List (List Int)) (p : List Int → Bool) (f : Nat) (caps : List D) (hcaps : caps.all D.imm = true) (hl : l.length ≤ 9223372036854775807) (hf : ∀ x, x ∈ l → Fun Try.prog f (.t (T.ints x) :: caps) (.t (.bool (p x)))) : Fun Try.prog 71 [.t (intss l), .clo f caps] (tupD [.t (.bool (l.any p))]) := by
 refine Fun.begin tys Try.func71 Z Z (N := 9) [(0, .t (intss l)), (1, .clo f caps)] Z Z (fun w0 G F0 => ?_)
 refine sQ (rG (eZ Z (oN (tN (sQ (rG (eZ Z (WO_moveClo tys Z Z (lt_of Z) Z Z (by assumption) ?_))))))))
 refine WO_call Z Z (lt_of Z) Z Z (by repeat (first | exact ResL.done | exact ResL.imms (by first | rfl | assumption) | refine ResL.t ?_ | refine ResL.own ?_ | refine ResL.slA Z (by first | rfl | (simp; done) | (simp; omega)) ?_ | refine ResL.sl Z (by first | omega | (simp; done) | (simp; omega)) ?_ | refine ResL.rp ?_ | refine ResL.clo ?_ ?_ | refine ResL.aggT ?_ ?_ | refine ResL.ref Z ?_ ?_ | refine ResL.nil' ?_ | refine ResL.nil 1 ?_)) (idxInts_fun l p f caps hcaps hl hf) Z ?_
 refine eK 2 Z (oN (tN (rT (eR ?_))))
 ·rw [← idxGo_any (Int.le_refl 0)]
theorem doMove1_fun (m mv : List Int) (h1 : m.length ≤ 1073741824) (h2 : mv.length ≤ 1073741824) : Fun Try.prog 72 [.t (T.ints m), .rp (.agg [T.ints mv]) 0] (tupD [.t (.bool (decide (m = mv)))]) := by
 refine Fun.begin tys Try.func72 Z Z (N := 7) [(0, .t (T.ints m)), (1, .rp (.agg [T.ints mv]) 0)] Z Z (fun w0 G F0 => ?_)
 refine sQ (rG (eZ Z (oN (tN (sQ (rG (eK 2 Z (callB ?_))))))))
 refine ⟨_, equalI_fun m mv h1 h2, rfl, ?_⟩
 refine eZ Z (oN (tN (rT (eR ?_))))
 ·rfl
theorem implDo_fun (w : World) (mv : List Int) (hw : w.ok 1048576) (hw' : w.ok 9223372036854775807) (hmv : mv.length ≤ 1073741824) : Fun Try.prog 35 [.t w.tt, .t (T.ints mv)] (tupD [.agg [.own (T.ints (dmR w mv).room), .own (intss (dmR w mv).held), .own (T.bools (dmR w mv).shut), .own (T.Tasks (dmR w mv).tasks), .own (T.ints (dmR w mv).trace)], .t (.bool (dmOk w mv))]) := by
  have hw4 : w.tasks.length ≤ 1048576 := hw.2.2.2.1.1
  refine Fun.begin tys Try.func35 Z Z (N := 25) [(0, .t w.tt), (1, .t (T.ints mv))] Z Z (fun w0 G F0 => ?_)
  refine sQ (rG (WO_box Z Z (lt_of Z) Z Z (nZ Z (WO_box Z Z (lt_of Z) Z Z (nZ Z (WO_alloc tys Z Z (lt_of Z) Z Z Z (nZ Z (eZ Z (oN (tN (sQ (sQ (rG (eZ Z ?_))))))))))))))
  try refine WO_le (Le.freeze (u := 7) rfl) ?_
  refine nZ Z (callB ?_)
  refine ⟨_, isWorld_fun w hw hw', rfl, ?_⟩
  refine eK 2 Z ?_
  refine WO_guard Z Z Z Z (lt_of Z) (fun h1 => ?_) (fun h1 => ?_)
  rotate_left
  ·
    simp only [HS] at h1
    refine gM Z (kZ [2,3,4,5,10,12] Z (gM Z (gM Z (gM Z (eZ Z (oN (tN (W_condT Z (sQ (rG (WO_struct tys Z Z (lt_of Z) Z Z Z (by kernel_rfl) Z Z Z Z Z Z (sT Z (nZ Z (eZ Z (oN ?_)))))))))))))))
    refine tN ?_
    (first | (refine W_le (Le.nilBox (u := 4) (j := 0) 1 rfl rfl) ?_; refine W_norm rfl ?_; refine W_le (Le.nilBox (u := 4) (j := 1) 1 rfl rfl) ?_; refine W_norm rfl ?_; refine W_le (Le.nilBox (u := 4) (j := 2) 1 rfl rfl) ?_; refine W_norm rfl ?_; refine W_le (Le.nilBox (u := 4) (j := 3) 4 rfl rfl) ?_; refine W_norm rfl ?_; refine W_le (Le.nilBox (u := 4) (j := 4) 1 rfl rfl) ?_; refine W_norm rfl ?_) | skip)
    refine rT (tR (eR ?_))
    · first
      | exact dm_no (by unfold dmOk hasMv; first | (simp_all; done) | (rw [Bool.eq_false_iff]; intro g; simp only [Bool.and_eq_true] at g; simp_all; done) | grind)
  simp only [HS] at h1
  refine eZ Z ?_
  try refine WO_le (Le.freeze (u := 11) rfl) ?_
  refine nZ Z (gY Z ?_)
  have hg : goodWorld w = true := by simp_all
  have hlf := movesOf_four (good_of hg)
  refine callB ?_
  refine ⟨_, movesIn_fun w (good_of hg), rfl, ?_⟩
  refine WO_le (Le.adoptE (u := 12) 12 Z (by first | exact lenN | exact Z)) ?_
  refine nZ Z (kZ [2,3,4,5,10,12] Z (gY Z (eZ Z (gY Z (callB ?_)))))
  refine ⟨_, hasInts_fun (movesOf w) (fun m => decide (m = mv)) _ [.rp (.agg [T.ints mv]) 0] Z (by have := hlf.1; omega) (fun x hx => doMove1_fun x mv (by have := hlf.2 x hx; omega) hmv), rfl, ?_⟩
  refine gY Z (eK 2 Z (oN (tN ?_)))
  refine W_cond Z (fun h2 => ?_) (fun h2 => ?_)
  ·
    simp only [HS] at h2
    refine sQ (rG (WO_struct tys Z Z (lt_of Z) Z Z Z (by kernel_rfl) Z Z Z Z Z Z (sT Z (nZ Z (eZ Z (oN (tN ?_)))))))
    (first | (refine W_le (Le.nilBox (u := 4) (j := 0) 1 rfl rfl) ?_; refine W_norm rfl ?_; refine W_le (Le.nilBox (u := 4) (j := 1) 1 rfl rfl) ?_; refine W_norm rfl ?_; refine W_le (Le.nilBox (u := 4) (j := 2) 1 rfl rfl) ?_; refine W_norm rfl ?_; refine W_le (Le.nilBox (u := 4) (j := 3) 4 rfl rfl) ?_; refine W_norm rfl ?_; refine W_le (Le.nilBox (u := 4) (j := 4) 1 rfl rfl) ?_; refine W_norm rfl ?_) | skip)
    refine rT (tR (eR ?_))
    · first
      | exact dm_no (by unfold dmOk hasMv; first | (simp_all; done) | (rw [Bool.eq_false_iff]; intro g; simp only [Bool.and_eq_true] at g; simp_all; done) | grind)
  simp only [HS] at h2
  refine W_skip (tN (sQ (rG (eZ Z ?_))))
  try refine WO_le (Le.freeze (u := 18) rfl) ?_
  refine nZ Z (callB ?_)
  refine ⟨_, cloneWorld_fun w hw, rfl, ?_⟩
  refine WO_alloc tys Z Z (lt_of Z) Z Z Z (nZ Z (sT Z (nZ Z (oN (tN (sQ (sQ (kY [3,4,5,6] Z (rG (eZ Z ?_))))))))))
  have hhas : hasMv (movesOf w) mv = true := by unfold hasMv; simp_all
  have hm := hasMv_ok hhas
  have hgw := gw_iff.1 hg
  have htl := hgw.tasks
  refine WO_exposeBox (u := 6) (idp := 133) (j := 3) Z Z Z (fun v => ?_)
  refine nZ Z ?_
  refine WO_explode (id := 133) (j := 0) (id2 := 101) (n := 4) (u := v) (xs := w.tasks.map Task.tt) Z Z Z Z Z (fun e ad bt cap ws hu hb he hlc hcm hn => ?_)
  obtain rfl : e = false := by
   cases e with
   | false => rfl
   | true =>
    have := he rfl
    rw [List.map_eq_nil_iff] at this
    rw [this] at htl
    simp at htl
  obtain rfl : ad = some ⟨bt, 0, none⟩ := hb rfl
  subst hu
  refine nZ Z ?_
  refine WO_ofRaw (id := 101) Z (fun _ _ => own_tcs) (fun htc => ?_)
  obtain ⟨hdr, hh, rfl⟩ := htc
  refine WO_le (Le.eqK (id := 101) (k' := .raw bt (cap * 4) (tcsW (hdr.zip w.tasks)) (tcsT (hdr.zip w.tasks))) Z (by rw [← tcsT_zip hh])) ?_
  refine nZ Z ?_
  refine WO_pin (u := 6) (pid := 1006) Z Z (fun bw => ?_)
  refine nZ Z (WO_le (Le.roNil 99) ?_)
  have hlc' : w.tasks.length ≤ cap := by rw [List.length_map] at hlc; exact hlc
  rw [List.length_map]
  have hI := doI_eq (mv := mv) hgw
  have hrl : (doR w mv).tasks.length = w.tasks.length := doR_len w mv
  refine WO_le (Le.close (u := 6) 1006 Z Z Z) (nZ Z ?_)
  refine WO_callP (rid := 99) [6, 101] Z Z (lt_of Z) Z Z (by repeat (first | exact ResP.done | refine ResP.pin0 1006 Z ?_ | refine ResP.pin0 1101 Z ?_ | refine ResP.t ?_ | refine ResP.nil 1 ?_ | refine ResP.nil' ?_ | refine ResP.own ?_ | refine ResP.sl Z Z (by first | omega | (simp; omega)) ?_ | refine ResP.aggT (by repeat (first | exact ResP.done | refine ResP.t ?_)) ?_)) Z (by repeat (first | exact trivial | refine ⟨rfl, rfl, ?_⟩)) (by decide) (doI_fun bw bt cap w hdr mv hg hm hh hlc') Z Z Z ?_
  refine nZ Z (WO_le (Le.open (u := 6) 1006 Z Z Z Z) (nZ Z (nZ Z (WO_le (Le.eqK (id := 101) (k' := rb false bt (cap * 4) (tcsW (hdr.zip (doR w mv).tasks)) (((doR w mv).tasks.map Task.tt).flatMap T.cells)) Z (by rw [tcsT_zip (hh.trans hrl.symm)]; rfl)) ?_))))
  refine nZ Z (WO_le (Le.implode (id := 133) (id2 := 101) (j := 0) (n := 4) (e := false) (b := bt) (cap := cap) (ad := some ⟨bt, 0, none⟩) (len := w.tasks.length) (u := .slice (some ⟨bt, 0, none⟩) w.tasks.length cap) (ws := tcsW (hdr.zip (doR w mv).tasks)) (ys := (doR w mv).tasks.map Task.tt) Z Z Z Z Z Z (fun _ => rfl) (fun h => by cases h) (by rw [List.length_map, hrl]) hlc' hcm tasks_cells Z) ?_)
  refine nZ Z (WO_le (Le.claimBox (u := 6) (idp := 133) (j := 3) Z Z Z Z) (nZ Z (eZ Z (oN (tN ?_)))))
  refine W_cond Z (fun h3 => ?_) (fun h3 => ?_)
  ·
    simp only [HS] at h3
    refine sQ (rG (WO_struct tys Z Z (lt_of Z) Z Z Z (by kernel_rfl) Z Z Z Z Z Z (sT Z (nZ Z (eZ Z (oN (tN ?_)))))))
    (first | (refine W_le (Le.nilBox (u := 4) (j := 0) 1 rfl rfl) ?_; refine W_norm rfl ?_; refine W_le (Le.nilBox (u := 4) (j := 1) 1 rfl rfl) ?_; refine W_norm rfl ?_; refine W_le (Le.nilBox (u := 4) (j := 2) 1 rfl rfl) ?_; refine W_norm rfl ?_; refine W_le (Le.nilBox (u := 4) (j := 3) 4 rfl rfl) ?_; refine W_norm rfl ?_; refine W_le (Le.nilBox (u := 4) (j := 4) 1 rfl rfl) ?_; refine W_norm rfl ?_) | skip)
    refine rT (tR (eR ?_))
    · first
      | exact dm_no (by unfold dmOk; rw [hg, hhas, ← hI]; simp_all)
  simp only [HS] at h3
  refine W_skip (tN (sQ (rG (WO_loadMove tys Z Z (lt_of Z) Z Z Z Z Z Z (nZ Z (sT Z (nZ Z (eZ Z (oN (tN ?_))))))))))
  (first | (refine W_le (Le.nilBox (u := 4) (j := 0) 1 rfl rfl) ?_; refine W_norm rfl ?_; refine W_le (Le.nilBox (u := 4) (j := 1) 1 rfl rfl) ?_; refine W_norm rfl ?_; refine W_le (Le.nilBox (u := 4) (j := 2) 1 rfl rfl) ?_; refine W_norm rfl ?_; refine W_le (Le.nilBox (u := 4) (j := 3) 4 rfl rfl) ?_; refine W_norm rfl ?_; refine W_le (Le.nilBox (u := 4) (j := 4) 1 rfl rfl) ?_; refine W_norm rfl ?_) | skip)
  refine rT (eR ?_)
  · first
    | exact dm_yes hg hhas (by rw [← hI]; assumption)
open Go.Eng
inductive All2 {α β : Type} (p : α → β → Prop) : List α → List β → Prop
 | nil : All2 p [] []
 | cons {a b l m} : p a b → All2 p l m → All2 p (a :: l) (b :: m)
theorem All2.len {α β : Type} {p : α → β → Prop} {l : List α} {m : List β} (h : All2 p l m) : l.length = m.length := by
 induction h with
 | nil => rfl
 | cons _ _ ih => simp [ih]
theorem All2.at {α β : Type} {p : α → β → Prop} {l : List α} {m : List β} (h : All2 p l m) : ∀ {i : Nat} (h1 : i < l.length) (h2 : i < m.length), p l[i] m[i] := by
 induction h with
 | nil => intro i h1; simp at h1
 | cons h _ ih =>
  intro i h1 h2
  cases i with
  | zero => exact h
  | succ i => exact ih (by simpa using h1) (by simpa using h2)
theorem All2.left {α β : Type} {p : α → β → Prop} {l : List α} {m : List β} (h : All2 p l m) : ∀ {a}, a ∈ l → ∃ b, b ∈ m ∧ p a b := by
 induction h with
 | nil => intro a h; cases h
 | cons h _ ih =>
  intro a ha
  rcases List.mem_cons.1 ha with rfl | ha
  ·exact ⟨_, List.mem_cons_self .., h⟩
  ·obtain ⟨b, h1, h2⟩ := ih ha
   exact ⟨b, List.mem_cons_of_mem _ h1, h2⟩
def TCase (z : T) (b : Act) : Prop := b.cases = [] ∧ ∃ a c, z = .agg [T.int b.kind, T.int b.chan, T.int b.n, .v (.slice a 0 c)]
def TAct (y : T) (a : Act) : Prop := ∃ zs, y = .agg [T.int a.kind, T.int a.chan, T.int a.n, .list 4 zs] ∧ All2 TCase zs a.cases
def TActs (x : T) (l : List Act) : Prop := ∃ ys, x = .list 4 ys ∧ All2 TAct ys l
def ttT (p : T × Task) : T := .agg [p.1, T.int p.2.pos, T.int p.2.state, T.int p.2.last]
abbrev ttW (w : World) (xs : List T) : T := .agg [T.ints w.room, intss w.held, T.bools w.shut, .list 4 ((xs.zip w.tasks).map ttT), T.ints w.trace]
abbrev ddW (w : World) (xs : List T) : D := .agg [.own (T.ints w.room), .own (intss w.held), .own (T.bools w.shut), .own (.list 4 ((xs.zip w.tasks).map ttT)), .own (T.ints w.trace)]
theorem case_read {zs : List T} {l : List Act} (h : All2 TCase zs l) : ∀ x, x ∈ zs → (T.cells x).length = 4 ∧ ∀ y, y ∈ T.cells x → ∃ v, y = .v v := by
 intro x hx
 obtain ⟨b, _, _, a, c, rfl⟩ := h.left hx
 refine ⟨rfl, fun y hy => ?_⟩
 simp [T.cells] at hy
 rcases hy with rfl | rfl | rfl | rfl <;> exact ⟨_, rfl⟩
theorem l1OwnW_fun (l : List Int) (hl : l.length ≤ 1073741824) : Fun Try.prog 94 [.t (T.ints l)] (tupD [.own (T.ints l)]) := by
 refine Fun.begin tys Try.func94 Z Z (N := 6) [(0, .t (T.ints l))] Z Z (fun w0 G F0 => ?_)
 refine sQ (rG (eZ Z (oN (tN (sQ (rG ?_))))))
 refine WO_buildSlice tys [] Z Z (lt_of Z) Z Z Z Z Z (by decide) (by repeat (first | exact PartsOk.nil' | refine PartsOk.cons' rfl (by repeat (first | exact AbsL.nil' | refine AbsL.v' ?_ | refine AbsL.own' ?_ | refine AbsL.none' ?_)) Z ?_)) (by first | exact List.nodup_nil | exact nodup1 _ | decide | exact nodupB_sound Z) Z (by decide) ?_
 refine nZ Z (eZ Z (WO_append tys Z Z (lt_of Z) Z Z Z Z Z (.own Z (by first | omega | (simp only [List.length_append]; omega))) Z (.read (readIz l)) (by decide) (by simp; omega) (by decide) Z ?_))
 refine nZ Z (eZ Z (oN (tN (W_le (Le.gather (u := 2) (id := 3) Z Z (by simp)) ?_))))
 refine rT (eR ?_)
 ·(simp only [List.take_append, List.take_length, List.nil_append, List.length_nil, Nat.zero_add, List.take_nil, Nat.sub_zero]; rfl)
theorem ownAct_fun (k c n : Int) (zs : List T) (hl : zs.length ≤ 1048576) (hz : ∀ x, x ∈ zs → (T.cells x).length = 4 ∧ ∀ y, y ∈ T.cells x → ∃ v, y = .v v) : Fun Try.prog 95 [.t (.agg [T.int k, T.int c, T.int n, .list 4 zs])] (tupD [.agg [.t (T.int k), .t (T.int c), .t (T.int n), .own (.list 4 zs)]]) := by
 refine Fun.begin tys Try.func95 Z Z (N := 9) [(0, .t (.agg [T.int k, T.int c, T.int n, .list 4 zs]))] Z Z (fun w0 G F0 => ?_)
 refine sQ (rG (WO_box Z Z (lt_of Z) Z Z (nZ Z (WO_alloc tys Z Z (lt_of Z) Z Z Z (nZ Z (oN (tN (sQ (rG ?_)))))))))
 refine WO_buildSlice tys [] Z Z (lt_of Z) Z Z Z Z Z (by decide) (by repeat (first | exact PartsOk.nil' | refine PartsOk.cons' rfl (by repeat (first | exact AbsL.nil' | refine AbsL.v' ?_ | refine AbsL.own' ?_ | refine AbsL.none' ?_)) Z ?_)) (by first | exact List.nodup_nil | exact nodup1 _ | decide | exact nodupB_sound Z) Z (by decide) ?_
 refine nZ Z (eK 2 Z (WO_append tys Z Z (lt_of Z) Z Z Z Z Z (.own Z (by first | omega | (simp only [List.length_append]; omega))) Z (.read hz) (by decide) (by simp; omega) (by decide) Z ?_))
 refine nZ Z (WO_le (Le.gather (u := 6) (id := 3) Z Z (by first | (simp; done) | (simp; omega) | omega)) ?_)
 refine nZ Z (eZ Z (sT Z (nZ Z (oN (tN (sQ (kY [1,2] Z (rG (WO_loadMove tys Z Z (lt_of Z) Z Z Z Z Z Z (nZ Z (sT Z (nZ Z (oN (tN (rT ?_)))))))))))))))
 refine eR ?_
 ·simp only [List.take_append, List.take_length, List.nil_append, List.length_nil, Nat.zero_add, List.take_nil, Nat.sub_zero]
theorem ownW_fun (w : World) (xs : List T) (hw : w.ok 1048576) (hx : All2 TActs xs (w.tasks.map Task.acts)) : Fun Try.prog 54 [.t (ttW w xs)] (tupD [ddW w xs]) := by
 have hw1 : w.room.length ≤ 1048576 := hw.1
 have hw2 : w.held.length ≤ 1048576 := hw.2.1.1
 have hw3 : w.shut.length ≤ 1048576 := hw.2.2.1
 have hw4 : w.tasks.length ≤ 1048576 := hw.2.2.2.1.1
 have hw5 : w.trace.length ≤ 1048576 := hw.2.2.2.2.1
 have hxl : xs.length = w.tasks.length := by have := hx.len; rw [List.length_map] at this; exact this
 have hzz : (xs.zip w.tasks).length = w.tasks.length := by rw [List.length_zip]; omega
 have hzl : ((xs.zip w.tasks).map ttT).length = w.tasks.length := by rw [List.length_map, List.length_zip]; omega
 refine Fun.begin tys Try.func54 Z Z (N := 67) [(0, .t (ttW w xs))] Z Z (fun w0 G F0 => ?_)
 refine sQ (rG (WO_box Z Z (lt_of Z) Z Z (nZ Z (WO_alloc tys Z Z (lt_of Z) Z Z Z (nZ Z (oN (tN (sQ (W_regionGm 12 mixed Z (by kernel_rfl) (by kernel_rfl) (QG_ev tys Z Z (lt_of Z) Z (QG_ev tys Z Z (lt_of Z) Z (callBG ?_))))))))))))
 refine ⟨_, l1OwnW_fun w.room (by omega), rfl, ?_⟩
 refine QG_buildS tys [] Z Z (lt_of Z) Z Z Z Z Z (by decide) (by repeat (first | exact PartsOk.nil' | refine PartsOk.cons' rfl (by repeat (first | exact AbsL.nil' | refine AbsL.v' ?_ | refine AbsL.own' ?_ | refine AbsL.none' ?_)) Z ?_)) Z Z Z (by decide) ?_
 refine QG_norm Z (QG_ev tys Z Z (lt_of Z) Z (QG_ev tys Z Z (lt_of Z) Z (QG_append tys Z Z (lt_of Z) Z Z Z Z Z Z Z Z (fun _ => .read (readBz _)) (by simp; omega) (by decide) Z ?_)))
 refine QG_ev tys Z Z (lt_of Z) Z (QG_ev tys Z Z (lt_of Z) Z (callBG ?_))
 refine ⟨_, l1OwnW_fun w.trace (by omega), rfl, ?_⟩
 refine QG_norm Z (QG_struct tys Z Z (lt_of Z) Z Z Z (by kernel_rfl) Z Z Z Z Z Z (QG_alloc tys Z Z (lt_of Z) Z Z Z Z (QG_nil ?_)))
 refine ⟨by kernel_rfl, ?_⟩
 refine nZ Z (sT Z (nZ Z (oN (tN (sQ (sQ (rG (nZ Z (WO_le (Le.nilBox (u := 3) (j := 1) 1 Z Z) (nZ Z (WO_le (Le.adoptBox (u := 3) (j := 1) (id := 191) Z Z Z) (nZ Z (eK 2 Z (evE ?_))))))))))))))
 refine eZ Z (oN (tN (W_block ?_)))
 refine lK (α := Int × Nat × List T) [1, 2, 3, 23, 24] [1, 2] (fun x => [(25, .t (.int (x.1)))]) (fun x => [(3, .box [.own (T.ints w.room), .sl 191 0 (x.2.1), .own (T.bools w.shut), .nil, .own (T.ints w.trace)]), (191, .L 1 (x.2.2))]) (fun x => 0 ≤ (x.1) ∧ (x.1) ≤ w.held.length ∧ (x.2.1) = (x.2.2).length ∧ (x.2.2) = (w.held.take (x.1).toNat).map T.ints) (fun x => Int.toNat (w.held.length - (x.1))) (0, 0, []) ?_ (fun x hx => ?_)
 ·exact ⟨by omega, by omega, rfl, rfl⟩
 obtain ⟨k, m, hs⟩ := x
 obtain ⟨hk0, hk1, hm, hxs⟩ := hx
 dsimp only at hk0 hk1 hm hxs ⊢
 refine nY Z (sQ (rG (eZ Z (oN (tN (sQ ?_))))))
 refine W_cond Z (fun h1 => ?_) (fun h1 => ?_)
 ·
  simp only [HS] at h1
  refine W_skip (tN (sQ (W_block (sQ (rG (WO_idxT tys Z Z (lt_of Z) Z Z Z Z Z Z Z (by omega) _ (getT _ _ (by omega) (by omega)) (eK 2 Z (oN (tN (W_regionGm 5 mixed Z (by kernel_rfl) (by kernel_rfl) (QG_ev tys Z Z (lt_of Z) Z (QG_ev tys Z Z (lt_of Z) Z (QG_norm Z (QG_ev tys Z Z (lt_of Z) Z (callBG ?_)))))))))))))))
  refine ⟨_, l1OwnW_fun (w.held[k.toNat]'(by omega)) (by have : (w.held[k.toNat]'(by omega)).length ≤ 1048576 := hw.2.1.2 _ (List.getElem_mem _); omega), rfl, ?_⟩
  refine QG_buildS tys [T.ints (w.held[k.toNat]'(by omega))] Z Z (lt_of Z) Z Z Z Z Z (lt_of Z) (by repeat (first | exact PartsOk.nil' | refine PartsOk.cons' rfl (by repeat (first | exact AbsL.nil' | refine AbsL.v' ?_ | refine AbsL.own' ?_ | refine AbsL.none' ?_)) Z ?_)) Z Z Z (by decide) ?_
  refine QG_nil ?_
  refine ⟨by kernel_rfl, ?_⟩
  refine nZ Z (WO_le (Le.adoptE (u := 33) 33 Z Z) (nZ Z (WO_append tys Z Z (lt_of Z) Z Z Z Z Z (.own Z (by first | omega | (simp only [List.length_append]; omega))) Z (.own Z (by first | decide | omega)) (by decide) (by simp only [List.length_take, List.length_cons, List.length_nil]; rw [hxs, List.length_map, List.length_take]; omega) (by decide) Z ?_)))
  refine nZ Z (eZ Z (sT Z (nZ Z (oN (bN (tN (rG (evI ?_))))))))
  refine eZ Z (oN ?_)
  refine lQ (_, _, _) ?_ ?_
  ·dsimp only
   subst hm
   refine ⟨by omega, by omega, by simp, ?_⟩
   rw [List.take_length, hxs, take_at hk0 (by omega), List.map_append]
   rfl
  ·(show Int.toNat _ < Int.toNat _); omega
 simp only [HS] at h1
 refine W_exit (tE (loopQ_e (inBlk_y (tN (sQ (sQ (rG (nZ Z (WO_le (Le.gatherBox (u := 3) (j := 1) (id := 191) Z Z Z (by omega) Z) (nZ Z (WO_le (Le.nilBox (u := 3) (j := 3) 4 Z Z) (nZ Z (WO_le (Le.adoptBox (u := 3) (j := 3) (id := 192) Z Z Z) (nZ Z (eK 2 Z ?_)))))))))))))))
 refine evE ?_
 refine eZ Z (oN (tN (W_block ?_)))
 refine lK (α := Int × Nat × List T) [2, 3, 38, 39] [2] (fun x => [(40, .t (.int (x.1)))]) (fun x => [(3, .box [.own (T.ints w.room), .own (.list 1 (hs.take m)), .own (T.bools w.shut), .sl 192 0 (x.2.1), .own (T.ints w.trace)]), (192, .L 4 (x.2.2))]) (fun x => 0 ≤ (x.1) ∧ (x.1) ≤ w.tasks.length ∧ (x.2.1) = (x.2.2).length ∧ (x.2.2) = ((xs.zip w.tasks).map ttT).take (x.1).toNat) (fun x => Int.toNat (w.tasks.length - (x.1))) (0, 0, []) ?_ (fun x hx => ?_)
 ·exact ⟨by omega, by omega, rfl, rfl⟩
 obtain ⟨i, m2, ys⟩ := x
 obtain ⟨hi0, hi1, hm2, hys⟩ := hx
 dsimp only at hi0 hi1 hm2 hys ⊢
 refine nY Z (sQ (rG (eZ Z (oN (tN (sQ ?_))))))
 refine W_cond Z (fun h2 => ?_) (fun h2 => ?_)
 ·
  simp only [HS] at h2
  refine W_skip (tN (sQ (W_block (sQ ?_))))
  have hi2 : i < w.tasks.length := by rw [List.length_map, List.length_zip] at hzl; omega
  obtain ⟨t, ht⟩ : ∃ t, t = w.tasks[i.toNat]'(by omega) := ⟨_, rfl⟩
  have htm : t ∈ w.tasks := by rw [ht]; exact List.getElem_mem _
  have hto := hw.2.2.2.1.2 t htm
  have hta : t.acts.length ≤ 1048576 := hto.1.1
  have hxa := hx.at (i := i.toNat) (by omega) (by rw [List.length_map]; omega)
  rw [List.getElem_map, ← ht] at hxa
  obtain ⟨zs, hzs, hA⟩ := hxa
  have hzsl := hA.len
  have hget : (List.map ttT (xs.zip w.tasks))[i.toNat]? = some (.agg [.list 4 zs, T.int t.pos, T.int t.state, T.int t.last]) := by rw [List.getElem?_map, zip_some (by omega) (by omega), hzs, ← ht]; rfl
  refine rG (WO_idxT tys Z Z (lt_of Z) Z Z Z Z Z Z Z (by omega) _ hget (eZ Z ?_))
  try refine WO_le (Le.freeze (u := 43) rfl) ?_
  refine nZ Z (WO_alloc tys Z Z (lt_of Z) Z Z Z (nZ Z (sT Z (nZ Z (oN (tN (sQ (rG (eZ Z (WO_le (Le.nilOwn (u := 8) 4 Z) (nZ Z (WO_le (Le.adoptE (u := 8) 193 Z Z) (nZ Z (oN (tN ?_)))))))))))))))
  refine sQ (sQ (rG (eK 2 Z (evE ?_))))
  refine kZ [2,3,7,8,38,39,40,41,42,43,44,45,46] Z (eZ Z (oN (tN (W_block ?_))))
  refine lK (α := Int × Nat × List T) [2, 3, 7, 38, 39, 40, 45, 46] [2, 3, 7, 192] (fun x => [(47, .t (.int (x.1))), (8, .sl 193 0 (x.2.1))]) (fun x => [(193, .L 4 (x.2.2))]) (fun x => 0 ≤ (x.1) ∧ (x.1) ≤ zs.length ∧ (x.2.1) = (x.2.2).length ∧ (x.2.2) = zs.take (x.1).toNat) (fun x => Int.toNat (zs.length - (x.1))) (0, 0, []) ?_ (fun x hx => ?_)
  ·exact ⟨by omega, by omega, rfl, rfl⟩
  obtain ⟨k, m3, ms⟩ := x
  obtain ⟨hk0', hk1', hm3, hms⟩ := hx
  dsimp only at hk0' hk1' hm3 hms ⊢
  refine nY Z (sQ (rG (eZ Z (oN (tN (sQ ?_))))))
  refine W_cond Z (fun h3 => ?_) (fun h3 => ?_)
  ·
   simp only [HS] at h3
   refine W_skip (tN (sQ (W_block (sQ (rG ?_)))))
   have hkz : k.toNat < zs.length := by omega
   obtain ⟨cs, hcs, hcA⟩ := hA.at hkz (by omega)
   obtain ⟨a, ha⟩ : ∃ a, a = t.acts[k.toNat]'(by omega) := ⟨_, rfl⟩
   rw [← ha] at hcs hcA
   have hcl : cs.length ≤ 1048576 := by rw [hcA.len]; exact (hto.1.2 a (by rw [ha]; exact List.getElem_mem _)).cases'.1
   have hgetk : zs[k.toNat]? = some (.agg [T.int a.kind, T.int a.chan, T.int a.n, .list 4 cs]) := by rw [List.getElem?_eq_getElem hkz, hcs]
   refine WO_idxT tys Z Z (lt_of Z) Z Z Z Z Z Z Z (by omega) _ hgetk (eZ Z ?_)
   try refine WO_le (Le.freeze (u := 50) rfl) ?_
   refine nZ Z (WO_alloc tys Z Z (lt_of Z) Z Z Z (nZ Z (sT Z (nZ Z (oN (tN (rG (eK 2 Z ?_))))))))
   try refine WO_le (Le.freeze (u := 52) rfl) ?_
   refine nZ Z (callB ?_)
   refine ⟨_, ownAct_fun _ _ _ cs hcl (case_read hcA), rfl, ?_⟩
   refine WO_buildSlice tys [.agg [T.int a.kind, T.int a.chan, T.int a.n, .list 4 cs]] Z Z (lt_of Z) Z Z Z Z Z (lt_of Z) (by repeat (first | exact PartsOk.nil' | refine PartsOk.cons' rfl (by repeat (first | exact AbsL.nil' | refine AbsL.v' ?_ | refine AbsL.own' ?_ | refine AbsL.none' ?_)) Z ?_)) (by first | exact List.nodup_nil | exact nodup1 _ | decide | exact nodupB_sound Z) Z (by decide) ?_
   refine nZ Z (kZ [2,3,7,8,10,38,39,40,45,46,47,48,49,50,51,52,53,54] Z (WO_append tys Z Z (lt_of Z) Z Z Z Z Z (.own Z (by first | omega | (simp only [List.length_append]; omega))) Z (.own Z (by first | decide | omega)) (by decide) (by simp only [List.length_take, List.length_cons, List.length_nil]; rw [hms, List.length_take]; omega) (by decide) Z ?_))
   refine nZ Z (eZ Z (oN (bN (tN (rG (evI ?_))))))
   refine eZ Z (oN ?_)
   refine lQ (_, _, _) ?_ ?_
   ·dsimp only
    subst hm3
    refine ⟨by omega, by omega, by simp, ?_⟩
    rw [List.take_length, hms, take_at hk0' (by omega), hcs]
    rfl
   ·(show Int.toNat _ < Int.toNat _); omega
  simp only [HS] at h3
  refine W_exit (tE (loopQ_e (inBlk_y (tN (sQ (rG (eZ Z (WO_le (Le.gather (u := 57) (id := 193) Z Z (by first | (simp; done) | (simp; omega) | omega)) ?_))))))))
  refine nZ Z (eZ Z (sT Z (nZ Z (oN (tN (rG (eK 2 Z (WO_loadMove tys Z Z (lt_of Z) Z Z Z Z Z Z (nZ Z ?_)))))))))
  refine WO_buildSlice tys [.agg [.list 4 (ms.take m3), T.int t.pos, T.int t.state, T.int t.last]] Z Z (lt_of Z) Z Z Z Z Z (lt_of Z) (by repeat (first | exact PartsOk.nil' | refine PartsOk.cons' rfl (by repeat (first | exact AbsL.nil' | refine AbsL.v' ?_ | refine AbsL.own' ?_ | refine AbsL.none' ?_)) Z ?_)) (by first | exact List.nodup_nil | exact nodup1 _ | decide | exact nodupB_sound Z) Z (by decide) ?_
  refine nZ Z (WO_append tys Z Z (lt_of Z) Z Z Z Z Z (.own Z (by first | omega | (simp only [List.length_append]; omega))) Z (.own Z (by first | decide | omega)) (by decide) (by simp only [List.length_take, List.length_cons, List.length_nil]; rw [hys, List.length_take]; omega) (by decide) Z ?_)
  refine nZ Z (kZ [2,3,7,8,38,39,40,45,46,47,48,57,58,59,60,61,62,63] Z (eZ Z (sT Z (nZ Z (oN (bN (tN (rG (evI ?_)))))))))
  refine eZ Z (oN ?_)
  refine lQ (_, _, _) ?_ ?_
  ·dsimp only
   subst hm2
   refine ⟨by omega, by omega, by simp, ?_⟩
   have hmz : ms.take m3 = zs := by rw [hm3, List.take_length, hms, take_end (by omega)]
   rw [List.take_length, hys, take_at hi0 (by rw [hzl]; omega), (List.getElem?_eq_some_iff.1 hget).2, hmz]
   rfl
  ·(show Int.toNat _ < Int.toNat _); omega
 simp only [HS] at h2
 refine W_exit (tE (loopQ_e (inBlk_y (tN (sQ (rG (nZ Z (WO_le (Le.gatherBox (u := 3) (j := 3) (id := 192) Z Z Z (by omega) Z) (nZ Z (WO_loadMove tys Z Z (lt_of Z) Z Z Z Z Z Z (nZ Z (sT Z (nZ Z (oN (tN ?_)))))))))))))))
 refine rT (eR ?_)
 ·rw [hm2, List.take_length, hys, hm, List.take_length, hxs, take_end (l := w.held) (by omega), take_end (l := List.map ttT (xs.zip w.tasks)) (by omega)]
  all_goals rfl
open Go.Eng
abbrev TX := (Option Addr × Nat) × (T × Task)
def xcW (c : TX) : List Value := [.slice c.1.1 c.2.2.acts.length c.1.2, .int .i64 c.2.2.pos, .int .i64 c.2.2.state, .int .i64 c.2.2.last]
def xcT (c : TX) : List T := [c.2.1, T.int c.2.2.pos, T.int c.2.2.state, T.int c.2.2.last]
def xcsW (C : List TX) : List Value := C.flatMap xcW
def xcsT (C : List TX) : List T := C.flatMap xcT
section
variable {α β : Type} {f : β → List α} {C : List TX} {c c' : TX} {d d' : β} {i j : Nat} {y : α}
theorem ccs_at (hf : ∀ c, (f c).length = 4) : ∀ {C : List β} {i : Nat}, C[i]? = some d → j < 4 → (C.flatMap f)[i * 4 + j]? = (f d)[j]?
 | [], _, h, _ => by simp at h
 | e :: C, 0, h, hj => by
  simp at h; subst h
  rw [List.flatMap_cons, Nat.zero_mul, Nat.zero_add, List.getElem?_append_left (by rw [hf]; exact hj)]
 | e :: C, i + 1, h, hj => by
  rw [List.flatMap_cons, List.getElem?_append_right (by rw [hf]; omega), hf, show (i + 1) * 4 + j - 4 = i * 4 + j from by omega]
  exact ccs_at hf (by simpa using h) hj
theorem ccs_set (hf : ∀ c, (f c).length = 4) (hy : f d' = (f d).set j y) : ∀ {C : List β} {i : Nat}, C[i]? = some d → j < 4 → (C.flatMap f).set (i * 4 + j) y = (C.set i d').flatMap f
 | [], _, h, _ => by simp at h
 | e :: C, 0, h, hj => by
  simp at h; subst h
  rw [List.flatMap_cons, Nat.zero_mul, Nat.zero_add, List.set_append_left _ _ (by rw [hf]; exact hj), List.set_cons_zero, List.flatMap_cons, hy]
 | e :: C, i + 1, h, hj => by
  rw [List.flatMap_cons, List.set_append_right _ _ (by rw [hf]; omega), hf, show (i + 1) * 4 + j - 4 = i * 4 + j from by omega, ccs_set hf hy (by simpa using h) hj, List.set_cons_succ, List.flatMap_cons]
theorem ccs_cut (hf : ∀ c, (f c).length = 4) : ∀ {C : List β} {i : Nat}, C[i]? = some d → ((C.flatMap f).drop (i * 4)).take 4 = f d
 | [], _, h => by simp at h
 | e :: C, 0, h => by
  simp at h; subst h
  rw [List.flatMap_cons, Nat.zero_mul, List.drop_zero, List.take_append_of_le_length (by rw [hf]; exact Nat.le_refl _), List.take_of_length_le (by rw [hf]; exact Nat.le_refl _)]
 | e :: C, i + 1, h => by
  rw [List.flatMap_cons, show (i + 1) * 4 = (f e).length + i * 4 from by rw [hf]; omega, List.drop_append]
  rw [List.drop_eq_nil_of_le (by omega), List.nil_append, show (f e).length + i * 4 - (f e).length = i * 4 from by omega]
  exact ccs_cut hf (by simpa using h)
theorem xcW_at (hc : C[i]? = some c) (hj : j < 4) : (xcsW C)[i * 4 + j]? = (xcW c)[j]? := ccs_at (fun _ => rfl) hc hj
theorem xcT_at (hc : C[i]? = some c) (hj : j < 4) : (xcsT C)[i * 4 + j]? = (xcT c)[j]? := ccs_at (fun _ => rfl) hc hj
theorem xcs_to {b sz : Nat} {k : Nat} {u : Value} (hc : C[i]? = some c) (hj : k < 4) (h1 : xcW c' = (xcW c).set k u) (h2 : xcT c' = (xcT c).set k (T.v u)) :
  Blk.raw b sz ((xcsW C).set (i * 4 + k) u) ((xcsT C).set (i * 4 + k) (T.v u)) = .raw b sz (xcsW (C.set i c')) (xcsT (C.set i c')) := by
 unfold xcsW xcsT
 rw [ccs_set (fun _ => rfl) h1 hc hj, ccs_set (fun _ => rfl) h2 hc hj]
theorem xc_mid (hc : C[i]? = some c) : (C.set i c')[i]? = some c' := by
 rw [List.getElem?_set_self (List.getElem?_eq_some_iff.1 hc).1]
end
theorem xcsT_zip : ∀ {hdr : List (Option Addr × Nat)} {l : List (T × Task)}, hdr.length = l.length → (l.map ttT).flatMap T.cells = xcsT (hdr.zip l)
 | [], [], _ => rfl
 | [], _ :: _, h => by simp at h
 | _ :: _, [], h => by simp at h
 | a :: hdr, t :: l, h => by
  rw [List.map_cons, List.flatMap_cons, xcsT_zip (hdr := hdr) (by simpa using h)]
  rfl
theorem ttT_cells {l : List (T × Task)} : ∀ x, x ∈ l.map ttT → (T.cells x).length = 4 := by
 intro x hx
 obtain ⟨t, _, rfl⟩ := List.mem_map.1 hx
 rfl
theorem own_xcs {w : Go.World} : ∀ {l : List (T × Task)} {ws : List Value} {bs : List Nat}, (∀ p, p ∈ l → TActs p.1 p.2.acts) → OwnL w ws ((l.map ttT).flatMap T.cells) bs → ∃ hdr : List (Option Addr × Nat), hdr.length = l.length ∧ ws = xcsW (hdr.zip l)
 | [], ws, bs, _, h => by
  cases ws with
  | nil => exact ⟨[], rfl, rfl⟩
  | cons _ _ => cases h
 | (x, t) :: l, ws, bs, hp, h => by
  obtain ⟨ys, hx, hA⟩ := hp (x, t) (by simp)
  dsimp only at hx hA
  subst hx
  rw [List.map_cons, List.flatMap_cons] at h
  change OwnL w ws (T.list 4 ys :: T.int t.pos :: T.int t.state :: T.int t.last :: (l.map ttT).flatMap T.cells) bs at h
  match ws, h with
  | v0 :: ws, h =>
   obtain ⟨b1, b2, h1, h2, _⟩ := h.cons
   match ws, h2 with
   | v1 :: ws, h2 =>
    obtain ⟨b3, b4, h3, h4, _⟩ := h2.cons
    match ws, h4 with
    | v2 :: ws, h4 =>
     obtain ⟨b5, b6, h5, h6, _⟩ := h4.cons
     match ws, h6 with
     | v3 :: ws, h6 =>
      obtain ⟨b7, b8, h7, h8, _⟩ := h6.cons
      obtain ⟨hdr, g1, g2⟩ := own_xcs (fun p h => hp p (by simp [h])) h8
      have e0 : ∃ ad cap, v0 = .slice ad t.acts.length cap := by
       rw [← hA.len]
       cases h1 with
       | none _ => exact ⟨_, _, rfl⟩
       | list _ _ _ _ _ _ _ _ => exact ⟨_, _, rfl⟩
      obtain ⟨ad, cap, rfl⟩ := e0
      have e1 : v1 = .int .i64 t.pos := by cases h3; rfl
      have e2 : v2 = .int .i64 t.state := by cases h5; rfl
      have e3 : v3 = .int .i64 t.last := by cases h7; rfl
      subst e1 e2 e3 g2
      exact ⟨(ad, cap) :: hdr, by simp [g1], rfl⟩
theorem goX_fun (b sz i : Nat) (C : List TX) (h : Option Addr × Nat) (x : T) (t : Task) (hc : C[i]? = some (h, x, t)) (hp : 0 ≤ t.pos ∧ t.pos ≤ 1048576) (hl : t.acts.length ≤ 1048576) : Proc Try.prog 104 [.t (.v (.pointer (some ⟨b, i * 4, none⟩)))] ([]) ([]) [.raw b sz (xcsW C) (xcsT C)] (.tup []) [.raw b sz (xcsW (C.set i (h, x, advT t))) (xcsT (C.set i (h, x, advT t)))] := by
 refine Proc.intro tys Try.func104 Z Z (N := 22) [100] 99 ([(0, .t (.v (.pointer (some ⟨b, i * 4, none⟩))))]) ([(100, .raw b sz (xcsW C) (xcsT C)), (99, .ro [] [])]) Z Z Z Z (by decide) (by decide) Z (fun w0 G F0 => ?_)
 refine nY Z (sQ (rG (eZ Z (WO_nil' rfl Z (lt_of Z) Z Z Z (WO_fieldV tys Z Z (lt_of Z) Z Z Z Z Z (WO_loadU (id := 100) (u := .int .i64 t.pos) tys Z Z (lt_of Z) Z Z Z Z Z (xcT_at hc (by decide)) (xcW_at hc (by decide)) (evI ?_)))))))
 refine WO_nil' rfl Z (lt_of Z) Z Z Z (WO_fieldV tys Z Z (lt_of Z) Z Z Z Z Z (WO_storeV (id := 100) (u0 := .int .i64 t.pos) (u := .int .i64 (t.pos + 1)) tys Z Z Z Z Z Z Z (xcT_at hc (by decide)) Z Z Z (nZ Z (WO_le (Le.eqK (id := 100) Z (xcs_to (c' := (h, x, { t with pos := t.pos + 1 })) hc (by decide) Z Z)) ?_))))
 have hc1 : (C.set i (h, x, { t with pos := t.pos + 1 }))[i]? = some (h, x, { t with pos := t.pos + 1 }) := xc_mid hc
 refine nZ Z (oN (tN (sQ (kY [0] Z (W_regionD mixed (by kernel_rfl) (evQ ?_))))))
 refine QL_nil' rfl Z (lt_of Z) Z Z Z (QL_fieldV tys Z Z (lt_of Z) Z Z Z Z Z (QL_loadU (id := 100) (u := .int .i64 (t.pos + 1)) tys Z Z (lt_of Z) Z Z Z Z Z (xcT_at hc1 (by decide)) (xcW_at hc1 (by decide)) (evQ ?_)))
 refine QL_nil' rfl Z (lt_of Z) Z Z Z (QL_norm Z (QL_fieldV tys Z Z (lt_of Z) Z Z Z Z Z (QL_loadU (id := 100) (u := .slice h.1 t.acts.length h.2) tys Z Z (lt_of Z) Z Z Z Z Z (xcT_at hc1 (by decide)) (xcW_at hc1 (by decide)) (QL_lenV Z Z (lt_of Z) Z ⟨98, by kernel_rfl⟩ rfl (evQ ?_)))))
 refine QL_nil (tN ?_)
 refine W_cond Z (fun h1 => ?_) (fun h1 => ?_)
 ·
  simp only [HS] at h1
  refine rG (eZ Z (WO_nil' rfl Z (lt_of Z) Z Z Z (WO_fieldV tys Z Z (lt_of Z) Z Z Z Z Z (WO_storeV (id := 100) (u0 := .int .i64 t.state) (u := .int .i64 1) tys Z Z Z Z Z Z Z (xcT_at hc1 (by decide)) Z Z Z (nZ Z (WO_le (Le.eqK (id := 100) Z (xcs_to (c' := (h, x, { t with pos := t.pos + 1, state := 1 })) hc1 (by decide) Z Z)) (nZ Z (oN ?_))))))))
  refine EndsP_of (ks := [_]) (.inl Z) (ret_okF Z) (by decide) Z (noR_spec Z) (by repeat (first | exact trivial | refine ⟨rfl, rfl, ?_⟩)) ?_ ?_
  ·rfl
  ·rw [List.set_set, advT, if_pos h1]
   done
 simp only [HS] at h1
 refine W_skip ?_
 refine EndsP_of (ks := [_]) (.inl Z) (ret_okF Z) (by decide) Z (noR_spec Z) (by repeat (first | exact trivial | refine ⟨rfl, rfl, ?_⟩)) ?_ ?_
 ·rfl
 ·rw [advT, if_neg h1]
  done
/-! What is told reads as what it is. -/
theorem relCase {w : Go.World} {F : Nat → Prop} : ∀ {zs : List T} {l : List Act}, All2 TCase zs l → ∀ {vs}, RelL w F vs (zs.flatMap T.cells) → RelL w F vs ((l.map Act.toT).flatMap T.cells)
 | _, _, .nil, vs, h => h
 | _, _, .cons (a := z) (b := b) (l := zs) (m := l) h1 h2, vs, h => by
  obtain ⟨hb, a, c, rfl⟩ := h1
  rw [List.flatMap_cons] at h
  rw [List.map_cons, List.flatMap_cons, Act.toT_eq]
  change RelL w F vs (T.int b.kind :: T.int b.chan :: T.int b.n :: .v (.slice a 0 c) :: zs.flatMap T.cells) at h
  show RelL w F vs (T.int b.kind :: T.int b.chan :: T.int b.n :: .list 4 (b.cases.map Act.toT) :: (l.map Act.toT).flatMap T.cells)
  rw [hb]
  cases h with
  | v q1 h =>
   cases h with
   | v q2 h =>
    cases h with
    | v q3 h =>
     cases h with
     | v q4 h => exact .v q1 (.v q2 (.v q3 (.none (relCase h2 h))))
theorem relAct {w : Go.World} {F : Nat → Prop} : ∀ {zs : List T} {l : List Act}, All2 TAct zs l → ∀ {vs}, RelL w F vs (zs.flatMap T.cells) → RelL w F vs ((l.map Act.toT).flatMap T.cells)
 | _, _, .nil, vs, h => h
 | _, _, .cons (a := z) (b := b) (l := zs) (m := l) h1 h2, vs, h => by
  obtain ⟨cs, rfl, hcs⟩ := h1
  rw [List.flatMap_cons] at h
  rw [List.map_cons, List.flatMap_cons, Act.toT_eq]
  change RelL w F vs (T.int b.kind :: T.int b.chan :: T.int b.n :: .list 4 cs :: zs.flatMap T.cells) at h
  show RelL w F vs (T.int b.kind :: T.int b.chan :: T.int b.n :: .list 4 (b.cases.map Act.toT) :: (l.map Act.toT).flatMap T.cells)
  cases h with
  | v q1 h =>
   cases h with
   | v q2 h =>
    cases h with
    | v q3 h =>
     refine .v q1 (.v q2 (.v q3 ?_))
     have hl := hcs.len
     cases h with
     | none h =>
      have : b.cases = [] := List.eq_nil_of_length_eq_zero (by simpa using hl.symm)
      rw [this]; exact .none (relAct h2 h)
     | list p1 p2 p3 p4 p5 p6 h =>
      have e : cs.length = (b.cases.map Act.toT).length := by rw [List.length_map]; exact hl
      rw [e] at p5 ⊢
      exact .list p1 p2 p3 (cellsA b.cases) p5 (relCase hcs p6) (relAct h2 h)
theorem relActs {w : Go.World} {F : Nat → Prop} {x : T} {l : List Act} (hx : TActs x l) {v vs : _} {ts : List T} (h : RelL w F (v :: vs) (x :: ts)) : RelL w F (v :: vs) (T.Acts l :: ts) := by
 obtain ⟨ys, rfl, hA⟩ := hx
 have hl := hA.len
 cases h with
 | none h =>
  have : l = [] := List.eq_nil_of_length_eq_zero (by simpa using hl.symm)
  subst this; exact .none h
 | list p1 p2 p3 p4 p5 p6 h =>
  have e : ys.length = (l.map Act.toT).length := by rw [List.length_map]; exact hl
  rw [e] at p5 ⊢
  exact .list p1 p2 p3 (cellsA l) p5 (relAct hA p6) h
theorem relTask {w : Go.World} {F : Nat → Prop} {x : T} {t : Task} (hx : TActs x t.acts) {vs : List Value} (h : RelL w F vs [x, T.int t.pos, T.int t.state, T.int t.last]) : RelL w F vs (T.cells t.tt) := by
 cases vs with
 | nil => cases h
 | cons v vs => exact relActs hx h
open Go.Eng
section
variable {hdr : List (Option Addr × Nat)} {xs : List T} {W1 : World} {I : Int} {i : Nat} {h : Option Addr × Nat} {x : T} {t1 t2 : Task}
theorem zipX (hc : (hdr.zip (xs.zip W1.tasks))[i]? = some (h, x, t1)) : (hdr.zip (xs.zip W1.tasks)).set i (h, x, t2) = hdr.zip (xs.zip (W1.tasks.set i t2)) := by
 rw [zip_set hc]
 have h2 : (xs.zip W1.tasks)[i]? = some (x, t1) := by
  have := (List.getElem?_zip_eq_some.1 hc).2
  exact this
 rw [zip_set h2]
theorem xadv_fin (hie : i = I.toNat) (hc : (hdr.zip (xs.zip W1.tasks))[i]? = some (h, x, t1)) (ht : tk W1 I = t1) : (hdr.zip (xs.zip W1.tasks)).set i (h, x, advT t1) = hdr.zip (xs.zip (advW W1 I).tasks) := by
 rw [zipX hc, hie, ← ht]; rfl
theorem xset_fin (hie : i = I.toNat) (hc : (hdr.zip (xs.zip W1.tasks))[i]? = some (h, x, t1)) : (hdr.zip (xs.zip W1.tasks)).set i (h, x, t2) = hdr.zip (xs.zip (setT W1 I t2).tasks) := by
 rw [zipX hc, hie]; rfl
theorem xtk0_fin (hie : i = I.toNat) (h0 : 0 ≤ I) (h1 : I < W1.tasks.length) (hc : (hdr.zip (xs.zip W1.tasks))[i]? = some (h, x, t1)) : ((hdr.zip (xs.zip W1.tasks)).set i (h, x, t2)).set i (h, x, advT t2) = hdr.zip (xs.zip (advW (setT W1 I t2) I).tasks) := by
 rw [List.set_set, zipX hc]
 have e1 : tk (setT W1 I t2) I = t2 := (tk_set h0 h1 h0).trans (if_pos rfl)
 show _ = hdr.zip (xs.zip ((W1.tasks.set I.toNat _).set I.toNat (advT (tk _ _))))
 rw [e1, List.set_set, hie]
theorem xtk2_fin {J n : Int} {j : Nat} {hj : Option Addr × Nat} {y : T} {u : Task} (hie : i = I.toNat) (hje : j = J.toNat) (h0 : 0 ≤ I) (h1 : I < W1.tasks.length) (j0 : 0 ≤ J) (j1 : J < W1.tasks.length) (hIJ : ¬ I = J) (hcj : (hdr.zip (xs.zip W1.tasks))[j]? = some (hj, y, u)) (hc : (hdr.zip (xs.zip W1.tasks))[i]? = some (h, x, t1)) (htI : tk W1 I = t1) :
  (((hdr.zip (xs.zip W1.tasks)).set j (hj, y, { u with last := n })).set j (hj, y, advT { u with last := n })).set i (h, x, advT t1) = hdr.zip (xs.zip (advW (advW (setT W1 J { u with last := n }) J) I).tasks) := by
 have hij : ¬ j = i := by omega
 have l1 : ∀ (w : World) (i : Int) (t : Task), (setT w i t).tasks.length = w.tasks.length := fun w i t => List.length_set
 have e1 : tk (setT W1 J { u with last := n }) J = { u with last := n } := (tk_set j0 j1 j0).trans (if_pos rfl)
 have e2 : tk (advW (setT W1 J { u with last := n }) J) I = t1 := by
  rw [advW, tk_set j0 (by rw [l1]; exact j1) h0, if_neg hIJ, tk_set j0 j1 h0, if_neg hIJ]; exact htI
 have hc' : (hdr.zip (xs.zip (W1.tasks.set j (advT { u with last := n }))))[i]? = some (h, x, t1) := by
  rw [← zipX hcj, List.getElem?_set_ne hij]; exact hc
 rw [List.set_set, zipX hcj, zipX (W1 := { W1 with tasks := W1.tasks.set j (advT { u with last := n }) }) hc']
 show _ = hdr.zip (xs.zip ((((W1.tasks.set J.toNat _).set J.toNat (advT (tk (setT W1 J { u with last := n }) J)))).set I.toNat (advT (tk (advW (setT W1 J { u with last := n }) J) I))))
 rw [e1, e2, List.set_set, hie, hje]
end
abbrev rdW (w : World) (xs : List T) : D := .agg [.t (T.ints w.room), .t (intss w.held), .t (T.bools w.shut), .t (.list 4 ((xs.zip w.tasks).map ttT)), .t (T.ints w.trace)]
theorem do_fin {w : World} {xs : List T} {R H S Tr : List T} {b c : Bool} (h1 : R = w.room.map T.int) (h2 : H = w.held.map T.ints) (h3 : S = w.shut.map T.bool) (h4 : Tr = w.trace.map T.int) (h5 : b = c) :
  [D.agg [.t (.list 1 R), .t (.list 1 H), .t (.list 1 S), .t (.list 4 ((xs.zip w.tasks).map ttT)), .t (.list 1 Tr)], D.t (T.v (.bool b))] = [rdW w xs, D.t (T.bool c)] := by
 rw [h1, h2, h3, h4, h5]; rfl
theorem xcs_rb {b sz : Nat} {C : List TX} {hdr : List (Option Addr × Nat)} {l : List (T × Task)} (hl : hdr.length = l.length) (h : C = hdr.zip l) : Blk.raw b sz (xcsW C) (xcsT C) = rb false b sz (xcsW (hdr.zip l)) ((l.map ttT).flatMap T.cells) := by
 rw [h, xcsT_zip hl]; rfl
theorem doW_eq (w : World) (mv : List Int) : doW w mv = if (actOf w mv).kind = 3 then advW { w with trace := w.trace ++ [(tk w (at0 0 mv 0)).last] } (at0 0 mv 0)
 else if ((actOf w mv).kind = 5 ∨ (actOf w mv).kind = 1) ∧ at0 false w.shut (actOf w mv).chan = true then setT w (at0 0 mv 0) { tk w (at0 0 mv 0) with state := 2 }
 else if (actOf w mv).kind = 5 then advW { w with shut := w.shut.set (actOf w mv).chan.toNat true } (at0 0 mv 0)
 else if (actOf w mv).kind = 1 ∧ 0 ≤ at0 0 mv 2 then advW (advW (setT w (at0 0 mv 2) { tk w (at0 0 mv 2) with last := (actOf w mv).n }) (at0 0 mv 2)) (at0 0 mv 0)
 else if (actOf w mv).kind = 1 then advW { w with held := w.held.set (actOf w mv).chan.toNat (at0 [] w.held (actOf w mv).chan ++ [(actOf w mv).n]) } (at0 0 mv 0)
 else if 0 < (at0 [] w.held (actOf w mv).chan).length then
  advW { setT w (at0 0 mv 0) { tk w (at0 0 mv 0) with last := at0 0 (at0 [] w.held (actOf w mv).chan) 0 } with held := w.held.set (actOf w mv).chan.toNat ((at0 [] w.held (actOf w mv).chan).drop 1) } (at0 0 mv 0)
 else advW (setT w (at0 0 mv 0) { tk w (at0 0 mv 0) with last := 0 }) (at0 0 mv 0) := rfl
theorem tacts_zip {xs : List T} {l : List Task} (h : All2 TActs xs (l.map Task.acts)) {p : T × Task} (hp : p ∈ xs.zip l) : TActs p.1 p.2.acts := by
 obtain ⟨i, hi, rfl⟩ := List.getElem_of_mem hp
 rw [List.length_zip] at hi
 have h1 := h.at (i := i) (by omega) (by rw [List.length_map]; omega)
 rw [List.getElem_map] at h1
 rw [List.getElem_zip]
 exact h1
theorem l15Do_fun (w : World) (xs : List T) (mv : List Int) (hg : goodWorld w = true) (hm : MvOk w mv) (hw : w.ok 1048576) (hx : All2 TActs xs (w.tasks.map Task.acts)) : Fun Try.prog 65 [.t (ttW w xs), .t (T.ints mv)] (tupD [rdW (doW w mv) xs, .t (.bool (doOk w mv))]) := by
  have hgo := good_of hg
  have hgw := gw_iff.1 hg
  have hi0 := hm.i0
  have hi1 := hm.i1
  have hml := hm.len
  have hmi : mv[(0 : Int).toNat]'(by rw [hml]; decide) = at0 0 mv 0 := (at0_of (l := mv) (by omega) (by omega)).symm
  have hmk : mv[(1 : Int).toNat]'(by rw [hml]; decide) = at0 0 mv 1 := (at0_of (l := mv) (by omega) (by omega)).symm
  have hmj : mv[(2 : Int).toNat]'(by rw [hml]; decide) = at0 0 mv 2 := (at0_of (l := mv) (by omega) (by omega)).symm
  have hk0 := hm.k0
  have hxl : xs.length = w.tasks.length := by have := hx.len; rw [List.length_map] at this; exact this
  have hzz : (xs.zip w.tasks).length = w.tasks.length := by rw [List.length_zip]; omega
  obtain ⟨i, hie⟩ : ∃ i, i = (at0 0 mv 0).toNat := ⟨_, rfl⟩
  have hit : i < w.tasks.length := by omega
  obtain ⟨t, ht⟩ : ∃ t, t = w.tasks[i]'hit := ⟨_, rfl⟩
  have htI : tk w (at0 0 mv 0) = t := by rw [tk, at0_of hi0 hi1, ht]; simp only [hie]
  have htm : t ∈ w.tasks := by rw [ht]; exact List.getElem_mem _
  have hk1 : at0 0 mv 1 < (ways t).length := by have := hm.k1; rw [htI] at this; exact this
  obtain ⟨A, hA⟩ : ∃ A, A = (ways t)[(at0 0 mv 1).toNat]'(by omega) := ⟨_, rfl⟩
  have hAo : actOf w mv = A := by rw [actOf, htI, at0_of hk0 hk1, hA]
  have hAw : A ∈ ways t := by rw [hA]; exact List.getElem_mem _
  obtain ⟨hAk, ⟨hAc0, hAc1⟩, hAn, hts, htp⟩ := goodAct_ways hg htm hAw
  have hpp := hgo.pos _ htm
  have htr := hgw.trace
  have hheld := hgw.held
  have hshut := hgw.shut
  have hrm := hgw.room
  have htl := hgw.tasks
  have hta : t.acts.length ≤ 6 := hpp.2.2
  have hwl := (hgo.ways t htm).1
  have hsc : at0 false w.shut A.chan = w.shut[A.chan.toNat]'(by omega) := at0_of hAc0 (by omega)
  have hhc : at0 [] w.held A.chan = w.held[A.chan.toNat]'(by omega) := at0_of hAc0 (by omega)
  obtain ⟨hl, hle⟩ : ∃ hl, hl = w.held[A.chan.toNat]'(by omega) := ⟨_, rfl⟩
  have hz : (w.held.map T.ints)[A.chan.toNat]? = some (T.ints hl) := by rw [hle, List.getElem?_map, List.getElem?_eq_getElem (by omega)]; rfl
  have hlx : hl.length ≤ 3 := by
   have e1 := gw_hold hgw hAc0 hAc1
   rw [hhc, ← hle] at e1
   have e2 := hgw.rooms
   rw [allIn, List.all_eq_true] at e2
   have e3 := e2 _ (List.getElem_mem (l := w.room) (n := A.chan.toNat) (by omega))
   rw [at0_of hAc0 hAc1] at e1
   simp only [decide_eq_true_eq] at e3
   omega
  have hset : (w.held.map T.ints).set A.chan.toNat (T.ints hl) = w.held.map T.ints := set_same hz
  have hdW := doW_eq w mv
  rw [hAo, hsc, hhc, ← hle, htI] at hdW
  refine Fun.begin tys Try.func65 Z Z (N := 143) [(0, .t (ttW w xs)), (1, .t (T.ints mv))] Z Z (fun w0 G F0 => ?_)
  refine sQ (rG (WO_box Z Z (lt_of Z) Z Z (nZ Z (WO_alloc tys Z Z (lt_of Z) Z Z Z (nZ Z (eZ Z (oN (tN (sQ (rG (eZ Z ?_)))))))))))
  try refine WO_le (Le.freeze (u := 11) rfl) ?_
  refine nZ Z (callB ?_)
  refine ⟨_, ownW_fun w xs hw hx, rfl, ?_⟩
  refine WO_alloc tys Z Z (lt_of Z) Z Z Z (nZ Z (sT Z (nZ Z (oN (tN (sQ (W_le (Le.adoptBox (u := 6) (j := 1) (id := 104) Z Z Z) (nY Z (W_le (Le.adoptBox (u := 6) (j := 2) (id := 105) Z Z Z) (nY Z (W_le (Le.adoptBox (u := 6) (j := 4) (id := 106) Z Z Z) (nY Z (W_WO ?_)))))))))))))
  refine WO_exposeBox (u := 6) (idp := 133) (j := 3) Z Z Z (fun v => ?_)
  refine nZ Z ?_
  refine WO_explode (id := 133) (j := 0) (id2 := 101) (n := 4) (u := v) (xs := (xs.zip w.tasks).map ttT) Z Z Z Z Z (fun e ad bt cap ws hu hb he hlc hcm hn => ?_)
  obtain rfl : e = false := by
   cases e with
   | false => rfl
   | true =>
    have := congrArg List.length (he rfl)
    rw [List.length_map, hzz, List.length_nil] at this
    omega
  obtain rfl : ad = some ⟨bt, 0, none⟩ := hb rfl
  subst hu
  refine nZ Z ?_
  refine WO_ofRaw (id := 101) Z (fun _ _ => own_xcs (fun p hp => tacts_zip hx hp)) (fun htc => ?_)
  obtain ⟨hdr, hh, rfl⟩ := htc
  rw [hzz] at hh
  refine WO_le (Le.eqK (id := 101) (k' := .raw bt (cap * 4) (xcsW (hdr.zip (xs.zip w.tasks))) (xcsT (hdr.zip (xs.zip w.tasks)))) Z (by rw [← xcsT_zip (hh.trans hzz.symm)])) ?_
  refine nZ Z ?_
  have hlc' : w.tasks.length ≤ cap := by rw [List.length_map, hzz] at hlc; exact hlc
  rw [List.length_map, hzz]
  refine oN ?_
  obtain ⟨h, hh1⟩ : ∃ h, h = hdr[i]'(by omega) := ⟨_, rfl⟩
  obtain ⟨x, hx1⟩ : ∃ x, x = xs[i]'(by omega) := ⟨_, rfl⟩
  have hxa : TActs x t.acts := by
   have := hx.at (i := i) (by omega) (by rw [List.length_map]; omega)
   rw [List.getElem_map, ← ht, ← hx1] at this
   exact this
  have hc : (hdr.zip (xs.zip w.tasks))[i]? = some (h, x, t) := by rw [hh1, hx1, ht, zip_some (by omega) (by omega)]; simp
  refine kY [1,4,5,6] Z (W_regionD mixed (by kernel_rfl) (evQ ?_))
  refine evQ ?_
  refine evQ ?_
  refine QL_idxT tys Z Z (lt_of Z) Z Z Z Z Z Z Z (by omega) _ (getT _ _ (by omega) (by omega)) (evQ ?_)
  rw [hmi]
  refine QL_idxV tys Z Z (lt_of Z) Z Z Z Z Z Z (by omega) (by omega) (QL_norm Z (evQ ?_))
  refine QL_nil (tN (sQ ?_))
  rw [← hie]
  refine nY Z (W_of_WR mixed ?_)
  refine WR_view 8 [.t (T.int A.kind), .t (T.int A.chan), .t (T.int A.n), .top] [19, 20, 21, 22, 23, 24, 25, 26, 27, 8] [(7, .rp t.tt 0), (1, .t (T.ints mv))] (by kernel_rfl) ⟨ViewL.rawP (id := 101) (n := 4) t.tt Z (fun hr => relTask hxa (by rw [xcsT, ccs_cut (fun _ => rfl) hc] at hr; exact hr)), ViewL.of (.t .done), trivial⟩ rfl Z (fun w1 => ?_) ?_
  ·
    refine WR_Gm 10 Z (by kernel_rfl) (by kernel_rfl) (QG_ev tys Z Z (lt_of Z) Z (QG_nil' rfl Z (lt_of Z) Z Z Z (QG_ev tys Z Z (lt_of Z) Z (QG_callF Z Z (lt_of Z) Z Z Z Z Z (l15Ways_fun t hpp.1 hpp.2.1) Z (QG_ev tys Z Z (lt_of Z) Z (QG_norm Z (QG_idxT tys Z Z (lt_of Z) Z Z Z Z Z Z Z (by omega) _ (getT _ _ (by omega) (by omega)) (QG_ev tys Z Z (lt_of Z) Z ?_))))))))
    rw [hmk]
    refine QG_idxT tys Z Z (lt_of Z) Z Z Z Z Z Z Z (by omega) _ (getAct _ (by omega) (by omega)) ?_
    rw [← hA]
    refine QG_ev tys Z Z (lt_of Z) Z (QG_alloc tys Z Z (lt_of Z) Z Z Z Z (QG_nil ?_))
    refine ⟨by kernel_rfl, ?_⟩
    refine nZ Z (sT Z (nZ Z (oN ?_)))
    exact ⟨rfl, rfl, _, rfl, rfl⟩
  refine tN (sQ (nY Z ?_))
  refine W_takeL (id := 104) (i := A.chan.toNat) (off := 0) 107 Z hz Z Z Z (fun ad9 cp9 => ?_)
  refine nY Z (rG (eK 4 Z (WO_idxS tys Z Z (lt_of Z) Z Z Z Z Z Z Z Z hAc0 (by first | (rw [List.length_map]; omega) | (rw [List.length_set, List.length_map]; omega)) ?_)))
  refine WO_loadL tys Z Z (lt_of Z) Z Z Z Z (by rw [Nat.zero_add]; exact List.getElem?_set_self (by rw [List.length_map]; omega)) Z ?_
  refine eZ Z (oN (tN (sQ (W_block (sQ (kY [1,4,5,6,7,8,9] Z (rG (eK 4 Z (oN (tN ?_))))))))))
  refine W_cond Z (fun h1 => ?_) (fun h1 => ?_)
  ·
    simp only [HS] at h1
    refine nY Z (W_le (Le.gatherBox (u := 6) (j := 4) (id := 106) Z Z Z (Nat.le_refl _) Z) (nY Z ?_))
    rw [if_pos (by assumption)] at hdW
    have hC1 := hc
    have hp1 : 0 ≤ t.pos ∧ t.pos ≤ 1048576 := by omega
    have hl1 : t.acts.length ≤ 1048576 := by omega
    have hfin : (hdr.zip (xs.zip w.tasks)).set i (h, x, advT t) = hdr.zip (xs.zip (doW w mv).tasks) := by rw [hdW]; exact xadv_fin (W1 := { w with trace := w.trace ++ [t.last] }) hie hc htI
    refine W_regionH [[], [], [6], [6], [6], [6], [6], [], [], []] mixed (by kernel_rfl) (QH_G0 (QG_ev tys Z Z (lt_of Z) Z (QG_nil (QH_loadOwn tys Z Z (lt_of Z) Z Z Z Z Z Z (QH_G (QG_ev tys Z Z (lt_of Z) Z (QG_nil (QH_G (QG_nil' rfl Z (lt_of Z) Z Z Z (QG_nil (QH_norm Z (QH_G (QG_fieldV tys Z Z (lt_of Z) Z Z Z Z Z (QG_nil (QH_G ?_)))))))))))))))
    refine QG_loadU (id := 101) (u := .int .i64 t.last) tys Z Z (lt_of Z) Z Z Z Z Z (xcT_at hc (by decide)) (xcW_at hc (by decide)) (QG_nil (QH_G ?_))
    refine QG_buildS tys [T.int t.last] Z Z (lt_of Z) Z Z Z Z Z (lt_of Z) (by repeat (first | exact PartsOk.nil' | refine PartsOk.cons' rfl (by repeat (first | exact AbsL.nil' | refine AbsL.v' ?_ | refine AbsL.own' ?_ | refine AbsL.none' ?_)) Z ?_)) Z Z Z (by decide) ?_
    refine QG_nil (QH_G0 (QG_appendO tys Z Z (lt_of Z) Z Z Z Z Z Z Z Z Z ((fun x hx => by rw [List.mem_singleton] at hx; subst hx; exact ⟨rfl, fun z hz => ⟨_, by simpa [T.cells] using hz⟩⟩)) (by simp; omega) (by decide) Z ?_))
    refine QG_nil (QH_norm Z (QH_G0 (QG_ev tys Z Z (lt_of Z) Z (QG_nil (QH_storeM tys Z Z Z Z Z Z Z Z Z (Nat.le_of_ble_eq_true Z) (QH_nil ?_))))))
    refine ⟨by kernel_rfl, ?_⟩
    refine nZ Z (oN (bN (tN (sQ (W_le (Le.roNil 99) (nY Z (rG (eZ Z ?_))))))))
    refine WO_callP (rid := 99) [101] Z Z (lt_of Z) Z Z (by repeat (first | exact ResP.done | refine ResP.pin0 1101 Z ?_ | refine ResP.t ?_ | refine ResP.nil 1 ?_ | refine ResP.nil' ?_ | refine ResP.own ?_ | refine ResP.sl Z Z (by first | omega | (simp; omega)) ?_ | refine ResP.aggT (by repeat (first | exact ResP.done | refine ResP.t ?_)) ?_)) Z (by repeat (first | exact trivial | refine ⟨rfl, rfl, ?_⟩)) (by decide) (goX_fun bt (cap * 4) i _ h x _ hC1 hp1 hl1) Z Z Z ?_
    refine nZ Z (oN (tN (sQ (nY Z ?_))))
    (refine W_le (Le.putBack (id := 104) (idq := 107) (i := A.chan.toNat) (off := 0) (T.ints hl) rfl rfl (List.getElem?_set_self (by rw [List.length_map]; omega)) rfl rfl rfl) ?_; refine W_norm rfl ?_)
    (refine W_le (Le.gatherBox (u := 6) (j := 1) (id := 104) rfl rfl rfl (by first | exact Nat.le_refl _ | simp) rfl) ?_; refine W_norm rfl ?_)
    (refine W_le (Le.gatherBox (u := 6) (j := 2) (id := 105) rfl rfl rfl (by first | exact Nat.le_refl _ | simp) rfl) ?_; refine W_norm rfl ?_)
    skip
    refine W_le (Le.eqK (id := 101) (k' := rb false bt (cap * 4) (xcsW (hdr.zip (xs.zip (doW w mv).tasks))) (((xs.zip (doW w mv).tasks).map ttT).flatMap T.cells)) Z (xcs_rb (by rw [List.length_zip, doW_len]; omega) hfin)) ?_
    refine nY Z (W_le (Le.implode (id := 133) (id2 := 101) (j := 0) (n := 4) (e := false) (b := bt) (cap := cap) (ad := some ⟨bt, 0, none⟩) (len := w.tasks.length) (u := .slice (some ⟨bt, 0, none⟩) w.tasks.length cap) (ws := xcsW (hdr.zip (xs.zip (doW w mv).tasks))) (ys := (xs.zip (doW w mv).tasks).map ttT) Z Z Z Z Z Z (fun _ => rfl) (fun h => by cases h) (by rw [List.length_map, List.length_zip, doW_len]; omega) hlc' hcm ttT_cells Z) ?_)
    refine nY Z (W_le (Le.claimBox (u := 6) (idp := 133) (j := 3) Z Z Z Z) (nY Z (W_le (Le.freezeB (u := 6) Z Z) (nY Z (W_regionH [[], [4], [4], [4], [4], [], []] mixed (by kernel_rfl) (QH_G0 (QG_evZ tys Z Z (lt_of Z) Z Z (QG_nil (QH_G (QG_ev tys Z Z (lt_of Z) Z (QG_nil (QH_G (QG_ev tys Z Z (lt_of Z) Z (QG_nil (QH_G ?_)))))))))))))))
    refine QG_evE tys Z Z (lt_of Z) Z (by first | exact lenM | exact Z) ?_
    refine QG_nil (QH_norm Z (QH_G (QG_ev tys Z Z (lt_of Z) Z (QG_nil (QH_store tys 10005 Z Z Z Z Z Z Z Z Z (Nat.le_of_ble_eq_true Z) (QH_G0 (QG_ev tys Z Z (lt_of Z) Z (QG_nil (QH_nil ?_)))))))))
    refine ⟨by kernel_rfl, ?_⟩
    refine nZ Z (oN (tN (rT (eR ?_))))
    · refine do_fin ?_ ?_ ?_ ?_ ?_
      all_goals try unfold doOk
      all_goals rw [hdW]
      all_goals first | rfl | (simp [advW, setT, List.set_set, hset, List.map_set, List.take_of_length_le]; done) | (simp [advW, setT]; omega) | (simp [advW, setT]; exact decide_eq_true (by omega)) | (simp [advW, setT]; exact decide_eq_decide.2 (by omega))
  simp only [HS] at h1
  refine sQ ?_
  refine W_joinN (α := Bool) [1, 4, 5, 6, 7, 8, 9] [4, 6, 8, 101, 104, 105, 106, 107, 133] (fun x => [(50, .t (.bool x))]) (fun x => []) (fun x => x = decide ((A.kind = 5 ∨ A.kind = 1) ∧ w.shut[A.chan.toNat]'(by omega) = true)) ?_ (fun bb hx => ?_)
  ·
    refine rG (eK 4 Z ?_)
    refine WO_guard Z Z Z Z (lt_of Z) (fun h2 => ?_) (fun h2 => ?_)
    rotate_left
    ·
      simp only [HS] at h2
      refine gM Z (kZ [1,4,5,6,7,8,9,54,56] Z (gM Z (eK 2 Z (gY Z (eZ Z (gY Z (eZ Z (gY Z (eZ Z (gY Z (eZ Z (gY Z (WO_idxS tys Z Z (lt_of Z) Z Z Z Z Z Z Z Z hAc0 (by first | (rw [List.length_map]; omega) | (rw [List.length_set, List.length_map]; omega)) ?_)))))))))))))
      refine gY Z (WO_loadL tys Z Z (lt_of Z) Z Z Z Z (getT0 _ _ (by omega) (by omega)) Z (kZ [1,4,5,6,7,8,9,59,65] Z (eK 2 Z (oN ?_))))
      refine joinQ_n _ (by (try dsimp only); repeat (first | exact Sub.nil' | refine Sub.cons' rfl ?_)) (by (try dsimp only); repeat (first | exact SubM.nil' | refine SubM.cons' rfl ?_)) ?_
      exact (by simp_all)
    simp only [HS] at h2
    refine eZ Z (gY Z (eZ Z (kZ [1,4,5,6,7,8,9,54,56] Z (gY Z (eK 3 Z ?_)))))
    refine WO_guard Z Z Z Z (lt_of Z) (fun h3 => ?_) (fun h3 => ?_)
    rotate_left
    ·
      simp only [HS] at h3
      refine gM Z (gM Z (gM Z (gM Z (gM Z (eZ Z (kZ [1,4,5,6,7,8,9,66] Z (eZ Z (oN ?_))))))))
      refine joinQ_n _ (by (try dsimp only); repeat (first | exact Sub.nil' | refine Sub.cons' rfl ?_)) (by (try dsimp only); repeat (first | exact SubM.nil' | refine SubM.cons' rfl ?_)) ?_
      exact (by simp_all)
    simp only [HS] at h3
    refine eZ Z (gY Z (eZ Z (gY Z (eZ Z (gY Z (eZ Z (gY Z (WO_idxS tys Z Z (lt_of Z) Z Z Z Z Z Z Z Z hAc0 (by first | (rw [List.length_map]; omega) | (rw [List.length_set, List.length_map]; omega)) ?_))))))))
    refine gY Z (WO_loadL tys Z Z (lt_of Z) Z Z Z Z (getT0 _ _ (by omega) (by omega)) Z (kZ [1,4,5,6,7,8,9,59,65] Z (eK 2 Z (oN ?_))))
    refine joinQ_n _ (by (try dsimp only); repeat (first | exact Sub.nil' | refine Sub.cons' rfl ?_)) (by (try dsimp only); repeat (first | exact SubM.nil' | refine SubM.cons' rfl ?_)) ?_
    exact (by simp_all)
  have hbb := hx
  refine tN ?_
  refine W_cond Z (fun h2 => ?_) (fun h2 => ?_)
  ·
    refine sQ (nY Z ?_)
    have hcd := of_decide_eq_true (hbb.symm.trans (by assumption))
    rw [if_neg (by assumption), if_pos hcd] at hdW
    have hfin : (hdr.zip (xs.zip w.tasks)).set i (h, x, { t with state := 2 }) = hdr.zip (xs.zip (doW w mv).tasks) := by rw [hdW]; exact xset_fin (W1 := w) hie hc
    refine kY [4,5,6,7] Z (rG (eZ Z (WO_nil' rfl Z (lt_of Z) Z Z Z (WO_fieldV tys Z Z (lt_of Z) Z Z Z Z Z (WO_storeV (id := 101) (u0 := .int .i64 t.state) (u := .int .i64 2) tys Z Z Z Z Z Z Z (xcT_at hc (by decide)) Z Z Z (nZ Z (WO_le (Le.eqK (id := 101) Z (xcs_to (c' := (h, x, { t with state := 2 })) hc (by decide) Z Z)) (nZ Z (oN (tN (sQ (nY Z ?_))))))))))))
    (refine W_le (Le.putBack (id := 104) (idq := 107) (i := A.chan.toNat) (off := 0) (T.ints hl) rfl rfl (List.getElem?_set_self (by rw [List.length_map]; omega)) rfl rfl rfl) ?_; refine W_norm rfl ?_)
    (refine W_le (Le.gatherBox (u := 6) (j := 1) (id := 104) rfl rfl rfl (by first | exact Nat.le_refl _ | simp) rfl) ?_; refine W_norm rfl ?_)
    (refine W_le (Le.gatherBox (u := 6) (j := 2) (id := 105) rfl rfl rfl (by first | exact Nat.le_refl _ | simp) rfl) ?_; refine W_norm rfl ?_)
    (refine W_le (Le.gatherBox (u := 6) (j := 4) (id := 106) rfl rfl rfl (by first | exact Nat.le_refl _ | simp) rfl) ?_; refine W_norm rfl ?_)
    refine W_le (Le.eqK (id := 101) (k' := rb false bt (cap * 4) (xcsW (hdr.zip (xs.zip (doW w mv).tasks))) (((xs.zip (doW w mv).tasks).map ttT).flatMap T.cells)) Z (xcs_rb (by rw [List.length_zip, doW_len]; omega) hfin)) ?_
    refine nY Z (W_le (Le.implode (id := 133) (id2 := 101) (j := 0) (n := 4) (e := false) (b := bt) (cap := cap) (ad := some ⟨bt, 0, none⟩) (len := w.tasks.length) (u := .slice (some ⟨bt, 0, none⟩) w.tasks.length cap) (ws := xcsW (hdr.zip (xs.zip (doW w mv).tasks))) (ys := (xs.zip (doW w mv).tasks).map ttT) Z Z Z Z Z Z (fun _ => rfl) (fun h => by cases h) (by rw [List.length_map, List.length_zip, doW_len]; omega) hlc' hcm ttT_cells Z) ?_)
    refine nY Z (W_le (Le.claimBox (u := 6) (idp := 133) (j := 3) Z Z Z Z) (nY Z (W_le (Le.freezeB (u := 6) Z Z) (nY Z (rG (eZ Z ?_))))))
    try refine WO_le (Le.freeze (u := 70) rfl) ?_
    refine nZ Z (sT Z (nZ Z (eZ Z (oN (tN (rT (bR (tR (eR ?_)))))))))
    · refine do_fin ?_ ?_ ?_ ?_ ?_
      all_goals try unfold doOk
      all_goals rw [hdW]
      all_goals first | rfl | (simp [advW, setT, List.set_set, hset, List.map_set, List.take_of_length_le]; done) | (simp [advW, setT]; omega) | (simp [advW, setT]; exact decide_eq_true (by omega)) | (simp [advW, setT]; exact decide_eq_decide.2 (by omega))
  refine sQ (nY Z ?_)
  have hcd := of_decide_eq_false (hbb.symm.trans (by assumption))
  rw [if_neg (by assumption), if_neg hcd] at hdW
  refine kY [1,4,5,6,7,8,9] Z (rG (eK 4 Z (oN (tN ?_))))
  refine W_cond Z (fun h3 => ?_) (fun h3 => ?_)
  ·
    simp only [HS] at h3
    refine nY Z ?_
    rw [if_pos (by assumption)] at hdW
    have hC1 := hc
    have hp1 : 0 ≤ t.pos ∧ t.pos ≤ 1048576 := by omega
    have hl1 : t.acts.length ≤ 1048576 := by omega
    have hfin : (hdr.zip (xs.zip w.tasks)).set i (h, x, advT t) = hdr.zip (xs.zip (doW w mv).tasks) := by rw [hdW]; exact xadv_fin (W1 := { w with shut := w.shut.set A.chan.toNat true }) hie hc htI
    refine rG (eK 4 Z (WO_idxS tys Z Z (lt_of Z) Z Z Z Z Z Z Z Z hAc0 (by first | (rw [List.length_map]; omega) | (rw [List.length_set, List.length_map]; omega)) ?_))
    refine kZ [4,5,6,7,79] Z (WO_storeE tys (T.bool true) Z Z Z Z Z Z (Nat.zero_add _) (by rw [List.length_map]; omega) Z (AbsL.v' AbsL.nil') Z Z Z ?_)
    refine nZ Z (oN (bN (tN (sQ (W_le (Le.roNil 99) (nY Z (rG (eZ Z ?_))))))))
    refine WO_callP (rid := 99) [101] Z Z (lt_of Z) Z Z (by repeat (first | exact ResP.done | refine ResP.pin0 1101 Z ?_ | refine ResP.t ?_ | refine ResP.nil 1 ?_ | refine ResP.nil' ?_ | refine ResP.own ?_ | refine ResP.sl Z Z (by first | omega | (simp; omega)) ?_ | refine ResP.aggT (by repeat (first | exact ResP.done | refine ResP.t ?_)) ?_)) Z (by repeat (first | exact trivial | refine ⟨rfl, rfl, ?_⟩)) (by decide) (goX_fun bt (cap * 4) i _ h x _ hC1 hp1 hl1) Z Z Z ?_
    refine nZ Z (oN (tN (sQ (nY Z ?_))))
    (refine W_le (Le.putBack (id := 104) (idq := 107) (i := A.chan.toNat) (off := 0) (T.ints hl) rfl rfl (List.getElem?_set_self (by rw [List.length_map]; omega)) rfl rfl rfl) ?_; refine W_norm rfl ?_)
    (refine W_le (Le.gatherBox (u := 6) (j := 1) (id := 104) rfl rfl rfl (by first | exact Nat.le_refl _ | simp) rfl) ?_; refine W_norm rfl ?_)
    (refine W_le (Le.gatherBox (u := 6) (j := 2) (id := 105) rfl rfl rfl (by first | exact Nat.le_refl _ | simp) rfl) ?_; refine W_norm rfl ?_)
    (refine W_le (Le.gatherBox (u := 6) (j := 4) (id := 106) rfl rfl rfl (by first | exact Nat.le_refl _ | simp) rfl) ?_; refine W_norm rfl ?_)
    refine W_le (Le.eqK (id := 101) (k' := rb false bt (cap * 4) (xcsW (hdr.zip (xs.zip (doW w mv).tasks))) (((xs.zip (doW w mv).tasks).map ttT).flatMap T.cells)) Z (xcs_rb (by rw [List.length_zip, doW_len]; omega) hfin)) ?_
    refine nY Z (W_le (Le.implode (id := 133) (id2 := 101) (j := 0) (n := 4) (e := false) (b := bt) (cap := cap) (ad := some ⟨bt, 0, none⟩) (len := w.tasks.length) (u := .slice (some ⟨bt, 0, none⟩) w.tasks.length cap) (ws := xcsW (hdr.zip (xs.zip (doW w mv).tasks))) (ys := (xs.zip (doW w mv).tasks).map ttT) Z Z Z Z Z Z (fun _ => rfl) (fun h => by cases h) (by rw [List.length_map, List.length_zip, doW_len]; omega) hlc' hcm ttT_cells Z) ?_)
    refine nY Z (W_le (Le.claimBox (u := 6) (idp := 133) (j := 3) Z Z Z Z) (nY Z (W_le (Le.freezeB (u := 6) Z Z) (nY Z (W_regionH [[], [4], [4], [4], [4], [], []] mixed (by kernel_rfl) (QH_G0 (QG_evZ tys Z Z (lt_of Z) Z Z (QG_nil (QH_G (QG_ev tys Z Z (lt_of Z) Z (QG_nil (QH_G (QG_ev tys Z Z (lt_of Z) Z (QG_nil (QH_G ?_)))))))))))))))
    refine QG_evE tys Z Z (lt_of Z) Z (by first | exact lenM | exact Z) ?_
    refine QG_nil (QH_norm Z (QH_G (QG_ev tys Z Z (lt_of Z) Z (QG_nil (QH_store tys 10005 Z Z Z Z Z Z Z Z Z (Nat.le_of_ble_eq_true Z) (QH_G0 (QG_ev tys Z Z (lt_of Z) Z (QG_nil (QH_nil ?_)))))))))
    refine ⟨by kernel_rfl, ?_⟩
    refine nZ Z (oN (tN (rT (eR ?_))))
    · refine do_fin ?_ ?_ ?_ ?_ ?_
      all_goals try unfold doOk
      all_goals rw [hdW]
      all_goals first | rfl | (simp [advW, setT, List.set_set, hset, List.map_set, List.take_of_length_le]; done) | (simp [advW, setT]; omega) | (simp [advW, setT]; exact decide_eq_true (by omega)) | (simp [advW, setT]; exact decide_eq_decide.2 (by omega))
  simp only [HS] at h3
  refine sQ ?_
  refine W_joinN (α := Bool) [1, 4, 5, 6, 7, 8, 9] [4, 6, 8, 101, 104, 105, 106, 107, 133] (fun x => [(80, .t (.bool x))]) (fun x => []) (fun x => x = decide (A.kind = 1 ∧ 0 ≤ at0 0 mv 2)) ?_ (fun bb hx => ?_)
  ·
    refine rG (eK 4 Z ?_)
    refine WO_guard Z Z Z Z (lt_of Z) (fun h4 => ?_) (fun h4 => ?_)
    rotate_left
    ·
      simp only [HS] at h4
      refine gM Z (kZ [1,4,5,6,7,8,9,84,86] Z (gM Z (gM Z (eK 2 Z (oN ?_)))))
      refine joinQ_n _ (by (try dsimp only); repeat (first | exact Sub.nil' | refine Sub.cons' rfl ?_)) (by (try dsimp only); repeat (first | exact SubM.nil' | refine SubM.cons' rfl ?_)) ?_
      exact (by simp_all)
    simp only [HS] at h4
    refine eZ Z (gY Z (WO_idxT tys Z Z (lt_of Z) Z Z Z Z Z Z Z (by omega) _ (getT _ _ (by omega) (by omega)) (kZ [1,4,5,6,7,8,9,84,86] Z (gY Z (eZ Z (gY Z (eK 3 Z (oN ?_))))))))
    refine joinQ_n _ (by (try dsimp only); repeat (first | exact Sub.nil' | refine Sub.cons' rfl ?_)) (by (try dsimp only); repeat (first | exact SubM.nil' | refine SubM.cons' rfl ?_)) ?_
    exact (by simp_all)
  have hbb := hx
  refine tN ?_
  refine W_cond Z (fun h4 => ?_) (fun h4 => ?_)
  ·
    refine sQ (nY Z ?_)
    have hcd := of_decide_eq_true (hbb.symm.trans (by assumption))
    obtain ⟨hk1', hJ0⟩ := hcd
    obtain ⟨⟨_, hJ1⟩, hIJ, hJw⟩ := hm.j.resolve_left (by omega)
    obtain ⟨j, hje⟩ : ∃ j, j = (at0 0 mv 2).toNat := ⟨_, rfl⟩
    have hjt : j < w.tasks.length := by omega
    have hij : ¬ j = i := by omega
    obtain ⟨u, hu⟩ : ∃ u, u = w.tasks[j]'hjt := ⟨_, rfl⟩
    obtain ⟨hj, hhj⟩ : ∃ hj, hj = hdr[j]'(by omega) := ⟨_, rfl⟩
    obtain ⟨y, hy1⟩ : ∃ y, y = xs[j]'(by omega) := ⟨_, rfl⟩
    have hcj : (hdr.zip (xs.zip w.tasks))[j]? = some (hj, y, u) := by rw [hhj, hy1, hu, zip_some (by omega) (by omega)]; simp
    have hum : u ∈ w.tasks := by rw [hu]; exact List.getElem_mem _
    have huJ : tk w (at0 0 mv 2) = u := by rw [tk, at0_of hJ0 hJ1, hu]; simp only [hje]
    have hup := hgo.pos _ hum
    have hus : u.state = 0 := Classical.byContradiction fun hx => by rw [huJ] at hJw; unfold ways at hJw; rw [if_neg hx] at hJw; simp at hJw
    have hup1 := hup.2.1 hus
    rw [if_neg (by omega), if_pos ⟨hk1', hJ0⟩, huJ] at hdW
    have hC2 : ((hdr.zip (xs.zip w.tasks)).set j (hj, y, { u with last := A.n }))[j]? = some (hj, y, { u with last := A.n }) := xc_mid hcj
    have hp2 : 0 ≤ u.pos ∧ u.pos ≤ 1048576 := by omega
    have hl2 : u.acts.length ≤ 1048576 := by omega
    have hp1 : 0 ≤ t.pos ∧ t.pos ≤ 1048576 := by omega
    have hl1 : t.acts.length ≤ 1048576 := by omega
    have hC1 : (((hdr.zip (xs.zip w.tasks)).set j (hj, y, { u with last := A.n })).set j (hj, y, advT { u with last := A.n }))[i]? = some (h, x, t) := by rw [List.getElem?_set_ne hij, List.getElem?_set_ne hij]; exact hc
    have hfin : (((hdr.zip (xs.zip w.tasks)).set j (hj, y, { u with last := A.n })).set j (hj, y, advT { u with last := A.n })).set i (h, x, advT t) = hdr.zip (xs.zip (doW w mv).tasks) := by rw [hdW]; exact xtk2_fin hie hje hi0 hi1 hJ0 hJ1 hIJ hcj hc htI
    refine kY [1,4,5,6,7,8] Z (W_regionD mixed (by kernel_rfl) (evQ ?_))
    refine evQ ?_
    refine evQ ?_
    refine QL_idxT tys Z Z (lt_of Z) Z Z Z Z Z Z Z (by omega) _ (getT _ _ (by omega) (by omega)) (evQ ?_)
    rw [hmj]
    refine QL_idxV tys Z Z (lt_of Z) Z Z Z Z Z Z (by omega) (by omega) (QL_norm Z (evQ ?_))
    refine QL_nil (tN (sQ (nY Z ?_)))
    rw [← hje]
    refine rG (eK 3 Z (WO_nil' rfl Z (lt_of Z) Z Z Z (WO_fieldV tys Z Z (lt_of Z) Z Z Z Z Z (WO_storeV (id := 101) (u0 := .int .i64 u.last) (u := .int .i64 A.n) tys Z Z Z Z Z Z Z (xcT_at hcj (by decide)) Z Z Z (nZ Z (WO_le (Le.eqK (id := 101) Z (xcs_to (c' := (hj, y, { u with last := A.n })) hcj (by decide) Z Z)) (nZ Z (oN (tN (W_le (Le.roNil 99) (nY Z (kY [4,5,6,7,10] Z (rG (eZ Z ?_))))))))))))))
    refine WO_callP (rid := 99) [101] Z Z (lt_of Z) Z Z (by repeat (first | exact ResP.done | refine ResP.pin0 1101 Z ?_ | refine ResP.t ?_ | refine ResP.nil 1 ?_ | refine ResP.nil' ?_ | refine ResP.own ?_ | refine ResP.sl Z Z (by first | omega | (simp; omega)) ?_ | refine ResP.aggT (by repeat (first | exact ResP.done | refine ResP.t ?_)) ?_)) Z (by repeat (first | exact trivial | refine ⟨rfl, rfl, ?_⟩)) (by decide) (goX_fun bt (cap * 4) j _ hj y _ hC2 hp2 hl2) Z Z Z ?_
    refine nZ Z (oN (bN (tN (sQ (W_le (Le.roNil 99) (nY Z (rG (eZ Z ?_))))))))
    refine WO_callP (rid := 99) [101] Z Z (lt_of Z) Z Z (by repeat (first | exact ResP.done | refine ResP.pin0 1101 Z ?_ | refine ResP.t ?_ | refine ResP.nil 1 ?_ | refine ResP.nil' ?_ | refine ResP.own ?_ | refine ResP.sl Z Z (by first | omega | (simp; omega)) ?_ | refine ResP.aggT (by repeat (first | exact ResP.done | refine ResP.t ?_)) ?_)) Z (by repeat (first | exact trivial | refine ⟨rfl, rfl, ?_⟩)) (by decide) (goX_fun bt (cap * 4) i _ h x _ hC1 hp1 hl1) Z Z Z ?_
    refine nZ Z (oN (tN (sQ (nY Z ?_))))
    (refine W_le (Le.putBack (id := 104) (idq := 107) (i := A.chan.toNat) (off := 0) (T.ints hl) rfl rfl (List.getElem?_set_self (by rw [List.length_map]; omega)) rfl rfl rfl) ?_; refine W_norm rfl ?_)
    (refine W_le (Le.gatherBox (u := 6) (j := 1) (id := 104) rfl rfl rfl (by first | exact Nat.le_refl _ | simp) rfl) ?_; refine W_norm rfl ?_)
    (refine W_le (Le.gatherBox (u := 6) (j := 2) (id := 105) rfl rfl rfl (by first | exact Nat.le_refl _ | simp) rfl) ?_; refine W_norm rfl ?_)
    (refine W_le (Le.gatherBox (u := 6) (j := 4) (id := 106) rfl rfl rfl (by first | exact Nat.le_refl _ | simp) rfl) ?_; refine W_norm rfl ?_)
    refine W_le (Le.eqK (id := 101) (k' := rb false bt (cap * 4) (xcsW (hdr.zip (xs.zip (doW w mv).tasks))) (((xs.zip (doW w mv).tasks).map ttT).flatMap T.cells)) Z (xcs_rb (by rw [List.length_zip, doW_len]; omega) hfin)) ?_
    refine nY Z (W_le (Le.implode (id := 133) (id2 := 101) (j := 0) (n := 4) (e := false) (b := bt) (cap := cap) (ad := some ⟨bt, 0, none⟩) (len := w.tasks.length) (u := .slice (some ⟨bt, 0, none⟩) w.tasks.length cap) (ws := xcsW (hdr.zip (xs.zip (doW w mv).tasks))) (ys := (xs.zip (doW w mv).tasks).map ttT) Z Z Z Z Z Z (fun _ => rfl) (fun h => by cases h) (by rw [List.length_map, List.length_zip, doW_len]; omega) hlc' hcm ttT_cells Z) ?_)
    refine nY Z (W_le (Le.claimBox (u := 6) (idp := 133) (j := 3) Z Z Z Z) (nY Z (W_le (Le.freezeB (u := 6) Z Z) (nY Z (W_regionH [[], [4], [4], [4], [4], [], []] mixed (by kernel_rfl) (QH_G0 (QG_evZ tys Z Z (lt_of Z) Z Z (QG_nil (QH_G (QG_ev tys Z Z (lt_of Z) Z (QG_nil (QH_G (QG_ev tys Z Z (lt_of Z) Z (QG_nil (QH_G ?_)))))))))))))))
    refine QG_evE tys Z Z (lt_of Z) Z (by first | exact lenM | exact Z) ?_
    refine QG_nil (QH_norm Z (QH_G (QG_ev tys Z Z (lt_of Z) Z (QG_nil (QH_store tys 10005 Z Z Z Z Z Z Z Z Z (Nat.le_of_ble_eq_true Z) (QH_G0 (QG_ev tys Z Z (lt_of Z) Z (QG_nil (QH_nil ?_)))))))))
    refine ⟨by kernel_rfl, ?_⟩
    refine nZ Z (oN (tN (rT (eR ?_))))
    · refine do_fin ?_ ?_ ?_ ?_ ?_
      all_goals try unfold doOk
      all_goals rw [hdW]
      all_goals first | rfl | (simp [advW, setT, List.set_set, hset, List.map_set, List.take_of_length_le]; done) | (simp [advW, setT]; omega) | (simp [advW, setT]; exact decide_eq_true (by omega)) | (simp [advW, setT]; exact decide_eq_decide.2 (by omega))
  refine sQ (nY Z ?_)
  have hcd := of_decide_eq_false (hbb.symm.trans (by assumption))
  rw [if_neg (by assumption), if_neg hcd] at hdW
  refine kY [4,5,6,7,8,9] Z (rG (eK 4 Z (oN (tN ?_))))
  refine W_cond Z (fun h5 => ?_) (fun h5 => ?_)
  ·
    simp only [HS] at h5
    refine nY Z ?_
    rw [if_pos (by assumption)] at hdW
    have hC1 := hc
    have hp1 : 0 ≤ t.pos ∧ t.pos ≤ 1048576 := by omega
    have hl1 : t.acts.length ≤ 1048576 := by omega
    have hfin : (hdr.zip (xs.zip w.tasks)).set i (h, x, advT t) = hdr.zip (xs.zip (doW w mv).tasks) := by rw [hdW]; exact xadv_fin (W1 := { w with held := w.held.set A.chan.toNat (hl ++ [A.n]) }) hie hc htI
    refine W_le (Le.ownBack (t := 9) (id := 107) Z Z) (nY Z (W_le (Le.adoptE (u := 9) 107 Z Z) (nY Z (W_regionGm 10 mixed Z (by kernel_rfl) (by kernel_rfl) (QG_ev tys Z Z (lt_of Z) Z (QG_ev tys Z Z (lt_of Z) Z (QG_norm Z (QG_ev tys Z Z (lt_of Z) Z (QG_ev tys Z Z (lt_of Z) Z (QG_ev tys Z Z (lt_of Z) Z (QG_call Z Z (lt_of Z) Z Z (resl_drop (id := 107) Z (by show 0 + (List.map T.int hl).length = hl.length; rw [List.length_map]; omega) Z) (l1OwnW_fun (hl.drop 0) (by rw [List.length_drop]; omega)) Z ?_)))))))))))
    refine QG_ev tys Z Z (lt_of Z) Z (QG_ev tys Z Z (lt_of Z) Z (QG_norm Z ?_))
    refine QG_buildS tys [T.int A.n] Z Z (lt_of Z) Z Z Z Z Z (lt_of Z) (by repeat (first | exact PartsOk.nil' | refine PartsOk.cons' rfl (by repeat (first | exact AbsL.nil' | refine AbsL.v' ?_ | refine AbsL.own' ?_ | refine AbsL.none' ?_)) Z ?_)) Z Z Z (by decide) ?_
    refine QG_appendO tys Z Z (lt_of Z) Z Z Z Z Z Z Z Z Z ((fun x hx => by rw [List.mem_singleton] at hx; subst hx; exact ⟨rfl, fun z hz => ⟨_, by simpa [T.cells] using hz⟩⟩)) (by simp; omega) (by decide) Z ?_
    refine QG_nil ?_
    refine ⟨by kernel_rfl, ?_⟩
    refine nZ Z (WO_idxS tys Z Z (lt_of Z) Z Z Z Z Z Z Z Z hAc0 (by first | (rw [List.length_map]; omega) | (rw [List.length_set, List.length_map]; omega)) ?_)
    refine WO_storeE tys (T.ints (hl ++ [A.n])) Z Z Z Z Z Z (Nat.zero_add _) (by rw [List.length_set, List.length_map]; omega) Z (by rw [show T.cells (T.ints (hl ++ [A.n])) = [.list 1 ((hl.drop 0).map T.int ++ [T.int A.n])] from by rw [List.drop_zero]; show [T.list 1 _] = _; rw [List.map_append]; rfl]; exact AbsL.own' AbsL.nil') Z Z Z ?_
    refine nZ Z (oN (bN (tN (sQ (W_le (Le.roNil 99) (nY Z (rG (eZ Z ?_))))))))
    refine WO_callP (rid := 99) [101] Z Z (lt_of Z) Z Z (by repeat (first | exact ResP.done | refine ResP.pin0 1101 Z ?_ | refine ResP.t ?_ | refine ResP.nil 1 ?_ | refine ResP.nil' ?_ | refine ResP.own ?_ | refine ResP.sl Z Z (by first | omega | (simp; omega)) ?_ | refine ResP.aggT (by repeat (first | exact ResP.done | refine ResP.t ?_)) ?_)) Z (by repeat (first | exact trivial | refine ⟨rfl, rfl, ?_⟩)) (by decide) (goX_fun bt (cap * 4) i _ h x _ hC1 hp1 hl1) Z Z Z ?_
    refine nZ Z (oN (tN (sQ (nY Z ?_))))
    skip
    (refine W_le (Le.gatherBox (u := 6) (j := 1) (id := 104) rfl rfl rfl (by first | exact Nat.le_refl _ | simp) rfl) ?_; refine W_norm rfl ?_)
    (refine W_le (Le.gatherBox (u := 6) (j := 2) (id := 105) rfl rfl rfl (by first | exact Nat.le_refl _ | simp) rfl) ?_; refine W_norm rfl ?_)
    (refine W_le (Le.gatherBox (u := 6) (j := 4) (id := 106) rfl rfl rfl (by first | exact Nat.le_refl _ | simp) rfl) ?_; refine W_norm rfl ?_)
    refine W_le (Le.eqK (id := 101) (k' := rb false bt (cap * 4) (xcsW (hdr.zip (xs.zip (doW w mv).tasks))) (((xs.zip (doW w mv).tasks).map ttT).flatMap T.cells)) Z (xcs_rb (by rw [List.length_zip, doW_len]; omega) hfin)) ?_
    refine nY Z (W_le (Le.implode (id := 133) (id2 := 101) (j := 0) (n := 4) (e := false) (b := bt) (cap := cap) (ad := some ⟨bt, 0, none⟩) (len := w.tasks.length) (u := .slice (some ⟨bt, 0, none⟩) w.tasks.length cap) (ws := xcsW (hdr.zip (xs.zip (doW w mv).tasks))) (ys := (xs.zip (doW w mv).tasks).map ttT) Z Z Z Z Z Z (fun _ => rfl) (fun h => by cases h) (by rw [List.length_map, List.length_zip, doW_len]; omega) hlc' hcm ttT_cells Z) ?_)
    refine nY Z (W_le (Le.claimBox (u := 6) (idp := 133) (j := 3) Z Z Z Z) (nY Z (W_le (Le.freezeB (u := 6) Z Z) (nY Z (W_regionH [[], [4], [4], [4], [4], [], []] mixed (by kernel_rfl) (QH_G0 (QG_evZ tys Z Z (lt_of Z) Z Z (QG_nil (QH_G (QG_ev tys Z Z (lt_of Z) Z (QG_nil (QH_G (QG_ev tys Z Z (lt_of Z) Z (QG_nil (QH_G ?_)))))))))))))))
    refine QG_evE tys Z Z (lt_of Z) Z (by first | exact lenM | exact Z) ?_
    refine QG_nil (QH_norm Z (QH_G (QG_ev tys Z Z (lt_of Z) Z (QG_nil (QH_store tys 10005 Z Z Z Z Z Z Z Z Z (Nat.le_of_ble_eq_true Z) (QH_G0 (QG_ev tys Z Z (lt_of Z) Z (QG_nil (QH_nil ?_)))))))))
    refine ⟨by kernel_rfl, ?_⟩
    refine nZ Z (oN (tN (rT (eR ?_))))
    · refine do_fin ?_ ?_ ?_ ?_ ?_
      all_goals try unfold doOk
      all_goals rw [hdW]
      all_goals first | rfl | (simp [advW, setT, List.set_set, hset, List.map_set, List.take_of_length_le]; done) | (simp [advW, setT]; omega) | (simp [advW, setT]; exact decide_eq_true (by omega)) | (simp [advW, setT]; exact decide_eq_decide.2 (by omega))
  simp only [HS] at h5
  refine sQ (nY Z ?_)
  rw [if_neg (by assumption)] at hdW
  refine rG (eZ Z (WO_lenV Z Z (lt_of Z) Z ⟨3, by kernel_rfl⟩ rfl (eK 2 Z (oN (tN ?_)))))
  refine W_cond Z (fun h6 => ?_) (fun h6 => ?_)
  ·
    simp only [HS] at h6
    refine sQ (nY Z ?_)
    have hlp : 0 < hl.length := by simp_all
    rw [if_pos hlp, show at0 0 hl 0 = hl[0] from at0_of (l := hl) (i := 0) (by omega) (by omega)] at hdW
    refine W_le (Le.ownBack (t := 9) (id := 107) Z Z) (nY Z (W_le (Le.adoptE (u := 9) 107 Z Z) (nY Z ?_)))
    have hp1 : 0 ≤ t.pos ∧ t.pos ≤ 1048576 := by omega
    have hl1 : t.acts.length ≤ 1048576 := by omega
    have hC1 : ((hdr.zip (xs.zip w.tasks)).set i (h, x, { t with last := hl[0] }))[i]? = some (h, x, { t with last := hl[0] }) := xc_mid hc
    have hfin : ((hdr.zip (xs.zip w.tasks)).set i (h, x, { t with last := hl[0] })).set i (h, x, advT { t with last := hl[0] }) = hdr.zip (xs.zip (doW w mv).tasks) := by rw [hdW]; exact xtk0_fin hie hi0 hi1 hc
    refine kY [4,5,6,7,8,9] Z (rG (eK 2 Z (WO_idxS tys Z Z (lt_of Z) Z Z Z Z Z Z Z Z (by omega) (by rw [List.length_map]; omega) ?_)))
    refine WO_loadL tys Z Z (lt_of Z) Z Z Z Z (getT0 _ _ (by omega) (by omega)) Z (WO_nil' rfl Z (lt_of Z) Z Z Z (WO_fieldV tys Z Z (lt_of Z) Z Z Z Z Z (WO_storeV (id := 101) (u0 := .int .i64 t.last) (u := .int .i64 hl[0]) tys Z Z Z Z Z Z Z (xcT_at hc (by decide)) Z Z Z (nZ Z (WO_le (Le.eqK (id := 101) Z (xcs_to (c' := (h, x, { t with last := hl[0] })) hc (by decide) Z Z)) (nZ Z (oN (tN (kY [4,5,6,7,8,9] Z (W_regionGm 7 mixed Z (by kernel_rfl) (by kernel_rfl) (QG_ev tys Z Z (lt_of Z) Z (QG_ev tys Z Z (lt_of Z) Z (QG_ev tys Z Z (lt_of Z) Z (QG_ev tys Z Z (lt_of Z) Z (QG_ev tys Z Z (lt_of Z) Z ?_)))))))))))))))
    refine QG_sliceS tys Z Z (lt_of Z) Z Z Z Z Z Z Z Z Z (by omega) (by rw [List.length_map]; omega) (by rw [List.length_map]; omega) ?_
    refine QG_norm Z (QG_call Z Z (lt_of Z) Z Z (resl_drop (id := 107) Z (by show 1 + (((List.map T.int hl).length : Int).toNat - 1) = hl.length; rw [List.length_map]; omega) Z) (l1OwnW_fun (hl.drop 1) (by rw [List.length_drop]; omega)) Z ?_)
    refine QG_nil ?_
    refine ⟨by kernel_rfl, ?_⟩
    refine nZ Z (WO_idxS tys Z Z (lt_of Z) Z Z Z Z Z Z Z Z hAc0 (by first | (rw [List.length_map]; omega) | (rw [List.length_set, List.length_map]; omega)) ?_)
    refine WO_storeE tys (T.ints (hl.drop 1)) Z Z Z Z Z Z (Nat.zero_add _) (by rw [List.length_set, List.length_map]; omega) Z (AbsL.own' AbsL.nil') Z Z Z ?_
    refine nZ Z (oN (bN (tN (sQ (W_le (Le.roNil 99) (nY Z (rG (eZ Z ?_))))))))
    refine WO_callP (rid := 99) [101] Z Z (lt_of Z) Z Z (by repeat (first | exact ResP.done | refine ResP.pin0 1101 Z ?_ | refine ResP.t ?_ | refine ResP.nil 1 ?_ | refine ResP.nil' ?_ | refine ResP.own ?_ | refine ResP.sl Z Z (by first | omega | (simp; omega)) ?_ | refine ResP.aggT (by repeat (first | exact ResP.done | refine ResP.t ?_)) ?_)) Z (by repeat (first | exact trivial | refine ⟨rfl, rfl, ?_⟩)) (by decide) (goX_fun bt (cap * 4) i _ h x _ hC1 hp1 hl1) Z Z Z ?_
    refine nZ Z (oN (tN (sQ (nY Z ?_))))
    skip
    (refine W_le (Le.gatherBox (u := 6) (j := 1) (id := 104) rfl rfl rfl (by first | exact Nat.le_refl _ | simp) rfl) ?_; refine W_norm rfl ?_)
    (refine W_le (Le.gatherBox (u := 6) (j := 2) (id := 105) rfl rfl rfl (by first | exact Nat.le_refl _ | simp) rfl) ?_; refine W_norm rfl ?_)
    (refine W_le (Le.gatherBox (u := 6) (j := 4) (id := 106) rfl rfl rfl (by first | exact Nat.le_refl _ | simp) rfl) ?_; refine W_norm rfl ?_)
    refine W_le (Le.eqK (id := 101) (k' := rb false bt (cap * 4) (xcsW (hdr.zip (xs.zip (doW w mv).tasks))) (((xs.zip (doW w mv).tasks).map ttT).flatMap T.cells)) Z (xcs_rb (by rw [List.length_zip, doW_len]; omega) hfin)) ?_
    refine nY Z (W_le (Le.implode (id := 133) (id2 := 101) (j := 0) (n := 4) (e := false) (b := bt) (cap := cap) (ad := some ⟨bt, 0, none⟩) (len := w.tasks.length) (u := .slice (some ⟨bt, 0, none⟩) w.tasks.length cap) (ws := xcsW (hdr.zip (xs.zip (doW w mv).tasks))) (ys := (xs.zip (doW w mv).tasks).map ttT) Z Z Z Z Z Z (fun _ => rfl) (fun h => by cases h) (by rw [List.length_map, List.length_zip, doW_len]; omega) hlc' hcm ttT_cells Z) ?_)
    refine nY Z (W_le (Le.claimBox (u := 6) (idp := 133) (j := 3) Z Z Z Z) (nY Z (W_le (Le.freezeB (u := 6) Z Z) (nY Z (W_regionH [[], [4], [4], [4], [4], [], []] mixed (by kernel_rfl) (QH_G0 (QG_evZ tys Z Z (lt_of Z) Z Z (QG_nil (QH_G (QG_ev tys Z Z (lt_of Z) Z (QG_nil (QH_G (QG_ev tys Z Z (lt_of Z) Z (QG_nil (QH_G ?_)))))))))))))))
    refine QG_evE tys Z Z (lt_of Z) Z (by first | exact lenM | exact Z) ?_
    refine QG_nil (QH_norm Z (QH_G (QG_ev tys Z Z (lt_of Z) Z (QG_nil (QH_store tys 10005 Z Z Z Z Z Z Z Z Z (Nat.le_of_ble_eq_true Z) (QH_G0 (QG_ev tys Z Z (lt_of Z) Z (QG_nil (QH_nil ?_)))))))))
    refine ⟨by kernel_rfl, ?_⟩
    refine nZ Z (oN (tN (rT (eR ?_))))
    · refine do_fin ?_ ?_ ?_ ?_ ?_
      all_goals try unfold doOk
      all_goals rw [hdW]
      all_goals first | rfl | (simp [advW, setT, List.set_set, hset, List.map_set, List.take_of_length_le]; done) | (simp [advW, setT]; omega) | (simp [advW, setT]; exact decide_eq_true (by omega)) | (simp [advW, setT]; exact decide_eq_decide.2 (by omega))
  simp only [HS] at h6
  refine nY Z ?_
  have hlp : ¬ 0 < hl.length := by simp_all
  rw [if_neg hlp] at hdW
  have hp1 : 0 ≤ t.pos ∧ t.pos ≤ 1048576 := by omega
  have hl1 : t.acts.length ≤ 1048576 := by omega
  have hC1 : ((hdr.zip (xs.zip w.tasks)).set i (h, x, { t with last := 0 }))[i]? = some (h, x, { t with last := 0 }) := xc_mid hc
  have hfin : ((hdr.zip (xs.zip w.tasks)).set i (h, x, { t with last := 0 })).set i (h, x, advT { t with last := 0 }) = hdr.zip (xs.zip (doW w mv).tasks) := by rw [hdW]; exact xtk0_fin hie hi0 hi1 hc
  refine kY [4,5,6,7] Z (rG (eZ Z (WO_nil' rfl Z (lt_of Z) Z Z Z (WO_fieldV tys Z Z (lt_of Z) Z Z Z Z Z (WO_storeV (id := 101) (u0 := .int .i64 t.last) (u := .int .i64 0) tys Z Z Z Z Z Z Z (xcT_at hc (by decide)) Z Z Z (nZ Z (WO_le (Le.eqK (id := 101) Z (xcs_to (c' := (h, x, { t with last := 0 })) hc (by decide) Z Z)) (nZ Z (oN (bN (tN (sQ (W_le (Le.roNil 99) (nY Z (rG ?_)))))))))))))))
  refine eZ Z ?_
  refine WO_callP (rid := 99) [101] Z Z (lt_of Z) Z Z (by repeat (first | exact ResP.done | refine ResP.pin0 1101 Z ?_ | refine ResP.t ?_ | refine ResP.nil 1 ?_ | refine ResP.nil' ?_ | refine ResP.own ?_ | refine ResP.sl Z Z (by first | omega | (simp; omega)) ?_ | refine ResP.aggT (by repeat (first | exact ResP.done | refine ResP.t ?_)) ?_)) Z (by repeat (first | exact trivial | refine ⟨rfl, rfl, ?_⟩)) (by decide) (goX_fun bt (cap * 4) i _ h x _ hC1 hp1 hl1) Z Z Z ?_
  refine nZ Z (oN (tN (sQ (nY Z ?_))))
  (refine W_le (Le.putBack (id := 104) (idq := 107) (i := A.chan.toNat) (off := 0) (T.ints hl) rfl rfl (List.getElem?_set_self (by rw [List.length_map]; omega)) rfl rfl rfl) ?_; refine W_norm rfl ?_)
  (refine W_le (Le.gatherBox (u := 6) (j := 1) (id := 104) rfl rfl rfl (by first | exact Nat.le_refl _ | simp) rfl) ?_; refine W_norm rfl ?_)
  (refine W_le (Le.gatherBox (u := 6) (j := 2) (id := 105) rfl rfl rfl (by first | exact Nat.le_refl _ | simp) rfl) ?_; refine W_norm rfl ?_)
  (refine W_le (Le.gatherBox (u := 6) (j := 4) (id := 106) rfl rfl rfl (by first | exact Nat.le_refl _ | simp) rfl) ?_; refine W_norm rfl ?_)
  refine W_le (Le.eqK (id := 101) (k' := rb false bt (cap * 4) (xcsW (hdr.zip (xs.zip (doW w mv).tasks))) (((xs.zip (doW w mv).tasks).map ttT).flatMap T.cells)) Z (xcs_rb (by rw [List.length_zip, doW_len]; omega) hfin)) ?_
  refine nY Z (W_le (Le.implode (id := 133) (id2 := 101) (j := 0) (n := 4) (e := false) (b := bt) (cap := cap) (ad := some ⟨bt, 0, none⟩) (len := w.tasks.length) (u := .slice (some ⟨bt, 0, none⟩) w.tasks.length cap) (ws := xcsW (hdr.zip (xs.zip (doW w mv).tasks))) (ys := (xs.zip (doW w mv).tasks).map ttT) Z Z Z Z Z Z (fun _ => rfl) (fun h => by cases h) (by rw [List.length_map, List.length_zip, doW_len]; omega) hlc' hcm ttT_cells Z) ?_)
  refine nY Z (W_le (Le.claimBox (u := 6) (idp := 133) (j := 3) Z Z Z Z) (nY Z (W_le (Le.freezeB (u := 6) Z Z) (nY Z (W_regionH [[], [4], [4], [4], [4], [], []] mixed (by kernel_rfl) (QH_G0 (QG_evZ tys Z Z (lt_of Z) Z Z (QG_nil (QH_G (QG_ev tys Z Z (lt_of Z) Z (QG_nil (QH_G (QG_ev tys Z Z (lt_of Z) Z (QG_nil (QH_G ?_)))))))))))))))
  refine QG_evE tys Z Z (lt_of Z) Z (by first | exact lenM | exact Z) ?_
  refine QG_nil (QH_norm Z (QH_G (QG_ev tys Z Z (lt_of Z) Z (QG_nil (QH_store tys 10005 Z Z Z Z Z Z Z Z Z (Nat.le_of_ble_eq_true Z) (QH_G0 (QG_ev tys Z Z (lt_of Z) Z (QG_nil (QH_nil ?_)))))))))
  refine ⟨by kernel_rfl, ?_⟩
  refine nZ Z (oN (tN (rT (eR ?_))))
  · refine do_fin ?_ ?_ ?_ ?_ ?_
    all_goals try unfold doOk
    all_goals rw [hdW]
    all_goals first | rfl | (simp [advW, setT, List.set_set, hset, List.map_set, List.take_of_length_le]; done) | (simp [advW, setT]; omega) | (simp [advW, setT]; exact decide_eq_true (by omega)) | (simp [advW, setT]; exact decide_eq_decide.2 (by omega))
open Go.Eng
/-! What reads as flat acts can be told. -/
theorem hdr_of {w : Go.World} {F : Nat → Prop} {n : Nat} {vs : List Value} {ts : List T} (h : RelL w F vs (.list n [] :: ts)) : ∃ a c v', vs = Value.slice a 0 c :: v' ∧ RelL w F v' ts := by
 generalize hx : ([] : List T) = xs at h
 cases h with
 | none h => exact ⟨_, _, _, rfl, h⟩
 | list p1 p2 p3 p4 p5 p6 h => subst hx; exact ⟨_, _, _, rfl, h⟩
theorem tellCases {w : Go.World} {F : Nat → Prop} : ∀ {l : List Act}, (∀ b, b ∈ l → b.cases = []) → ∀ {vs}, RelL w F vs ((l.map Act.toT).flatMap T.cells) → ∃ zs, All2 TCase zs l ∧ RelL w F vs (zs.flatMap T.cells)
 | [], _, vs, h => ⟨[], .nil, h⟩
 | b :: l, hb, vs, h => by
  rw [List.map_cons, List.flatMap_cons, Act.toT_eq] at h
  change RelL w F vs (T.int b.kind :: T.int b.chan :: T.int b.n :: .list 4 (b.cases.map Act.toT) :: (l.map Act.toT).flatMap T.cells) at h
  have hb0 := hb b (by simp)
  rw [hb0] at h
  cases h with
  | v q1 h =>
   cases h with
   | v q2 h =>
    cases h with
    | v q3 h =>
     obtain ⟨a, c, v', rfl, h'⟩ := hdr_of h
     obtain ⟨zs, g1, g2⟩ := tellCases (fun b' h => hb b' (by simp [h])) h'
     exact ⟨.agg [T.int b.kind, T.int b.chan, T.int b.n, .v (.slice a 0 c)] :: zs, .cons ⟨hb0, a, c, rfl⟩ g1, .v q1 (.v q2 (.v q3 (.v rfl g2)))⟩
def flatC (a : Act) : Prop := ∀ b, b ∈ a.cases → b.cases = []
theorem case_cells {zs : List T} {l : List Act} (h : All2 TCase zs l) : ∀ x, x ∈ zs → (T.cells x).length = 4 := fun x hx => (case_read h x hx).1
theorem act_cells {zs : List T} {l : List Act} (h : All2 TAct zs l) : ∀ x, x ∈ zs → (T.cells x).length = 4 := fun x hx => by
 obtain ⟨b, _, cs, rfl, _⟩ := h.left hx
 rfl
theorem tellActL {w : Go.World} {F : Nat → Prop} : ∀ {l : List Act}, (∀ b, b ∈ l → flatC b) → ∀ {vs}, RelL w F vs ((l.map Act.toT).flatMap T.cells) → ∃ zs, All2 TAct zs l ∧ RelL w F vs (zs.flatMap T.cells)
 | [], _, vs, h => ⟨[], .nil, h⟩
 | b :: l, hb, vs, h => by
  rw [List.map_cons, List.flatMap_cons, Act.toT_eq] at h
  change RelL w F vs (T.int b.kind :: T.int b.chan :: T.int b.n :: .list 4 (b.cases.map Act.toT) :: (l.map Act.toT).flatMap T.cells) at h
  have hb0 := hb b (by simp)
  cases h with
  | v q1 h =>
   cases h with
   | v q2 h =>
    cases h with
    | v q3 h =>
     generalize hy : T.list 4 (b.cases.map Act.toT) = y at h
     cases h with
     | v p1 p2 => cases hy
     | none h =>
      have e : b.cases = [] := by have := (T.list.inj hy).2; exact List.map_eq_nil_iff.1 this
      obtain ⟨zs, g1, g2⟩ := tellActL (fun b' h => hb b' (by simp [h])) h
      refine ⟨.agg [T.int b.kind, T.int b.chan, T.int b.n, .list 4 []] :: zs, .cons ⟨[], rfl, by rw [e]; exact .nil⟩ g1, .v q1 (.v q2 (.v q3 (.none g2)))⟩
     | list p1 p2 p3 p4 p5 p6 h =>
      obtain ⟨rfl, rfl⟩ := T.list.inj hy
      obtain ⟨zs, g1, g2⟩ := tellActL (fun b' h => hb b' (by simp [h])) h
      obtain ⟨cs, g3, g4⟩ := tellCases hb0 p6
      have el : (b.cases.map Act.toT).length = cs.length := by rw [List.length_map]; exact g3.len.symm
      refine ⟨.agg [T.int b.kind, T.int b.chan, T.int b.n, .list 4 cs] :: zs, .cons ⟨cs, rfl, g3⟩ g1, .v q1 (.v q2 (.v q3 ?_))⟩
      rw [el] at p5 ⊢
      exact .list p1 p2 p3 (case_cells g3) p5 g4 g2
theorem tellActs {w : Go.World} {F : Nat → Prop} {l : List Act} (hb : ∀ b, b ∈ l → flatC b) {v : Value} {vs : List Value} {ts : List T} (h : RelL w F (v :: vs) (T.Acts l :: ts)) : ∃ x, TActs x l ∧ RelL w F [v] [x] ∧ RelL w F vs ts := by
 obtain ⟨h, hr⟩ := h.cons
 generalize hy : T.Acts l = y at h
 cases h with
 | v p1 p2 => cases hy
 | none h =>
  have e : l = [] := by have := (T.list.inj hy).2; exact List.map_eq_nil_iff.1 this
  subst e
  exact ⟨.list 4 [], ⟨[], rfl, .nil⟩, .none .nil, hr⟩
 | list p1 p2 p3 p4 p5 p6 h =>
  obtain ⟨rfl, rfl⟩ := T.list.inj hy
  obtain ⟨zs, g1, g2⟩ := tellActL hb p6
  have el : (l.map Act.toT).length = zs.length := by rw [List.length_map]; exact g1.len.symm
  refine ⟨.list 4 zs, ⟨zs, rfl, g1⟩, ?_, hr⟩
  rw [el] at p5 ⊢
  exact .list p1 p2 p3 (act_cells g1) p5 g2 .nil
theorem tellTasks {w : Go.World} {F : Nat → Prop} : ∀ {l : List Task}, (∀ t, t ∈ l → ∀ b, b ∈ t.acts → flatC b) → ∀ {vs}, RelL w F vs ((l.map Task.tt).flatMap T.cells) → ∃ xs, All2 TActs xs (l.map Task.acts) ∧ RelL w F vs (((xs.zip l).map ttT).flatMap T.cells)
 | [], _, vs, h => ⟨[], .nil, h⟩
 | t :: l, hb, vs, h => by
  rw [List.map_cons, List.flatMap_cons] at h
  change RelL w F vs (T.Acts t.acts :: T.int t.pos :: T.int t.state :: T.int t.last :: (l.map Task.tt).flatMap T.cells) at h
  cases vs with
  | nil => cases h
  | cons v vs =>
   obtain ⟨x, g1, g2, h⟩ := tellActs (hb t (by simp)) h
   cases h with
   | v q1 h =>
    cases h with
    | v q2 h =>
     cases h with
     | v q3 h =>
      obtain ⟨xs, g3, g4⟩ := tellTasks (fun t' h => hb t' (by simp [h])) h
      exact ⟨x :: xs, .cons g1 g3, RelL.cons' g2 (.v q1 (.v q2 (.v q3 g4)))⟩
theorem relTasks {w : Go.World} {F : Nat → Prop} : ∀ {l : List Task} {xs : List T}, All2 TActs xs (l.map Task.acts) → ∀ {vs}, RelL w F vs (((xs.zip l).map ttT).flatMap T.cells) → RelL w F vs ((l.map Task.tt).flatMap T.cells)
 | [], xs, h, vs, hr => by cases h; exact hr
 | t :: l, xs, h, vs, hr => by
  cases h with
  | cons h1 h2 =>
   rename_i x xs
   rw [List.map_cons, List.flatMap_cons]
   change RelL w F vs (x :: T.int t.pos :: T.int t.state :: T.int t.last :: ((xs.zip l).map ttT).flatMap T.cells) at hr
   show RelL w F vs (T.Acts t.acts :: T.int t.pos :: T.int t.state :: T.int t.last :: (l.map Task.tt).flatMap T.cells)
   cases vs with
   | nil => cases hr
   | cons v vs =>
    have h3 := relActs h1 hr
    obtain ⟨h4, h5⟩ := h3.cons
    cases h5 with
    | v q1 h =>
     cases h with
     | v q2 h =>
      cases h with
      | v q3 h => exact RelL.cons' h4 (.v q1 (.v q2 (.v q3 (relTasks h2 h))))
theorem relTaskL {w : Go.World} {F : Nat → Prop} {l : List Task} {xs : List T} (hx : All2 TActs xs (l.map Task.acts)) {v : Value} (h : RelL w F [v] [.list 4 ((xs.zip l).map ttT)]) : RelL w F [v] [T.Tasks l] := by
 have hl : xs.length = l.length := by have := hx.len; rw [List.length_map] at this; exact this
 generalize hy : T.list 4 ((xs.zip l).map ttT) = y at h
 cases h with
 | v p1 p2 => cases hy
 | none h =>
  have e : (xs.zip l).length = 0 := by have := (T.list.inj hy).2; rw [List.map_eq_nil_iff] at this; rw [this]; rfl
  rw [List.length_zip] at e
  have : l = [] := List.eq_nil_of_length_eq_zero (by omega)
  subst this
  exact .none .nil
 | list p1 p2 p3 p4 p5 p6 h =>
  obtain ⟨rfl, rfl⟩ := T.list.inj hy
  have el : ((xs.zip l).map ttT).length = (l.map Task.tt).length := by rw [List.length_map, List.length_map, List.length_zip]; omega
  rw [el] at p5 ⊢
  exact .list p1 p2 p3 tasks_cells p5 (relTasks hx p6) .nil
theorem tellTaskL {w : Go.World} {F : Nat → Prop} {l : List Task} (hb : ∀ t, t ∈ l → ∀ b, b ∈ t.acts → flatC b) {v : Value} (h : RelL w F [v] [T.Tasks l]) : ∃ xs, All2 TActs xs (l.map Task.acts) ∧ RelL w F [v] [.list 4 ((xs.zip l).map ttT)] := by
 generalize hy : T.Tasks l = y at h
 cases h with
 | v p1 p2 => cases hy
 | none h =>
  have e : l = [] := by have := (T.list.inj hy).2; exact List.map_eq_nil_iff.1 this
  subst e
  exact ⟨[], .nil, .none .nil⟩
 | list p1 p2 p3 p4 p5 p6 h =>
  obtain ⟨rfl, rfl⟩ := T.list.inj hy
  obtain ⟨xs, g1, g2⟩ := tellTasks hb p6
  have hl : xs.length = l.length := by have := g1.len; rw [List.length_map] at this; exact this
  have el : (l.map Task.tt).length = ((xs.zip l).map ttT).length := by rw [List.length_map, List.length_map, List.length_zip]; omega
  refine ⟨xs, g1, ?_⟩
  rw [el] at p5 ⊢
  exact .list p1 p2 p3 ttT_cells p5 g2 .nil
theorem flat_good {w : World} (hg : goodWorld w = true) : ∀ t, t ∈ w.tasks → ∀ a, a ∈ t.acts → flatC a := by
 intro t ht a ha b hb
 have h9 := (gw_iff.1 hg).ts t ht
 unfold goodTask goodActs at h9
 simp only [Bool.and_eq_true, decide_eq_true_eq, List.all_eq_true] at h9
 have hga := h9.1.1 a ha
 unfold goodAct at hga
 split at hga
 ·simp only [Bool.and_eq_true, List.all_eq_true] at hga
  have := hga.1 b hb
  unfold caseAct plainAct at this
  simp only [Bool.and_eq_true, decide_eq_true_eq] at this
  grind [List.length_eq_zero_iff]
 ·unfold plainAct at hga
  simp only [Bool.and_eq_true, decide_eq_true_eq] at hga
  have : a.cases = [] := by grind [List.length_eq_zero_iff]
  rw [this] at hb; cases hb
section
variable {P : Program} {c : Ctx} {s : St} {Q : Exit → St → Prop}
theorem W_tellT {code : Code} {u j : Nat} {x : T} {cells : List D} {p : T → Prop} (hM : lookM s.M u = some (.box cells)) (hj : cells[j]? = some (.t x)) (h : ∀ {w : Go.World} {F : Nat → Prop} {v}, RelL w F [v] [x] → ∃ y, p y ∧ RelL w F [v] [y])
  (k : ∀ y, p y → W P c code ⟨s.fr, (u, .box (cells.set j (.t y))) :: s.M⟩ Q) : W P c code s Q := by
 rintro a w ⟨F, β, fb, mb, ow, hi⟩
 have hm := hi.mem u
 rw [hM] at hm
 obtain ⟨b, arr, e, bs, h1, h2, h3, h4, h5⟩ := hm
 have key : ∀ {vs : List Value} {ds : List D} {bs : List Nat} {j : Nat}, RelD w F β vs ds bs → vs.all (·.oneCell') = true → ds[j]? = some (.t x) → ∃ y, p y ∧ RelD w F β vs (ds.set j (.t y)) bs := by
  intro vs
  induction vs with
  | nil =>
   intro ds bs j hr _ hj
   have := hr.length
   cases ds with
   | nil => simp at hj
   | cons _ _ => simp at this
  | cons v vs ih =>
   intro ds bs j hr ho hj
   cases ds with
   | nil => simp at hj
   | cons d ds =>
    obtain ⟨b1, b2, g1, g2, rfl⟩ := hr.cons
    rw [List.all_cons, Bool.and_eq_true] at ho
    cases j with
    | zero =>
     simp at hj
     subst hj
     cases g1 with
     | t q1 q2 =>
      cases q2
      obtain ⟨y, hy1, hy2⟩ := h q1
      exact ⟨y, hy1, RelD.cons' (.t hy2 .done) g2⟩
     | tagg q1 q2 => simp [Value.oneCell'] at ho
    | succ j =>
     obtain ⟨y, hy1, hy2⟩ := ih g2 ho.2 (by simpa using hj)
     exact ⟨y, hy1, RelD.cons' g1 hy2⟩
 obtain ⟨y, hy1, hy2⟩ := key h3 h4 hj
 refine k y hy1 a w ⟨F, β, fb, mb, ow, { hi with mem := fun i => ?_ }⟩
 simp only [lookM]
 by_cases hid : u = i
 ·subst hid
  rw [if_pos rfl]
  exact ⟨b, arr, e, bs, by rw [List.length_set]; exact h1, h2, hy2, h4, h5⟩
 ·rw [if_neg hid]; exact hi.mem i
end
theorem doW_acts (w : World) (mv : List Int) : (doW w mv).tasks.map Task.acts = w.tasks.map Task.acts := by
 have a0 : ∀ (l : List Task) (i : Nat) (t u : Task), l[i]? = some u → t.acts = u.acts → (l.set i t).map Task.acts = l.map Task.acts := by
  intro l i t u h1 h2
  rw [List.map_set, h2]
  exact set_same (by rw [List.getElem?_map, h1]; rfl)
 have a1 : ∀ (w : World) (i : Int) (t : Task), t.acts = (tk w i).acts → (setT w i t).tasks.map Task.acts = w.tasks.map Task.acts := by
  intro w i t h
  show (w.tasks.set i.toNat t).map Task.acts = _
  by_cases h1 : i.toNat < w.tasks.length
  ·refine a0 _ _ _ _ (List.getElem?_eq_getElem h1) ?_
   rw [h]; unfold tk at0; rw [List.getElem?_eq_getElem h1]; rfl
  ·rw [List.set_eq_of_length_le (by omega)]
 have a2 : ∀ (w : World) (i : Int), (advW w i).tasks.map Task.acts = w.tasks.map Task.acts := fun w i => a1 w i _ rfl
 unfold doW
 split
 ·rw [a2]
 ·split
  ·exact a1 _ _ _ rfl
  ·split
   ·rw [a2]
   ·split
    ·rw [a2, a2]; exact a1 _ _ _ rfl
    ·split
     ·rw [a2]
     ·split
      ·rw [a2]; exact a1 _ _ _ rfl
      ·rw [a2]; exact a1 _ _ _ rfl
open Go.Eng
theorem l1SameW_fun (a b : List Int) (ha : a.length ≤ 1073741824) (hb : b.length ≤ 1073741824) : Fun Try.prog 107 [.t (T.ints a), .t (T.ints b)] (tupD [.t (.bool (decide (a = b)))]) := by
 refine Fun.begin tys Try.func107 Z Z (N := 26) [(0, .t (T.ints a)), (1, .t (T.ints b))] Z Z (fun w0 G F0 => ?_)
 refine sQ (rG (eZ Z (oN (tN (sQ (sQ (rG (eZ Z (evE ?_)))))))))
 refine eZ Z (evE ?_)
 refine eZ Z (oN (tN ?_))
 refine W_cond Z (fun h1 => ?_) (fun h1 => ?_)
 ·
  simp only [HS] at h1
  refine sQ (rG (eZ Z (oN (tN (rT (tR (eR ?_)))))))
  ·first
   | (rw [show decide (a = b) = false from decide_eq_false (fun e => by subst e; simp_all)]; done)
 simp only [HS] at h1
 refine W_skip (tN (sQ (sQ (rG (eZ Z (evE ?_))))))
 refine eZ Z (kZ [0,1,4,12,13] Z (oN (tN (W_block ?_))))
 refine lK (α := Int) [0, 1, 12] [] (fun x => [(13, .t (.int x))]) (fun x => []) (fun x => 0 ≤ x ∧ x ≤ a.length ∧ a.take x.toNat = b.take x.toNat) (fun x => Int.toNat (a.length - x)) 0 ?_ (fun k hx => ?_)
 ·exact ⟨by omega, by omega, rfl⟩
 obtain ⟨hk0, hk1, hk2⟩ := hx
 refine nY Z (sQ (rG (eZ Z (oN (tN (sQ ?_))))))
 refine W_cond Z (fun h2 => ?_) (fun h2 => ?_)
 ·
  simp only [HS] at h2
  refine W_skip (tN (sQ (W_block (sQ (rG (eK 2 Z (oN (tN (sQ (W_regionD mixed (by kernel_rfl) (evQ ?_)))))))))))
  refine evQ ?_
  refine QL_idxT tys Z Z (lt_of Z) Z Z Z Z Z Z Z (by omega) _ (getT _ _ (by omega) (by omega)) (QL_norm Z (evQ ?_))
  refine evQ ?_
  refine evQ ?_
  refine QL_idxT tys Z Z (lt_of Z) Z Z Z Z Z Z Z (by omega) _ (getT _ _ (by omega) (by omega)) (evQ ?_)
  refine evQ ?_
  refine QL_norm Z (QL_nil (tN ?_))
  refine W_cond Z (fun h3 => ?_) (fun h3 => ?_)
  ·
   simp only [HS] at h3
   refine sQ (rG (eZ Z (oN (tN (rT (bR (tR (loopQ_r (bR (tR (eR ?_)))))))))))
   ·first
    | (rw [show decide (a = b) = false from decide_eq_false (fun e => by subst e; simp_all)]; done)
  simp only [HS] at h3
  refine W_skip (bN (tN (rG (evI ?_))))
  refine eZ Z (oN ?_)
  refine lQ _ ?_ ?_
  ·skip
   exact ⟨by omega, by omega, (take_eq_at hk0 (by omega) (by omega)).2 ⟨hk2, by simp_all⟩⟩
  ·(show Int.toNat _ < Int.toNat _); omega
 simp only [HS] at h2
 refine W_exit (tE (loopQ_e (inBlk_y (tN (sQ (rG (eZ Z (oN (tN (rT (eR ?_)))))))))))
 ·first
  | (rw [show decide (a = b) = true from decide_eq_true (by rw [List.take_of_length_le (by omega), List.take_of_length_le (by omega)] at hk2; exact hk2)]; done)
theorem any_at' {l : List (List Int)} {mv : List Int} {k : Int} (h0 : 0 ≤ k) (h1 : k < l.length) (h : mv = l[k.toNat]'(by omega)) : hasMv l mv = true := by
 unfold hasMv
 rw [List.any_eq_true]
 exact ⟨_, List.getElem_mem (show k.toNat < l.length by omega), by simp [h]⟩
theorem l15Has_fun (l : List (List Int)) (mv : List Int) (hl : l.length ≤ 1073741824) (hm : mv.length ≤ 1073741824) (hx : ∀ x, x ∈ l → x.length ≤ 1073741824) : Fun Try.prog 70 [.t (intss l), .t (T.ints mv)] (tupD [.t (.bool (hasMv l mv))]) := by
 refine Fun.begin tys Try.func70 Z Z (N := 17) [(0, .t (intss l)), (1, .t (T.ints mv))] Z Z (fun w0 G F0 => ?_)
 refine sQ (rG (eZ Z (oN (tN (sQ (sQ (rG (eZ Z (evE ?_)))))))))
 refine eZ Z (oN (tN (W_block ?_)))
 refine lK (α := Int) [0, 1, 7, 8] [] (fun x => [(9, .t (.int x))]) (fun x => []) (fun x => 0 ≤ x ∧ x ≤ l.length ∧ hasMv (l.take x.toNat) mv = false) (fun x => Int.toNat (l.length - x)) 0 ?_ (fun k hx => ?_)
 ·exact ⟨by omega, by omega, rfl⟩
 obtain ⟨hk0, hk1, hk2⟩ := hx
 refine nY Z (sQ (rG (eZ Z (oN (tN (sQ ?_))))))
 refine W_cond Z (fun h1 => ?_) (fun h1 => ?_)
 ·
  simp only [HS] at h1
  refine W_skip (tN (sQ (W_block (sQ (rG (WO_idxT tys Z Z (lt_of Z) Z Z Z Z Z Z Z (by omega) _ (getT _ _ (by omega) (by omega)) (eK 2 Z (oN (tN (sQ (rG (eK 2 Z (callB ?_)))))))))))))
  refine ⟨_, l1SameW_fun mv (l[k.toNat]'(by omega)) hm (hx _ (List.getElem_mem _)), rfl, ?_⟩
  refine oN (tN ?_)
  refine W_cond Z (fun h2 => ?_) (fun h2 => ?_)
  ·
   simp only [HS] at h2
   refine sQ (kY [0,1,6,7,8,9,10,11,12,13,14,15] Z (rG (eZ Z (oN (tN (rT (bR (tR (loopQ_r (bR (tR (eR ?_))))))))))))
   ·first
    | (rw [any_at' hk0 (by omega) (by simp_all)]; done)
  simp only [HS] at h2
  refine W_skip (bN (tN (kY [0,1,6,7,8,9,10,11,12,13,14,15] Z (rG (evI ?_)))))
  refine eZ Z (oN ?_)
  refine lQ _ ?_ ?_
  ·skip
   refine ⟨by omega, by omega, ?_⟩; rw [take_at hk0 (by omega)]; unfold hasMv at hk2 ⊢; rw [List.any_append, hk2]; simp; intro e; simp_all
  ·(show Int.toNat _ < Int.toNat _); omega
 simp only [HS] at h1
 refine W_exit (tE (loopQ_e (inBlk_y (tN (sQ (rG (eZ Z (oN (tN (rT (eR ?_)))))))))))
 ·first
  | (rw [take_end (by omega)] at hk2; rw [hk2]; done)
abbrev World.rd (w : World) : D := .agg [.t (T.ints w.room), .t (intss w.held), .t (T.bools w.shut), .t (T.Tasks w.tasks), .t (T.ints w.trace)]
theorem dmr_yes {w : World} {mv : List Int} (hg : goodWorld w = true) (hh : hasMv (movesOf w) mv = true) (hd : doOk w mv = true) : [(doW w mv).rd, D.t (T.v (.bool true))] = [(dmR w mv).rd, D.t (T.bool (dmOk w mv))] := by
 have h : dmOk w mv = true := by simp [dmOk, hg, hh, hd]
 rw [dmR, h]; rfl
theorem dmr_no {w : World} {mv : List Int} (h : dmOk w mv = false) : [world0.rd, D.t (T.v (.bool false))] = [(dmR w mv).rd, D.t (T.bool (dmOk w mv))] := by
 rw [dmR, h]; rfl
theorem specDo_fun (w : World) (mv : List Int) (hw : w.ok 1048576) (hmv : mv.length ≤ 1073741824) : Fun Try.prog 34 [.t w.tt, .t (T.ints mv)] (tupD [(dmR w mv).rd, .t (.bool (dmOk w mv))]) := by
 refine Fun.begin tys Try.func34 Z Z (N := 29) [(0, .t w.tt), (1, .t (T.ints mv))] Z Z (fun w0 G F0 => ?_)
 refine sQ (rG (WO_box Z Z (lt_of Z) Z Z (nZ Z (WO_alloc tys Z Z (lt_of Z) Z Z Z (nZ Z (eZ Z (oN (tN (sQ (sQ (rG (eZ Z ?_))))))))))))
 try refine WO_le (Le.freeze (u := 8) rfl) ?_
 refine nZ Z (callB ?_)
 refine ⟨_, specGoodWorld_fun w hw, rfl, ?_⟩
 refine eK 2 Z ?_
 refine WO_guard Z Z Z Z (lt_of Z) (fun h1 => ?_) (fun h1 => ?_)
 rotate_left
 ·
  simp only [HS] at h1
  refine gM Z (gM Z (kZ [1,2,4,5,11,13,14] Z (gM Z (gM Z (eZ Z (oN (tN (W_condT Z (sQ (rG (WO_struct tys Z Z (lt_of Z) Z Z Z (by kernel_rfl) Z Z Z Z Z Z (sT Z (nZ Z (eZ Z (oN ?_)))))))))))))))
  refine tN ?_
  (first | (refine W_tellT (u := 4) (j := 3) (p := fun y => y = T.Tasks (doW w mv).tasks) rfl rfl (fun h => ⟨_, rfl, relTaskL (by rw [doW_acts]; exact hx) h⟩) (fun y hy => ?_); subst hy; refine W_norm rfl ?_) | (refine W_le (Le.nilBox (u := 4) (j := 0) 1 rfl rfl) ?_; refine W_norm rfl ?_; refine W_le (Le.nilBox (u := 4) (j := 1) 1 rfl rfl) ?_; refine W_norm rfl ?_; refine W_le (Le.nilBox (u := 4) (j := 2) 1 rfl rfl) ?_; refine W_norm rfl ?_; refine W_le (Le.nilBox (u := 4) (j := 3) 4 rfl rfl) ?_; refine W_norm rfl ?_; refine W_le (Le.nilBox (u := 4) (j := 4) 1 rfl rfl) ?_; refine W_norm rfl ?_; refine W_le (Le.freezeB (u := 4) rfl rfl) ?_; refine W_norm rfl ?_))
  refine rT (tR (eR ?_))
  ·first
   | exact dmr_no (by unfold dmOk; first | (simp_all; done) | grind)
 simp only [HS] at h1
 have hg : goodWorld w = true := by simp_all
 have hlf := movesOf_four (good_of hg)
 refine eZ Z ?_
 try refine WO_le (Le.freeze (u := 12) rfl) ?_
 refine nZ Z (gY Z (callB ?_))
 refine ⟨_, l15Moves_fun w (good_of hg), rfl, ?_⟩
 refine WO_le (Le.adoptE (u := 13) 13 Z (by first | exact lenN | exact Z)) ?_
 refine nZ Z (kZ [1,2,4,5,11,13] Z (gY Z (eZ Z (gY Z (callB ?_)))))
 refine ⟨_, l15Has_fun (movesOf w) mv (by have := hlf.1; omega) hmv (fun x hx => by have := hlf.2 x hx; omega), rfl, ?_⟩
 refine gY Z (eK 2 Z (oN (tN ?_)))
 refine W_cond Z (fun h2 => ?_) (fun h2 => ?_)
 ·
  simp only [HS] at h2
  refine sQ (rG (WO_struct tys Z Z (lt_of Z) Z Z Z (by kernel_rfl) Z Z Z Z Z Z (sT Z (nZ Z (eZ Z (oN (tN ?_)))))))
  (first | (refine W_tellT (u := 4) (j := 3) (p := fun y => y = T.Tasks (doW w mv).tasks) rfl rfl (fun h => ⟨_, rfl, relTaskL (by rw [doW_acts]; exact hx) h⟩) (fun y hy => ?_); subst hy; refine W_norm rfl ?_) | (refine W_le (Le.nilBox (u := 4) (j := 0) 1 rfl rfl) ?_; refine W_norm rfl ?_; refine W_le (Le.nilBox (u := 4) (j := 1) 1 rfl rfl) ?_; refine W_norm rfl ?_; refine W_le (Le.nilBox (u := 4) (j := 2) 1 rfl rfl) ?_; refine W_norm rfl ?_; refine W_le (Le.nilBox (u := 4) (j := 3) 4 rfl rfl) ?_; refine W_norm rfl ?_; refine W_le (Le.nilBox (u := 4) (j := 4) 1 rfl rfl) ?_; refine W_norm rfl ?_; refine W_le (Le.freezeB (u := 4) rfl rfl) ?_; refine W_norm rfl ?_))
  refine rT (tR (eR ?_))
  ·first
   | exact dmr_no (by unfold dmOk; first | (simp_all; done) | grind)
 simp only [HS] at h2
 refine W_skip (tN (sQ ?_))
 have hhas : hasMv (movesOf w) mv = true := by simp_all
 have hm := hasMv_ok hhas
 refine nY Z ?_
 refine W_tellT (u := 2) (j := 3) (p := fun y => ∃ xs, All2 TActs xs (w.tasks.map Task.acts) ∧ y = .list 4 ((xs.zip w.tasks).map ttT)) rfl rfl (fun h => by obtain ⟨xs, h1, h2⟩ := tellTaskL (flat_good hg) h; exact ⟨_, ⟨xs, h1, rfl⟩, h2⟩) (fun y hy => ?_)
 obtain ⟨xs, hx, rfl⟩ := hy
 refine nY Z (rG (eZ Z ?_))
 try refine WO_le (Le.freeze (u := 20) rfl) ?_
 refine nZ Z (eZ Z (WO_callF Z Z (lt_of Z) Z Z Z Z Z (l15Do_fun w xs mv hg hm hw hx) Z (eZ Z (WO_extract Z Z (lt_of Z) Z Z Z Z ?_))))
 first | refine WO_le (Le.adoptE (u := 23) 23 rfl (by first | exact lenN | exact rfl)) ?_ | skip
 refine nZ Z (kZ [4,5,19,23] Z (WO_evF tys Z Z (lt_of Z) (d := .t _) Z (nZ Z (WO_alloc tys Z Z (lt_of Z) Z Z Z (nZ Z (sT Z (nZ Z (eZ Z (oN (tN (sQ (sQ (rG (eK 2 Z (oN ?_)))))))))))))))
 refine tN ?_
 refine W_cond Z (fun h3 => ?_) (fun h3 => ?_)
 ·
  simp only [HS] at h3
  refine sQ (rG (WO_struct tys Z Z (lt_of Z) Z Z Z (by kernel_rfl) Z Z Z Z Z Z (sT Z (nZ Z (eZ Z (kZ [4,5,6] Z (oN (tN ?_))))))))
  (first | (refine W_tellT (u := 4) (j := 3) (p := fun y => y = T.Tasks (doW w mv).tasks) rfl rfl (fun h => ⟨_, rfl, relTaskL (by rw [doW_acts]; exact hx) h⟩) (fun y hy => ?_); subst hy; refine W_norm rfl ?_) | (refine W_le (Le.nilBox (u := 4) (j := 0) 1 rfl rfl) ?_; refine W_norm rfl ?_; refine W_le (Le.nilBox (u := 4) (j := 1) 1 rfl rfl) ?_; refine W_norm rfl ?_; refine W_le (Le.nilBox (u := 4) (j := 2) 1 rfl rfl) ?_; refine W_norm rfl ?_; refine W_le (Le.nilBox (u := 4) (j := 3) 4 rfl rfl) ?_; refine W_norm rfl ?_; refine W_le (Le.nilBox (u := 4) (j := 4) 1 rfl rfl) ?_; refine W_norm rfl ?_; refine W_le (Le.freezeB (u := 4) rfl rfl) ?_; refine W_norm rfl ?_))
  refine rT (tR (eR ?_))
  ·first
   | exact dmr_no (by unfold dmOk; rw [hg, hhas]; simp_all)
 simp only [HS] at h3
 refine W_skip (tN (sQ (rG (eZ Z ?_))))
 try refine WO_le (Le.freeze (u := 28) rfl) ?_
 refine nZ Z (sT Z (nZ Z (eZ Z (kZ [4,5] Z (oN (tN ?_))))))
 (first | (refine W_tellT (u := 4) (j := 3) (p := fun y => y = T.Tasks (doW w mv).tasks) rfl rfl (fun h => ⟨_, rfl, relTaskL (by rw [doW_acts]; exact hx) h⟩) (fun y hy => ?_); subst hy; refine W_norm rfl ?_) | (refine W_le (Le.nilBox (u := 4) (j := 0) 1 rfl rfl) ?_; refine W_norm rfl ?_; refine W_le (Le.nilBox (u := 4) (j := 1) 1 rfl rfl) ?_; refine W_norm rfl ?_; refine W_le (Le.nilBox (u := 4) (j := 2) 1 rfl rfl) ?_; refine W_norm rfl ?_; refine W_le (Le.nilBox (u := 4) (j := 3) 4 rfl rfl) ?_; refine W_norm rfl ?_; refine W_le (Le.nilBox (u := 4) (j := 4) 1 rfl rfl) ?_; refine W_norm rfl ?_; refine W_le (Le.freezeB (u := 4) rfl rfl) ?_; refine W_norm rfl ?_))
 refine rT (eR ?_)
 ·first
  | exact dmr_yes hg hhas (by assumption)
end Go.Proofs.Ytbkamkmmljbedaa
