/- Walks and laws of the claim. -/
import Derived.Test.YtpgodgmgfhbngaaNo
set_option linter.unusedVariables false
set_option linter.unusedSimpArgs false
set_option maxRecDepth 10000
set_option maxHeartbeats 4000000
namespace Go.Proofs.Ytpgodgmgfhbngaa
open Go.Eng
open Go.Eng
def picksL (cd : List Int) : Nat → List Int → Cu → List Int × Cu
 | 0, l, c => (l, c)
 | k + 1, l, c => picksL cd k (l ++ [pickV cd 6 c]) (pickC cd 6 c)
def picks0 (cd : List Int) (c : Cu) : List Int × Cu := picksL cd (pickV cd 16 c).toNat [] (pickC cd 16 c)
def picksR (cd : List Int) (c : Cu) : List Int × Cu :=
 if 0 < (picks0 cd c).1.length then
  if pickV cd 40 (picks0 cd c).2 = 0 then ((picks0 cd c).1.set 0 (at0 0 [-1, 999, 1000] (pickV cd 3 (pickC cd 40 (picks0 cd c).2))), pickC cd 3 (pickC cd 40 (picks0 cd c).2))
  else ((picks0 cd c).1, pickC cd 40 (picks0 cd c).2)
 else picks0 cd c
theorem picksL_len {cd : List Int} : ∀ (k : Nat) (l : List Int) (c : Cu), (picksL cd k l c).1.length = l.length + k
 | 0, l, c => rfl
 | k + 1, l, c => by rw [picksL, picksL_len k]; simp; omega
theorem picksR_len {cd : List Int} {c : Cu} (hcd : okCd cd) (h0 : 0 ≤ c.1) : (picksR cd c).1.length ≤ 16 := by
 have hv := pickV_in (n := 16) (c := c) hcd h0
 have hv' := hv.2.1 (by omega)
 have e : (picks0 cd c).1.length ≤ 16 := by rw [picks0, picksL_len, List.length_nil]; omega
 unfold picksR
 repeat' split
 all_goals first | exact e | (simp only [List.length_set]; exact e)
theorem taskPicks_fun (cd : List Int) (c : Cu) (bw : Nat) (pv : Value) (hcd : okCd cd) (h0 : 0 ≤ c.1) (h1 : c.1 ≤ 2097152) : Proc Try.prog 31 [.t (.v (.pointer (some ⟨bw, 0, none⟩)))] ([pv]) ([T.bytes cd]) [.obox (.pointer (some ⟨bw, 0, none⟩)) (cuC pv c)] (.own (T.ints (picksR cd c).1)) [.obox (.pointer (some ⟨bw, 0, none⟩)) (cuC pv (picksR cd c).2)] := by
 have hc2 := pickC_at (cd := cd) (n := 16) (c := c)
 have hv2 := pickV_in (n := 16) (c := c) hcd (by omega)
 have hv2' := hv2.2.1 (by omega)
 refine Proc.intro tys Try.func31 Z Z (N := 29) [100] 99 ([(0, .t (.v (.pointer (some ⟨bw, 0, none⟩))))]) ([(100, .obox (.pointer (some ⟨bw, 0, none⟩)) (cuC pv c)), (99, .ro [pv] [T.bytes cd])]) Z Z Z Z (by decide) (by decide) Z (fun w0 G F0 => ?_)
 refine nY Z (sQ (rG (eZ Z (oN (tN (sQ (rG (eZ Z (WO_le (Le.nilOwn (u := 3) 1 Z) (nZ Z (WO_le (Le.adoptE (u := 3) 104 Z Z) (nZ Z (oN (tN (sQ ?_)))))))))))))))
 refine sQ (rG (eZ Z ?_))
 refine WO_callP (rid := 99) [100] Z Z (lt_of Z) Z Z (by repeat (first | exact ResP.done | refine ResP.pin0 1100 Z ?_ | refine ResP.t ?_ | refine ResP.nil 1 ?_ | refine ResP.nil' ?_ | refine ResP.own ?_ | refine ResP.sl Z Z (by first | omega | (simp; omega)) ?_ | refine ResP.aggT (by repeat (first | exact ResP.done | refine ResP.t ?_)) ?_)) Z (by repeat (first | exact trivial | refine ⟨rfl, rfl, ?_⟩)) (by decide) (pick_fun cd 16 c bw pv hcd h0 (by omega)) Z Z Z ?_
 refine nZ Z (eZ Z (oN (tN (W_block ?_))))
 refine lK (α := Int × List Int × List T × Nat × Cu) [0] [99] (fun x => [(4, .t (.int (x.1))), (3, .sl 104 0 (x.2.2.2.1))]) (fun x => [(100, .obox (.pointer (some ⟨bw, 0, none⟩)) (cuC pv (x.2.2.2.2))), (104, .L 1 (x.2.2.1))]) (fun x => 0 ≤ (x.1) ∧ (x.2.1).length + (x.1) ≤ 16 ∧ (x.2.2.2.1) = (x.2.2.1).length ∧ (x.2.2.1) = (x.2.1).map T.int ∧ picksL cd (x.1).toNat (x.2.1) (x.2.2.2.2) = picks0 cd c ∧ c.1 ≤ (x.2.2.2.2).1 ∧ (x.2.2.2.2).1 ≤ c.1 + 40 - 2 * (x.1)) (fun x => Int.toNat ((x.1))) (pickV cd 16 c, [], [], 0, pickC cd 16 c) ?_ (fun x hx => ?_)
 ·dsimp only
  exact ⟨by omega, by simp; omega, rfl, rfl, rfl, by omega, by omega⟩
 obtain ⟨k, rs, ys, n, c'⟩ := x
 obtain ⟨hk0, hk1, hn, hys, hre, hca, hcb⟩ := hx
 dsimp only at hk0 hk1 hn hys hre hca hcb ⊢
 refine nY Z (sQ (sQ (rG (eK 2 Z (oN (tN ?_))))))
 refine W_cond Z (fun h1 => ?_) (fun h1 => ?_)
 ·
  simp only [HS] at h1
  refine W_skip (tN (sQ (W_block ?_)))
  have hk4 := pickC_at (cd := cd) (n := 6) (c := c')
  refine rG (eK 2 Z ?_)
  refine WO_callP (rid := 99) [100] Z Z (lt_of Z) Z Z (by repeat (first | exact ResP.done | refine ResP.pin0 1100 Z ?_ | refine ResP.t ?_ | refine ResP.nil 1 ?_ | refine ResP.nil' ?_ | refine ResP.own ?_ | refine ResP.sl Z Z (by first | omega | (simp; omega)) ?_ | refine ResP.aggT (by repeat (first | exact ResP.done | refine ResP.t ?_)) ?_)) Z (by repeat (first | exact trivial | refine ⟨rfl, rfl, ?_⟩)) (by decide) (pick_fun cd 6 c' bw pv hcd (by omega) (by omega)) Z Z Z ?_
  refine nZ Z ?_
  refine WO_buildSlice tys [T.int (pickV cd 6 c')] Z Z (lt_of Z) Z Z Z Z Z (lt_of Z) (by repeat (first | exact PartsOk.nil' | refine PartsOk.cons' rfl (by repeat (first | exact AbsL.nil' | refine AbsL.v' ?_ | refine AbsL.own' ?_ | refine AbsL.none' ?_)) Z ?_)) (by first | exact List.nodup_nil | exact nodup1 _ | decide | exact nodupB_sound Z) Z (by decide) ?_
  refine nZ Z (WO_append tys Z Z (lt_of Z) Z Z Z Z Z (.own Z (by first | omega | (simp only [List.length_append]; omega))) Z (.own Z (by first | decide | omega)) (by decide) (by simp only [List.length_take, List.length_cons, List.length_nil]; rw [hys, List.length_map]; omega) (by decide) Z ?_)
  refine nZ Z (eZ Z (oN (bN (tN (kY [0,3,4,7,8,11,12,13,14,15] Z (rG (eZ Z (evI ?_))))))))
  refine eZ Z (oN ?_)
  refine lQ (_, rs ++ [pickV cd 6 c'], _, _, _) ?_ ?_
  ·dsimp only
   subst hn
   have hk5 : k.toNat = (k - 1).toNat + 1 := by omega
   rw [hk5, picksL] at hre
   refine ⟨by omega, by simp; omega, by simp, ?_, hre, by omega, by omega⟩
   rw [List.take_length, hys, List.map_append]
   rfl
  ·(show Int.toNat _ < Int.toNat _); omega
 simp only [HS] at h1
 refine W_exit (tE (loopQ_e (inBlk_y (tN (sQ (sQ ?_))))))
 have hk6 : k.toNat = 0 := by omega
 rw [hk6, picksL] at hre
 subst hn hys
 rw [List.length_map]
 refine nY Z ?_
 have hkp := pickC_at (cd := cd) (n := 40) (c := c')
 refine rG (eZ Z (evE ?_))
 refine eK 2 Z ?_
 refine WO_guard Z Z Z Z (lt_of Z) (fun h2 => ?_) (fun h2 => ?_)
 rotate_left
 ·
  simp only [HS] at h2
  refine gM Z (eZ Z (oN (tN (W_condF Z (W_skip (tN (sQ (kY [3] Z (rG (eK 2 Z (oN (tN (W_le (Le.gather (u := 2) (id := 104) Z Z (by first | (simp; done) | (simp; omega))) ?_)))))))))))))
  refine nY Z (rT ?_)
  refine EndsP_of (ks := [_]) (.inr Z) (ret_okF Z) (by decide) Z (noR_spec Z) (by repeat (first | exact trivial | refine ⟨rfl, rfl, ?_⟩)) ?_ ?_
  ·unfold picksR
   rw [← hre]
   dsimp only
   repeat' split
   all_goals first | (exfalso; omega) | rfl | (simp [List.take_of_length_le, T.ints, List.map_set]; done) | (simp [List.take_of_length_le, T.ints, List.map_set]; rfl)
  ·unfold picksR
   rw [← hre]
   dsimp only
   repeat' split
   all_goals first | (exfalso; omega) | rfl | (simp [List.take_of_length_le, T.ints, List.map_set]; done) | (simp [List.take_of_length_le, T.ints, List.map_set]; rfl)
 simp only [HS] at h2
 refine eZ Z (gY Z ?_)
 refine WO_callP (rid := 99) [100] Z Z (lt_of Z) Z Z (by repeat (first | exact ResP.done | refine ResP.pin0 1100 Z ?_ | refine ResP.t ?_ | refine ResP.nil 1 ?_ | refine ResP.nil' ?_ | refine ResP.own ?_ | refine ResP.sl Z Z (by first | omega | (simp; omega)) ?_ | refine ResP.aggT (by repeat (first | exact ResP.done | refine ResP.t ?_)) ?_)) Z (by repeat (first | exact trivial | refine ⟨rfl, rfl, ?_⟩)) (by decide) (one_fun cd 40 c' bw pv hcd (by omega) (by omega)) Z Z Z ?_
 refine nZ Z (eZ Z (kZ [0,3,22] Z (oN (tN ?_))))
 refine W_cond Z (fun h3 => ?_) (fun h3 => ?_)
 ·
  simp only [HS] at h3
  have hrs1 : 1 ≤ rs.length := by omega
  refine rG (eK 2 Z ?_)
  refine WO_buildSlice tys [T.int (-1), T.int 999, T.int 1000] Z Z (lt_of Z) Z Z Z Z Z (lt_of Z) (by repeat (first | exact PartsOk.nil' | refine PartsOk.cons' rfl (by repeat (first | exact AbsL.nil' | refine AbsL.v' ?_ | refine AbsL.own' ?_ | refine AbsL.none' ?_)) Z ?_)) (by first | exact List.nodup_nil | exact nodup1 _ | decide | exact nodupB_sound Z) Z (by decide) ?_
  refine nZ Z (WO_le (Le.gather (u := 25) (id := 25) Z Z (by first | (simp; done) | (simp; omega) | omega)) ?_)
  refine nZ Z ?_
  refine WO_callP (rid := 99) [100] Z Z (lt_of Z) Z Z (by repeat (first | exact ResP.done | refine ResP.pin0 1100 Z ?_ | refine ResP.t ?_ | refine ResP.nil 1 ?_ | refine ResP.nil' ?_ | refine ResP.own ?_ | refine ResP.sl Z Z (by first | omega | (simp; omega)) ?_ | refine ResP.aggT (by repeat (first | exact ResP.done | refine ResP.t ?_)) ?_)) Z (by repeat (first | exact trivial | refine ⟨rfl, rfl, ?_⟩)) (by decide) (among_fun cd [-1, 999, 1000] (pickC cd 40 c') bw pv hcd (by omega) (by omega) (by decide) (by decide)) Z Z Z ?_
  refine nZ Z (WO_idxS tys Z Z (lt_of Z) Z Z Z Z Z Z Z Z (by omega) (by omega) (WO_storeE tys (T.int (at0 0 [-1, 999, 1000] (pickV cd 3 (pickC cd 40 c')))) Z Z Z Z Z Z (Nat.zero_add _) (by rw [List.length_map]; exact hrs1) Z (AbsL.v' AbsL.nil') Z Z Z ?_))
  refine nZ Z (oN (tN (sQ (rG (eK 2 Z (oN (tN (W_le (Le.gather (u := 2) (id := 104) Z Z (by first | (simp; done) | (simp; omega))) ?_))))))))
  refine nY Z (rT ?_)
  refine EndsP_of (ks := [_]) (.inr Z) (ret_okF Z) (by decide) Z (noR_spec Z) (by repeat (first | exact trivial | refine ⟨rfl, rfl, ?_⟩)) ?_ ?_
  ·unfold picksR
   rw [← hre]
   dsimp only
   repeat' split
   all_goals first | (exfalso; omega) | rfl | (simp [List.take_of_length_le, T.ints, List.map_set]; done) | (simp [List.take_of_length_le, T.ints, List.map_set]; rfl)
  ·unfold picksR
   rw [← hre]
   dsimp only
   repeat' split
   all_goals first | (exfalso; omega) | rfl | (simp [List.take_of_length_le, T.ints, List.map_set]; done) | (simp [List.take_of_length_le, T.ints, List.map_set]; rfl)
 simp only [HS] at h3
 refine W_skip (tN (sQ (rG (eK 2 Z (oN (tN (W_le (Le.gather (u := 2) (id := 104) Z Z (by first | (simp; done) | (simp; omega))) ?_)))))))
 refine nY Z (rT ?_)
 refine EndsP_of (ks := [_]) (.inr Z) (ret_okF Z) (by decide) Z (noR_spec Z) (by repeat (first | exact trivial | refine ⟨rfl, rfl, ?_⟩)) ?_ ?_
 ·unfold picksR
  rw [← hre]
  dsimp only
  repeat' split
  all_goals first | (exfalso; omega) | rfl | (simp [List.take_of_length_le, T.ints, List.map_set]; done) | (simp [List.take_of_length_le, T.ints, List.map_set]; rfl)
 ·unfold picksR
  rw [← hre]
  dsimp only
  repeat' split
  all_goals first | (exfalso; omega) | rfl | (simp [List.take_of_length_le, T.ints, List.map_set]; done) | (simp [List.take_of_length_le, T.ints, List.map_set]; rfl)
open Go.Eng
abbrev cu0 : Cu := (0, 0)
theorem roomL_at {cd : List Int} : ∀ (k : Nat) (l : List Int) (c : Cu), c.1 ≤ (roomL cd k l c).2.1 ∧ (roomL cd k l c).2.1 ≤ c.1 + 2 * k
 | 0, l, c => by simp [roomL]
 | k + 1, l, c => by
  have h1 := pickC_at (cd := cd) (n := 4) (c := c)
  have h3 := roomL_at (cd := cd) k (l ++ [at0 0 [0, 0, 1, 2] (pickV cd 4 c)]) (pickC cd 4 c)
  rw [roomL]
  omega
theorem roomR_at {cd : List Int} {c : Cu} (hcd : okCd cd) (h0 : 0 ≤ c.1) : c.1 ≤ (roomR cd c).2.1 ∧ (roomR cd c).2.1 ≤ c.1 + 6 ∧ (roomR cd c).1.length ≤ 2 := by
 have h1 := pickC_at (cd := cd) (n := 2) (c := c)
 have hv := pickV_in (n := 2) (c := c) hcd h0
 have hv' := hv.2.1 (by omega)
 have h3 := roomL_at (cd := cd) (1 + pickV cd 2 c).toNat [] (pickC cd 2 c)
 rw [roomR, roomL_len, List.length_nil]
 omega
theorem lineL_at {cd : List Int} {chans : Int} (hcd : okCd cd) : ∀ (k : Nat) (l : List Act) (c : Cu), 0 ≤ c.1 → c.1 ≤ (lineL cd chans k l c).2.1 ∧ (lineL cd chans k l c).2.1 ≤ c.1 + 30 * k ∧ (lineL cd chans k l c).1.length = l.length + k ∧ ((∀ a, a ∈ l → okA3 a) → ∀ a, a ∈ (lineL cd chans k l c).1 → okA3 a)
 | 0, l, c, h0 => by simp [lineL]
 | k + 1, l, c, h0 => by
  have h1 := acA_at (cd := cd) (chans := chans) (c := c) hcd h0
  have h2 := acA_ok (cd := cd) (chans := chans) (c := c) hcd h0
  have h3 := lineL_at (cd := cd) (chans := chans) hcd k (l ++ [(acA cd chans c).1]) (acA cd chans c).2 (by omega)
  rw [lineL]
  rw [List.length_append, List.length_cons, List.length_nil] at h3
  refine ⟨by omega, by omega, by omega, fun hl => h3.2.2.2 fun a ha => ?_⟩
  rcases List.mem_append.1 ha with h | h
  ·exact hl a h
  ·rw [List.mem_singleton] at h; subst h; exact h2
theorem linesL_at {cd : List Int} {chans : Int} (hcd : okCd cd) : ∀ (k : Nat) (l : List (List Act)) (c : Cu), 0 ≤ c.1 → c.1 ≤ (linesL cd chans k l c).2.1 ∧ (linesL cd chans k l c).2.1 ≤ c.1 + 130 * k ∧ (linesL cd chans k l c).1.length = l.length + k ∧ ((∀ a, a ∈ l → a.length ≤ 4 ∧ ∀ b, b ∈ a → okA3 b) → ∀ a, a ∈ (linesL cd chans k l c).1 → a.length ≤ 4 ∧ ∀ b, b ∈ a → okA3 b)
 | 0, l, c, h0 => by simp [linesL]
 | k + 1, l, c, h0 => by
  have h1 := pickC_at (cd := cd) (n := 5) (c := c)
  have hv := pickV_in (n := 5) (c := c) hcd h0
  have hv' := hv.2.1 (by omega)
  have h2 := lineL_at (cd := cd) (chans := chans) hcd (pickV cd 5 c).toNat [] (pickC cd 5 c) (by omega)
  have h3 := linesL_at (cd := cd) (chans := chans) hcd k (l ++ [(lineL cd chans (pickV cd 5 c).toNat [] (pickC cd 5 c)).1]) (lineL cd chans (pickV cd 5 c).toNat [] (pickC cd 5 c)).2 (by omega)
  rw [linesL]
  rw [List.length_append, List.length_cons, List.length_nil] at h3
  rw [List.length_nil] at h2
  refine ⟨by omega, by omega, by omega, fun hl => h3.2.2.2 fun a ha => ?_⟩
  rcases List.mem_append.1 ha with h | h
  ·exact hl a h
  ·rw [List.mem_singleton] at h; subst h; exact ⟨by omega, h2.2.2.2 (by simp)⟩
def okS (acts : List (List Act)) : Prop := acts.length ≤ 3 ∧ ∀ a, a ∈ acts → a.length ≤ 4 ∧ ∀ b, b ∈ a → okA3 b
theorem linesR_at {cd : List Int} {r : List Int × Cu} (hcd : okCd cd) (h0 : 0 ≤ r.2.1) : r.2.1 ≤ (linesR cd r).2.1 ∧ (linesR cd r).2.1 ≤ r.2.1 + 400 ∧ okS (linesR cd r).1 := by
 have h1 := pickC_at (cd := cd) (n := 2) (c := r.2)
 have hv := pickV_in (n := 2) (c := r.2) hcd h0
 have hv' := hv.2.1 (by omega)
 have h3 := linesL_at (cd := cd) (chans := r.1.length) hcd (2 + pickV cd 2 r.2).toNat [] (pickC cd 2 r.2) (by omega)
 rw [List.length_nil] at h3
 rw [linesR]
 exact ⟨by omega, by omega, by omega, h3.2.2.2 (by simp)⟩
theorem setChan_ok {v : Int} : ∀ {l : List Act}, (l.length ≤ 4 ∧ ∀ b, b ∈ l → okA3 b) → (setChan v l).length ≤ 4 ∧ ∀ b, b ∈ setChan v l → okA3 b
 | [], h => h
 | a :: l, h => by
  refine ⟨h.1, fun b hb => ?_⟩
  rcases List.mem_cons.1 hb with rfl | hb
  ·exact h.2 a (by simp)
  ·exact h.2 b (by simp [hb])
theorem setKind_ok {v : Int} : ∀ {l : List Act}, (l.length ≤ 4 ∧ ∀ b, b ∈ l → okA3 b) → (setKind v l).length ≤ 4 ∧ ∀ b, b ∈ setKind v l → okA3 b
 | [], h => h
 | a :: l, h => by
  refine ⟨h.1, fun b hb => ?_⟩
  rcases List.mem_cons.1 hb with rfl | hb
  ·exact h.2 a (by simp)
  ·exact h.2 b (by simp [hb])
theorem okS_set {acts : List (List Act)} {l : List Act} (h : okS acts) (hl : l.length ≤ 4 ∧ ∀ b, b ∈ l → okA3 b) : okS (acts.set 0 l) :=
 ⟨by rw [List.length_set]; exact h.1, fun a ha => by rcases List.mem_or_eq_of_mem_set ha with ha | rfl <;> first | exact h.2 a ha | exact hl⟩
theorem okS_at {acts : List (List Act)} (h : okS acts) : (at0 [] acts 0).length ≤ 4 ∧ ∀ b, b ∈ at0 [] acts 0 → okA3 b := by
 cases acts with
 | nil => exact ⟨Nat.zero_le _, fun b hb => by cases hb⟩
 | cons a l => exact h.2 a (by simp)
theorem sceneR_at {cd : List Int} {c : Cu} (hcd : okCd cd) (h0 : 0 ≤ c.1) : c.1 ≤ (sceneR cd c).2.1 ∧ (sceneR cd c).2.1 ≤ c.1 + 500 ∧ (sceneR cd c).1.1.length ≤ 2 ∧ okS (sceneR cd c).1.2 := by
 have h1 := roomR_at (c := c) hcd h0
 have h2 := linesR_at (cd := cd) (r := roomR cd c) hcd (by omega)
 have p1 := pickC_at (cd := cd) (n := 40) (c := (linesR cd (roomR cd c)).2)
 have p2 := pickC_at (cd := cd) (n := 2) (c := pickC cd 40 (linesR cd (roomR cd c)).2)
 have p3 := pickC_at (cd := cd) (n := 7) (c := pickC cd 40 (linesR cd (roomR cd c)).2)
 have p4 := pickC_at (cd := cd) (n := 3) (c := pickC cd 40 (linesR cd (roomR cd c)).2)
 rw [sceneR]
 unfold spoilR
 repeat' split
 ·exact ⟨by dsimp only; omega, by dsimp only; omega, h1.2.2, okS_set h2.2.2 (setChan_ok (okS_at h2.2.2))⟩
 ·exact ⟨by dsimp only; omega, by dsimp only; omega, h1.2.2, okS_set h2.2.2 (setKind_ok (okS_at h2.2.2))⟩
 ·exact ⟨by dsimp only; omega, by dsimp only; omega, by dsimp only; rw [List.length_set]; exact h1.2.2, h2.2.2⟩
 ·exact ⟨by dsimp only; omega, by dsimp only; omega, h1.2.2, h2.2.2⟩
 ·exact ⟨by dsimp only; omega, by dsimp only; omega, h1.2.2, h2.2.2⟩
theorem drawNew_fun (cd : List Int) (hcd : okCd cd) : Fun Try.prog 12 [.t (T.bytes cd)] (tupD [.own (T.ints (sceneR cd cu0).1.1), .own (T.ActLs (sceneR cd cu0).1.2)]) := by
 refine Fun.begin tys Try.func12 Z Z (N := 12) [(0, .t (T.bytes cd))] Z Z (fun w0 G F0 => ?_)
 refine sQ (rG (eK 2 Z (oN (tN (sQ (rG (eZ Z ?_)))))))
 refine WO_tell (u := 5) 99 Z (fun pv => ?_)
 refine nZ Z (WO_struct tys Z Z (lt_of Z) Z Z Z (by kernel_rfl) Z Z Z Z Z Z (WO_box Z Z (lt_of Z) Z Z (nZ Z (eZ Z (oN (tN (sQ (rG (eZ Z ?_)))))))))
 refine WO_pin (u := 7) (pid := 1007) Z Z (fun bw => ?_)
 refine nZ Z (WO_le (Le.close (u := 7) 1007 Z Z Z) (nZ Z ?_))
 refine WO_callP (rid := 99) [7] Z Z (lt_of Z) Z Z (by repeat (first | exact ResP.done | refine ResP.pin0 1007 Z ?_ | refine ResP.t ?_ | refine ResP.nil 1 ?_ | refine ResP.nil' ?_ | refine ResP.own ?_ | refine ResP.sl Z Z (by first | omega | (simp; omega)) ?_ | refine ResP.aggT (by repeat (first | exact ResP.done | refine ResP.t ?_)) ?_)) Z (by repeat (first | exact trivial | refine ⟨rfl, rfl, ?_⟩)) (by decide) (scene_fun cd cu0 bw pv hcd (by decide) (by decide)) Z Z Z ?_
 refine nZ Z (WO_le (Le.open (u := 7) 1007 Z Z Z Z) (nZ Z (WO_extract Z Z (lt_of Z) Z Z Z Z ?_)))
 first | refine WO_le (Le.adoptE (u := 10) 10 rfl (by first | exact lenN | exact rfl)) ?_ | skip
 refine nZ Z (kZ [2,3,9,10] Z (WO_extract Z Z (lt_of Z) Z Z Z Z ?_))
 first | refine WO_le (Le.adoptE (u := 11) 11 rfl (by first | exact lenN | exact rfl)) ?_ | skip
 refine nZ Z (eK 2 Z (oN (tN (W_le (Le.gather (u := 2) (id := 10) Z Z (by first | (simp; done) | (simp; omega))) ?_))))
 refine nY Z (W_le (Le.gather (u := 3) (id := 11) Z Z (by first | (simp; done) | (simp; omega))) ?_)
 refine nY Z (rT (eR ?_))
 ·rw [List.take_of_length_le (by simp), List.take_of_length_le (by simp)]; rfl
theorem drawPlay_fun (cd : List Int) (hcd : okCd cd) : Fun Try.prog 6 [.t (T.bytes cd)] (tupD [.own (T.ints (sceneR cd cu0).1.1), .own (T.ActLs (sceneR cd cu0).1.2), .own (T.ints (picksR cd (sceneR cd cu0).2).1)]) := by
 have hsc := sceneR_at (c := cu0) hcd (by decide)
 have hz0 : cu0.1 = 0 := rfl
 rw [hz0] at hsc
 refine Fun.begin tys Try.func6 Z Z (N := 20) [(0, .t (T.bytes cd))] Z Z (fun w0 G F0 => ?_)
 refine sQ (rG (eK 3 Z (oN (tN (sQ (rG (eZ Z ?_)))))))
 refine WO_tell (u := 8) 99 Z (fun pv => ?_)
 refine nZ Z (WO_struct tys Z Z (lt_of Z) Z Z Z (by kernel_rfl) Z Z Z Z Z Z (WO_box Z Z (lt_of Z) Z Z (nZ Z (eZ Z (oN (tN (sQ (kY [2,3,4,5] Z (rG (eZ Z ?_))))))))))
 refine WO_pin (u := 10) (pid := 1010) Z Z (fun bw => ?_)
 refine nZ Z (WO_le (Le.close (u := 10) 1010 Z Z Z) (nZ Z ?_))
 refine WO_callP (rid := 99) [10] Z Z (lt_of Z) Z Z (by repeat (first | exact ResP.done | refine ResP.pin0 1010 Z ?_ | refine ResP.t ?_ | refine ResP.nil 1 ?_ | refine ResP.nil' ?_ | refine ResP.own ?_ | refine ResP.sl Z Z (by first | omega | (simp; omega)) ?_ | refine ResP.aggT (by repeat (first | exact ResP.done | refine ResP.t ?_)) ?_)) Z (by repeat (first | exact trivial | refine ⟨rfl, rfl, ?_⟩)) (by decide) (scene_fun cd cu0 bw pv hcd (by decide) (by decide)) Z Z Z ?_
 refine nZ Z (WO_le (Le.open (u := 10) 1010 Z Z Z Z) (nZ Z (WO_moveAll Z Z (lt_of Z) (.inr Z) Z Z (WO_extract Z Z (lt_of Z) Z Z Z Z ?_))))
 first | refine WO_le (Le.adoptE (u := 14) 14 rfl (by first | exact lenN | exact rfl)) ?_ | skip
 refine nZ Z (WO_extract Z Z (lt_of Z) Z Z Z Z ?_)
 first | refine WO_le (Le.adoptE (u := 15) 15 rfl (by first | exact lenN | exact rfl)) ?_ | skip
 refine nZ Z (eK 2 Z (oN (tN (sQ (kY [2,3,4,5,6,7] Z (rG (eK 3 Z (WO_le (Le.close (u := 10) 1010 Z Z Z) (nZ Z ?_)))))))))
 refine WO_callP (rid := 99) [10] Z Z (lt_of Z) Z Z (by repeat (first | exact ResP.done | refine ResP.pin0 1010 Z ?_ | refine ResP.t ?_ | refine ResP.nil 1 ?_ | refine ResP.nil' ?_ | refine ResP.own ?_ | refine ResP.sl Z Z (by first | omega | (simp; omega)) ?_ | refine ResP.aggT (by repeat (first | exact ResP.done | refine ResP.t ?_)) ?_)) Z (by repeat (first | exact trivial | refine ⟨rfl, rfl, ?_⟩)) (by decide) (taskPicks_fun cd (sceneR cd cu0).2 bw pv hcd hsc.1 (by omega)) Z Z Z ?_
 refine nZ Z (WO_le (Le.open (u := 10) 1010 Z Z Z Z) (nZ Z (eK 2 Z (WO_le (Le.adoptE (u := 19) 119 Z Z) (nZ Z (eZ Z (oN (tN (W_le (Le.gather (u := 2) (id := 14) Z Z (by first | (simp; done) | (simp; omega))) ?_)))))))))
 refine nY Z (W_le (Le.gather (u := 3) (id := 15) Z Z (by first | (simp; done) | (simp; omega))) ?_)
 refine nY Z (W_le (Le.gather (u := 4) (id := 119) Z Z (by first | (simp; done) | (simp; omega))) ?_)
 refine nY Z (rT (eR ?_))
 ·rw [List.take_of_length_le (by simp), List.take_of_length_le (by simp), List.take_of_length_le (by simp)]; rfl
open Go.Eng
theorem big_fun (a b : List Int) (ha : a.length ≤ 9223372036854775807) (hb : b.length ≤ 9223372036854775807) : Fun Try.prog 5 [.t (T.bytes a), .t (T.bytes b)] (tupD [.t (.bool (decide ((1048576 : Int) < a.length) || decide ((1048576 : Int) - a.length < b.length)))]) := by
 refine Fun.begin tys Try.func5 Z Z (N := 16) [(0, .t (T.bytes a)), (1, .t (T.bytes b))] Z Z (fun w0 G F0 => ?_)
 refine sQ (rG (eZ Z (oN (tN (sQ (rG (eZ Z (evE ?_))))))))
 refine eK 2 Z ?_
 refine WO_guard Z Z Z Z (lt_of Z) (fun h1 => ?_) (fun h1 => ?_)
 rotate_left
 ·
  simp only [HS] at h1
  refine gM Z (gM Z (gM Z (gM Z (kZ [4,8,10,13] Z (gM Z (eK 2 Z (oN (tN (rT (eR ?_))))))))))
  ·simp_all
   done
 simp only [HS] at h1
 refine eZ Z (gY Z (evE ?_))
 refine gY Z (eZ Z (gY Z (evE ?_)))
 refine kZ [4,8,10,12] Z (gY Z (evI ?_))
 refine gY Z (eK 3 Z (oN (tN (rT (eR ?_)))))
 ·simp_all
  omega
theorem sameInts_fun (a : List Int) (ha : a.length ≤ 1073741824) : Fun Try.prog 41 [.t (T.ints a), .t (T.ints a)] (tupD [.t (.bool true)]) := by
 refine Fun.begin tys Try.func41 Z Z (N := 26) [(0, .t (T.ints a)), (1, .t (T.ints a))] Z Z (fun w0 G F0 => ?_)
 refine sQ (rG (eZ Z (oN (tN (sQ (sQ (rG (eZ Z (evE ?_)))))))))
 refine eZ Z (evE ?_)
 refine eZ Z (WO_le (Le.known (t := 10) false Z (by simp)) ?_)
 refine oN (tN (W_condF Z (W_skip (tN (sQ (sQ (rG (eZ Z (evE ?_)))))))))
 refine eZ Z (kZ [0,1,4,12,13] Z (oN (tN (W_block ?_))))
 refine lK (α := Int) [0, 1, 12] [] (fun x => [(13, .t (.int x))]) (fun x => []) (fun x => 0 ≤ x ∧ x ≤ a.length) (fun x => Int.toNat (a.length - x)) 0 ?_ (fun k hx => ?_)
 ·exact ⟨by omega, by omega⟩
 obtain ⟨hk0, hk1⟩ := hx
 refine nY Z (sQ (rG (eZ Z (oN (tN (sQ ?_))))))
 refine W_cond Z (fun h1 => ?_) (fun h1 => ?_)
 ·
  simp only [HS] at h1
  refine W_skip (tN (sQ (W_block (sQ (rG (eK 2 Z (oN (tN (sQ (W_regionD mixed (by kernel_rfl) (evQ ?_)))))))))))
  refine evQ ?_
  refine QL_idxT tys Z Z (lt_of Z) Z Z Z Z Z Z Z (by omega) _ (getT _ _ (by omega) (by omega)) (QL_norm Z (evQ ?_))
  refine evQ ?_
  refine evQ ?_
  refine QL_idxT tys Z Z (lt_of Z) Z Z Z Z Z Z Z (by omega) _ (getT _ _ (by omega) (by omega)) (evQ ?_)
  refine evQ ?_
  refine QL_known (v := false) (by simp) ?_
  refine QL_norm Z (QL_nil (tN (W_condF Z (W_skip (bN (tN (rG (evI ?_))))))))
  refine eZ Z (oN ?_)
  refine lQ _ ?_ ?_
  ·skip
   exact ⟨by omega, by omega⟩
  ·(show Int.toNat _ < Int.toNat _); omega
 simp only [HS] at h1
 refine W_exit (tE (loopQ_e (inBlk_y (tN (sQ (rG (eZ Z (oN (tN (rT (eR ?_)))))))))))
 ·rfl
theorem sameBools_fun (a : List Bool) (ha : a.length ≤ 1073741824) : Fun Try.prog 42 [.t (T.bools a), .t (T.bools a)] (tupD [.t (.bool true)]) := by
 refine Fun.begin tys Try.func42 Z Z (N := 26) [(0, .t (T.bools a)), (1, .t (T.bools a))] Z Z (fun w0 G F0 => ?_)
 refine sQ (rG (eZ Z (oN (tN (sQ (sQ (rG (eZ Z (evE ?_)))))))))
 refine eZ Z (evE ?_)
 refine eZ Z (WO_le (Le.known (t := 10) false Z (by simp)) ?_)
 refine oN (tN (W_condF Z (W_skip (tN (sQ (sQ (rG (eZ Z (evE ?_)))))))))
 refine eZ Z (kZ [0,1,4,12,13] Z (oN (tN (W_block ?_))))
 refine lK (α := Int) [0, 1, 12] [] (fun x => [(13, .t (.int x))]) (fun x => []) (fun x => 0 ≤ x ∧ x ≤ a.length) (fun x => Int.toNat (a.length - x)) 0 ?_ (fun k hx => ?_)
 ·exact ⟨by omega, by omega⟩
 obtain ⟨hk0, hk1⟩ := hx
 refine nY Z (sQ (rG (eZ Z (oN (tN (sQ ?_))))))
 refine W_cond Z (fun h1 => ?_) (fun h1 => ?_)
 ·
  simp only [HS] at h1
  refine W_skip (tN (sQ (W_block (sQ (rG (eK 2 Z (oN (tN (sQ (W_regionD mixed (by kernel_rfl) (evQ ?_)))))))))))
  refine evQ ?_
  refine QL_idxT tys Z Z (lt_of Z) Z Z Z Z Z Z Z (by omega) _ (getT _ _ (by omega) (by omega)) (QL_norm Z (evQ ?_))
  refine evQ ?_
  refine evQ ?_
  refine QL_idxT tys Z Z (lt_of Z) Z Z Z Z Z Z Z (by omega) _ (getT _ _ (by omega) (by omega)) (evQ ?_)
  refine evQ ?_
  refine QL_known (v := false) (by simp) ?_
  refine QL_norm Z (QL_nil (tN (W_condF Z (W_skip (bN (tN (rG (evI ?_))))))))
  refine eZ Z (oN ?_)
  refine lQ _ ?_ ?_
  ·skip
   exact ⟨by omega, by omega⟩
  ·(show Int.toNat _ < Int.toNat _); omega
 simp only [HS] at h1
 refine W_exit (tE (loopQ_e (inBlk_y (tN (sQ (rG (eZ Z (oN (tN (rT (eR ?_)))))))))))
 ·rfl
theorem sameLists_fun (a : List (List Int)) (ha : a.length ≤ 1073741824) (hx : ∀ x, x ∈ a → x.length ≤ 1073741824) : Fun Try.prog 20 [.t (intss a), .t (intss a)] (tupD [.t (.bool true)]) := by
 refine Fun.begin tys Try.func20 Z Z (N := 27) [(0, .t (intss a)), (1, .t (intss a))] Z Z (fun w0 G F0 => ?_)
 refine sQ (rG (eZ Z (oN (tN (sQ (sQ (rG (eZ Z (evE ?_)))))))))
 refine eZ Z (evE ?_)
 refine eZ Z (WO_le (Le.known (t := 10) false Z (by simp)) ?_)
 refine oN (tN (W_condF Z (W_skip (tN (sQ (sQ (rG (eZ Z (evE ?_)))))))))
 refine eZ Z (kZ [0,1,4,12,13] Z (oN (tN (W_block ?_))))
 refine lK (α := Int) [0, 1, 12] [] (fun x => [(13, .t (.int x))]) (fun x => []) (fun x => 0 ≤ x ∧ x ≤ a.length) (fun x => Int.toNat (a.length - x)) 0 ?_ (fun k hx => ?_)
 ·exact ⟨by omega, by omega⟩
 obtain ⟨hk0, hk1⟩ := hx
 refine nY Z (sQ (rG (eZ Z (oN (tN (sQ ?_))))))
 refine W_cond Z (fun h1 => ?_) (fun h1 => ?_)
 ·
  simp only [HS] at h1
  refine W_skip (tN (sQ (W_block (sQ (rG (eK 2 Z (oN (tN (sQ (W_regionD mixed (by kernel_rfl) (evQ ?_)))))))))))
  refine evQ ?_
  refine QL_idxT tys Z Z (lt_of Z) Z Z Z Z Z Z Z (by omega) _ (getT _ _ (by omega) (by omega)) (QL_norm Z (evQ ?_))
  refine evQ ?_
  refine evQ ?_
  refine QL_idxT tys Z Z (lt_of Z) Z Z Z Z Z Z Z (by omega) _ (getT _ _ (by omega) (by omega)) (evQ ?_)
  refine callBQ ?_
  refine ⟨_, sameInts_fun _ (hx _ (List.getElem_mem _)), rfl, ?_⟩
  refine QL_norm Z (evQ ?_)
  refine QL_known (v := false) (by simp) ?_
  refine QL_nil (tN (W_condF Z (W_skip (bN (tN (rG (evI ?_)))))))
  refine eZ Z (oN ?_)
  refine lQ _ ?_ ?_
  ·skip
   exact ⟨by omega, by omega⟩
  ·(show Int.toNat _ < Int.toNat _); omega
 simp only [HS] at h1
 refine W_exit (tE (loopQ_e (inBlk_y (tN (sQ (rG (eZ Z (oN (tN (rT (eR ?_)))))))))))
 ·rfl
theorem sameActs_fun0 (a : List Act) (ha : a.length ≤ 1073741824) (hs : ∀ x, x ∈ a → Fun Try.prog 43 [.t (T.Acts x.cases), .t (T.Acts x.cases)] (.t (.bool true))) : Fun Try.prog 43 [.t (T.Acts a), .t (T.Acts a)] (tupD [.t (.bool true)]) := by
 refine Fun.begin tys Try.func43 Z Z (N := 68) [(0, .t (T.Acts a)), (1, .t (T.Acts a))] Z Z (fun w0 G F0 => ?_)
 refine sQ (rG (eZ Z (oN (tN (sQ (sQ (rG (eZ Z (evE ?_)))))))))
 refine eZ Z (evE ?_)
 refine eZ Z (WO_le (Le.known (t := 10) false Z (by simp)) ?_)
 refine oN (tN (W_condF Z (W_skip (tN (sQ (sQ (rG (eZ Z (evE ?_)))))))))
 refine eZ Z (kZ [0,1,4,12,13] Z (oN (tN (W_block ?_))))
 refine lK (α := Int) [0, 1, 12] [] (fun x => [(13, .t (.int x))]) (fun x => []) (fun x => 0 ≤ x ∧ x ≤ a.length) (fun x => Int.toNat (a.length - x)) 0 ?_ (fun k hx => ?_)
 ·exact ⟨by omega, by omega⟩
 obtain ⟨hk0, hk1⟩ := hx
 refine nY Z (sQ (rG (eZ Z (oN (tN (sQ ?_))))))
 refine W_cond Z (fun h1 => ?_) (fun h1 => ?_)
 ·
  simp only [HS] at h1
  refine W_skip (tN (sQ (W_block (sQ (rG (eK 2 Z (oN (tN (sQ (W_regionD mixed (by kernel_rfl) (evQ ?_)))))))))))
  refine evQ ?_
  refine QL_idxT tys Z Z (lt_of Z) Z Z Z Z Z Z Z (by omega) _ (getAct _ (by omega) (by omega)) (QL_norm Z (evQ ?_))
  refine evQ ?_
  refine evQ ?_
  refine evQ ?_
  refine QL_idxT tys Z Z (lt_of Z) Z Z Z Z Z Z Z (by omega) _ (getAct _ (by omega) (by omega)) (evQ ?_)
  refine QL_norm Z (evQ ?_)
  refine evQ ?_
  refine QL_known (v := false) (by simp) ?_
  refine evQ ?_
  refine QL_guardY Z Z Z Z (lt_of Z) (evQ ?_)
  refine QL_guardY Z Z Z Z (lt_of Z) (evQ ?_)
  refine QL_guardY Z Z Z Z (lt_of Z) (QL_idxT tys Z Z (lt_of Z) Z Z Z Z Z Z Z (by omega) _ (getAct _ (by omega) (by omega)) (QL_norm Z (QL_guardY Z Z Z Z (lt_of Z) (evQ ?_))))
  refine QL_guardY Z Z Z Z (lt_of Z) (evQ ?_)
  refine QL_guardY Z Z Z Z (lt_of Z) (evQ ?_)
  refine QL_guardY Z Z Z Z (lt_of Z) (evQ ?_)
  refine QL_guardY Z Z Z Z (lt_of Z) (QL_idxT tys Z Z (lt_of Z) Z Z Z Z Z Z Z (by omega) _ (getAct _ (by omega) (by omega)) (QL_guardY Z Z Z Z (lt_of Z) (evQ ?_)))
  refine QL_norm Z (QL_guardY Z Z Z Z (lt_of Z) (evQ ?_))
  refine QL_guardY Z Z Z Z (lt_of Z) (evQ ?_)
  refine QL_known (v := false) (by simp) ?_
  refine evQ ?_
  refine evQ ?_
  refine QL_guardY Z Z Z Z (lt_of Z) (evQ ?_)
  refine QL_guardY Z Z Z Z (lt_of Z) (evQ ?_)
  refine QL_norm Z (QL_guardY Z Z Z Z (lt_of Z) (QL_idxT tys Z Z (lt_of Z) Z Z Z Z Z Z Z (by omega) _ (getAct _ (by omega) (by omega)) (QL_guardY Z Z Z Z (lt_of Z) (evQ ?_))))
  refine QL_guardY Z Z Z Z (lt_of Z) (evQ ?_)
  refine QL_guardY Z Z Z Z (lt_of Z) (evQ ?_)
  refine QL_guardY Z Z Z Z (lt_of Z) (evQ ?_)
  refine QL_guardY Z Z Z Z (lt_of Z) (QL_idxT tys Z Z (lt_of Z) Z Z Z Z Z Z Z (by omega) _ (getAct _ (by omega) (by omega)) (QL_norm Z (QL_guardY Z Z Z Z (lt_of Z) (evQ ?_))))
  refine QL_guardY Z Z Z Z (lt_of Z) (evQ ?_)
  refine QL_guardY Z Z Z Z (lt_of Z) (evQ ?_)
  refine QL_known (v := false) (by simp) ?_
  refine evQ ?_
  refine evQ ?_
  refine QL_guardY Z Z Z Z (lt_of Z) (evQ ?_)
  refine QL_norm Z (QL_guardY Z Z Z Z (lt_of Z) (evQ ?_))
  refine QL_guardY Z Z Z Z (lt_of Z) (QL_idxT tys Z Z (lt_of Z) Z Z Z Z Z Z Z (by omega) _ (getAct _ (by omega) (by omega)) (QL_guardY Z Z Z Z (lt_of Z) (evQ ?_)))
  refine QL_guardY Z Z Z Z (lt_of Z) (evQ ?_)
  refine QL_guardY Z Z Z Z (lt_of Z) (evQ ?_)
  refine QL_guardY Z Z Z Z (lt_of Z) (evQ ?_)
  refine QL_norm Z (QL_guardY Z Z Z Z (lt_of Z) (QL_idxT tys Z Z (lt_of Z) Z Z Z Z Z Z Z (by omega) _ (getAct _ (by omega) (by omega)) (QL_guardY Z Z Z Z (lt_of Z) (evQ ?_))))
  refine QL_guardY Z Z Z Z (lt_of Z) (evQ ?_)
  refine QL_guardY Z Z Z Z (lt_of Z) (callBQ ?_)
  refine ⟨_, hs _ (List.getElem_mem _), rfl, ?_⟩
  refine QL_known (v := true) (rfl) (QL_guardY Z Z Z Z (lt_of Z) (evQ ?_))
  refine QL_known (v := false) (by simp) ?_
  refine evQ ?_
  refine QL_norm Z (QL_nil (tN (W_condF Z (W_skip (bN (tN (rG (evI ?_))))))))
  refine eZ Z (oN ?_)
  refine lQ _ ?_ ?_
  ·skip
   exact ⟨by omega, by omega⟩
  ·(show Int.toNat _ < Int.toNat _); omega
 simp only [HS] at h1
 refine W_exit (tE (loopQ_e (inBlk_y (tN (sQ (rG (eZ Z (oN (tN (rT (eR ?_)))))))))))
 ·rfl
theorem sameCases_fun (x : Act) (hx : x.ok 1048576) : Fun Try.prog 43 [.t (T.Acts x.cases), .t (T.Acts x.cases)] (.t (.bool true)) :=
 Act.ind (p := fun x => x.ok 1048576 → Fun Try.prog 43 [.t (T.Acts x.cases), .t (T.Acts x.cases)] (.t (.bool true)))
  (fun x ih hx => sameActs_fun0 x.cases (by have := hx.cases'.1; omega) fun y hy => ih y hy (hx.cases'.2 y hy)) x hx
theorem sameActs_fun (l : List Act) (hl : okL 1048576 (Act.ok 1048576) l) : Fun Try.prog 43 [.t (T.Acts l), .t (T.Acts l)] (.t (.bool true)) :=
 sameActs_fun0 l (by have := hl.1; omega) fun y hy => sameCases_fun y (hl.2 y hy)
theorem sameWorld_fun (w : World) (hw : w.ok 1048576) : Fun Try.prog 9 [.t w.tt, .t w.tt] (tupD [.t (.bool true)]) := by
 have hr : w.room.length ≤ 1048576 := hw.1
 have hh : w.held.length ≤ 1048576 := hw.2.1.1
 have hs : w.shut.length ≤ 1048576 := hw.2.2.1
 have ht : w.tasks.length ≤ 1048576 := hw.2.2.2.1.1
 have htr : w.trace.length ≤ 1048576 := hw.2.2.2.2.1
 refine Fun.begin tys Try.func9 Z Z (N := 111) [(0, .t w.tt), (1, .t w.tt)] Z Z (fun w0 G F0 => ?_)
 refine sQ (rG (WO_box Z Z (lt_of Z) Z Z (nZ Z (WO_box Z Z (lt_of Z) Z Z (nZ Z (eZ Z (oN (tN (sQ (sQ (rG (eK 4 Z (callB ?_)))))))))))))
 refine ⟨_, sameInts_fun w.room (by omega), rfl, ?_⟩
 refine eZ Z (WO_le (Le.known (t := 11) false Z (by simp)) ?_)
 refine kZ [2,3,4,11] Z (eZ Z (gY Z (eZ Z (gY Z (eZ Z (gY Z (eZ Z (gY Z (eZ Z (gY Z (callB ?_)))))))))))
 refine ⟨_, sameLists_fun w.held (by omega) (fun x hx => by have : x.length ≤ 1048576 := hw.2.1.2 x hx; omega), rfl, ?_⟩
 refine gY Z (eZ Z (WO_le (Le.known (t := 18) false Z (by simp)) ?_))
 refine eK 2 Z (kZ [2,3,4,20] Z (gY Z (eZ Z (gY Z (eZ Z (gY Z (eZ Z (gY Z (eZ Z (gY Z (callB ?_)))))))))))
 refine ⟨_, sameBools_fun w.shut (by omega), rfl, ?_⟩
 refine gY Z (eZ Z (WO_le (Le.known (t := 26) false Z (by simp)) ?_))
 refine eK 2 Z (gY Z (eZ Z (kZ [2,3,4,28,29] Z (gY Z (eZ Z (gY Z (eZ Z (gY Z (eZ Z (gY Z (callB ?_)))))))))))
 refine ⟨_, sameInts_fun w.trace (by omega), rfl, ?_⟩
 refine gY Z (eZ Z (WO_le (Le.known (t := 34) false Z (by simp)) ?_))
 refine eK 2 Z (gY Z (eZ Z (gY Z (eZ Z (kZ [2,3,4,36,38] Z (gY Z (evE ?_)))))))
 refine gY Z (eZ Z (gY Z (eZ Z (gY Z (evE ?_)))))
 refine gY Z (eZ Z (WO_le (Le.known (t := 43) false Z (by simp)) ?_))
 refine eZ Z (oN (tN (W_condF Z (W_skip (tN (sQ (sQ (rG (eK 2 Z (evE ?_))))))))))
 refine kZ [2,3,4,47] Z (eZ Z (oN (tN (W_block ?_))))
 refine lK (α := Int) [2, 3, 47] [2, 3] (fun x => [(48, .t (.int x))]) (fun x => []) (fun x => 0 ≤ x ∧ x ≤ w.tasks.length) (fun x => Int.toNat (w.tasks.length - x)) 0 ?_ (fun k hx => ?_)
 ·exact ⟨by omega, by omega⟩
 obtain ⟨hk0, hk1⟩ := hx
 refine nY Z (sQ (rG (eZ Z (oN (tN (sQ ?_))))))
 refine W_cond Z (fun h1 => ?_) (fun h1 => ?_)
 ·
  simp only [HS] at h1
  refine W_skip (tN (sQ (W_block (sQ (rG (eK 2 Z (oN (tN (sQ (W_regionD mixed (by kernel_rfl) (evQ ?_)))))))))))
  refine evQ ?_
  refine evQ ?_
  refine QL_norm Z (QL_idxT tys Z Z (lt_of Z) Z Z Z Z Z Z Z (by omega) _ (getT _ _ (by omega) (by omega)) (evQ ?_))
  refine evQ ?_
  refine evQ ?_
  refine evQ ?_
  refine evQ ?_
  refine QL_norm Z (QL_idxT tys Z Z (lt_of Z) Z Z Z Z Z Z Z (by omega) _ (getT _ _ (by omega) (by omega)) (evQ ?_))
  refine evQ ?_
  refine evQ ?_
  refine QL_known (v := false) (by simp) ?_
  refine evQ ?_
  refine QL_guardY Z Z Z Z (lt_of Z) (evQ ?_)
  refine QL_norm Z (QL_guardY Z Z Z Z (lt_of Z) (evQ ?_))
  refine QL_guardY Z Z Z Z (lt_of Z) (evQ ?_)
  refine QL_guardY Z Z Z Z (lt_of Z) (QL_idxT tys Z Z (lt_of Z) Z Z Z Z Z Z Z (by omega) _ (getT _ _ (by omega) (by omega)) (QL_guardY Z Z Z Z (lt_of Z) (evQ ?_)))
  refine QL_guardY Z Z Z Z (lt_of Z) (evQ ?_)
  refine QL_guardY Z Z Z Z (lt_of Z) (evQ ?_)
  refine QL_norm Z (QL_guardY Z Z Z Z (lt_of Z) (evQ ?_))
  refine QL_guardY Z Z Z Z (lt_of Z) (evQ ?_)
  refine QL_guardY Z Z Z Z (lt_of Z) (QL_idxT tys Z Z (lt_of Z) Z Z Z Z Z Z Z (by omega) _ (getT _ _ (by omega) (by omega)) (QL_guardY Z Z Z Z (lt_of Z) (evQ ?_)))
  refine QL_guardY Z Z Z Z (lt_of Z) (evQ ?_)
  refine QL_guardY Z Z Z Z (lt_of Z) (evQ ?_)
  refine QL_known (v := false) (by simp) ?_
  refine QL_norm Z (evQ ?_)
  refine evQ ?_
  refine QL_guardY Z Z Z Z (lt_of Z) (evQ ?_)
  refine QL_guardY Z Z Z Z (lt_of Z) (evQ ?_)
  refine QL_guardY Z Z Z Z (lt_of Z) (evQ ?_)
  refine QL_guardY Z Z Z Z (lt_of Z) (QL_idxT tys Z Z (lt_of Z) Z Z Z Z Z Z Z (by omega) _ (getT _ _ (by omega) (by omega)) (QL_norm Z (QL_guardY Z Z Z Z (lt_of Z) (evQ ?_))))
  refine QL_guardY Z Z Z Z (lt_of Z) (evQ ?_)
  refine QL_guardY Z Z Z Z (lt_of Z) (evQ ?_)
  refine QL_guardY Z Z Z Z (lt_of Z) (evQ ?_)
  refine QL_guardY Z Z Z Z (lt_of Z) (evQ ?_)
  refine QL_guardY Z Z Z Z (lt_of Z) (QL_idxT tys Z Z (lt_of Z) Z Z Z Z Z Z Z (by omega) _ (getT _ _ (by omega) (by omega)) (QL_norm Z (QL_guardY Z Z Z Z (lt_of Z) (evQ ?_))))
  refine QL_guardY Z Z Z Z (lt_of Z) (evQ ?_)
  refine QL_guardY Z Z Z Z (lt_of Z) (evQ ?_)
  refine QL_known (v := false) (by simp) ?_
  refine evQ ?_
  refine evQ ?_
  refine QL_guardY Z Z Z Z (lt_of Z) (evQ ?_)
  refine QL_norm Z (QL_guardY Z Z Z Z (lt_of Z) (evQ ?_))
  refine QL_guardY Z Z Z Z (lt_of Z) (evQ ?_)
  refine QL_guardY Z Z Z Z (lt_of Z) (QL_idxT tys Z Z (lt_of Z) Z Z Z Z Z Z Z (by omega) _ (getT _ _ (by omega) (by omega)) (QL_guardY Z Z Z Z (lt_of Z) (evQ ?_)))
  refine QL_guardY Z Z Z Z (lt_of Z) (evQ ?_)
  refine QL_guardY Z Z Z Z (lt_of Z) (evQ ?_)
  refine QL_norm Z (QL_guardY Z Z Z Z (lt_of Z) (evQ ?_))
  refine QL_guardY Z Z Z Z (lt_of Z) (evQ ?_)
  refine QL_guardY Z Z Z Z (lt_of Z) (QL_idxT tys Z Z (lt_of Z) Z Z Z Z Z Z Z (by omega) _ (getT _ _ (by omega) (by omega)) (QL_guardY Z Z Z Z (lt_of Z) (evQ ?_)))
  refine QL_guardY Z Z Z Z (lt_of Z) (evQ ?_)
  refine QL_guardY Z Z Z Z (lt_of Z) (callBQ ?_)
  refine ⟨_, sameActs_fun _ (hw.2.2.2.1.2 _ (List.getElem_mem _)).1, rfl, ?_⟩
  refine QL_norm Z (QL_guardY Z Z Z Z (lt_of Z) (evQ ?_))
  refine QL_known (v := false) (by simp) ?_
  refine evQ ?_
  refine QL_nil (tN (W_condF Z (W_skip (bN (tN (rG (evI ?_)))))))
  refine eZ Z (oN ?_)
  refine lQ _ ?_ ?_
  ·skip
   exact ⟨by omega, by omega⟩
  ·(show Int.toNat _ < Int.toNat _); omega
 simp only [HS] at h1
 refine W_exit (tE (loopQ_e (inBlk_y (tN (sQ (rG (eZ Z (oN (tN (rT (eR ?_)))))))))))
 ·rfl
open Go.Eng
theorem okA3_ok {a : Act} (h : okA3 a) {B : Nat} (hB : 4 ≤ B) : a.ok B :=
 .of ⟨Nat.le_trans h.1 (by omega), fun b hb => .of ⟨by rw [h.2 b hb]; exact Nat.zero_le _, by rw [h.2 b hb]; exact fun _ h => by cases h⟩⟩
theorem okS_ok {acts : List (List Act)} (h : okS acts) {B : Nat} (hB : 4 ≤ B) : okL B (okL B (Act.ok B)) acts :=
 ⟨Nat.le_trans h.1 (by omega), fun l hl => ⟨Nat.le_trans (h.2 l hl).1 hB, fun a ha => okA3_ok ((h.2 l hl).2 a ha) hB⟩⟩
theorem newT_sum : ∀ l : List (List Act), posS (l.map newT) = 0 ∧ panT (l.map newT) = 0
 | [] => ⟨rfl, rfl⟩
 | a :: l => by
  have h := newT_sum l
  rw [List.map_cons, posS, panT, h.1, h.2]
  refine ⟨rfl, ?_⟩
  rw [if_neg (by unfold newT; simp only; split <;> omega)]
  rfl
theorem newT_acts (l : List (List Act)) : (l.map newT).map Task.acts = l := by
 rw [List.map_map]
 exact List.map_id l
def actsN (acts : List (List Act)) : Int := acts.length + (acts.map fun l => (l.length : Int)).sum
theorem actsN_at {acts : List (List Act)} {k : Int} (h0 : 0 ≤ k) (h1 : k < acts.length) : ((acts.take (k + 1).toNat).map fun l => (l.length : Int)).sum = ((acts.take k.toNat).map fun l => (l.length : Int)).sum + (acts[k.toNat]'(by omega)).length := by
 rw [take_at h0 h1, List.map_append, List.sum_append]
 simp
theorem actsN_le {acts : List (List Act)} (h : ∀ a, a ∈ acts → a.length ≤ 4) : 0 ≤ (acts.map fun l => (l.length : Int)).sum ∧ (acts.map fun l => (l.length : Int)).sum ≤ 4 * acts.length := by
 induction acts with
 | nil => simp
 | cons a l ih =>
  have h1 := h a (by simp)
  have h2 := ih fun b hb => h b (by simp [hb])
  simp only [List.map_cons, List.sum_cons, List.length_cons]
  omega
section
variable {room : List Int} {acts : List (List Act)} {picks : List Int}
theorem pw_parts (h : pwOk room acts picks = true) : goodWorld (newW room acts) = true ∧ (picks.length : Int) ≤ 120 ∧ ∀ p, p ∈ picks → 0 ≤ p := by
 unfold pwOk at h
 simp only [Bool.and_eq_true, decide_eq_true_eq] at h
 exact ⟨h.1, by omega, fun p hp => by obtain ⟨i, hi, rfl⟩ := List.getElem_of_mem hp; exact (allIn_at h.2.2 hi).1⟩
theorem pw_facts (h : pwOk room acts picks = true) : goodWorld (pwR room acts picks).1 = true ∧ (pwR room acts picks).2 ≤ actsN acts ∧ 0 ≤ (pwR room acts picks).2 ∧ (pwR room acts picks).2 ≤ picks.length ∧
  ((pwR room acts picks).2 < picks.length → (movesR (pwR room acts picks).1).length = 0) ∧ pwOk room acts (picks.take (pwR room acts picks).2.toNat) = true ∧ pwR room acts (picks.take (pwR room acts picks).2.toNat) = pwR room acts picks := by
 obtain ⟨hg, hl, hp⟩ := pw_parts h
 have hR : pwR room acts picks = playL (newW room acts) 0 picks := by rw [pwR, if_pos h]
 have hgw : goodWorld (pwR room acts picks).1 = true := by rw [hR]; exact playL_good picks hg hp
 obtain ⟨a, b, d, e, f, g⟩ := playL_facts picks (n := 0) hg hp (by show ((([] : List Int).length : Int)) + _ ≤ 120; simp; exact hl)
 rw [← hR] at a b d e f g
 have hz := newT_sum acts
 have hb := good_posS hgw
 rw [f, show (newW room acts).tasks = acts.map newT from rfl, newT_acts] at hb
 rw [show (newW room acts).tasks = acts.map newT from rfl, hz.1, hz.2] at a
 rw [show ((pwR room acts picks).2 - 0) = (pwR room acts picks).2 from by omega] at g a
 have hok : pwOk room acts (picks.take (pwR room acts picks).2.toNat) = true := by
  unfold pwOk at h ⊢
  simp only [Bool.and_eq_true, decide_eq_true_eq] at h ⊢
  refine ⟨hg, by rw [List.length_take]; omega, ?_⟩
  rw [allIn, List.all_eq_true]
  intro x hx
  have := h.2.2
  rw [allIn, List.all_eq_true] at this
  exact this x (List.mem_of_mem_take hx)
 refine ⟨hgw, by unfold actsN; omega, b, by omega, fun hlt => ?_, hok, ?_⟩
 ·rw [movesR, if_pos hgw]; exact e (by omega)
 ·rw [pwR, if_pos hok, g]
theorem sum_new (h : goodWorld (newW room acts) = true) : sumR (nwR room acts) = 0 := by
 rw [nwR, if_pos h, sumR, if_pos h]
 have e : (allL (newW room acts)).flatten = [] := by
  rw [List.flatten_eq_nil_iff]
  intro l hl
  unfold allL newW at hl
  rcases List.mem_append.1 hl with hl | hl
  ·exact (List.mem_replicate.1 hl).2
  ·exact List.mem_singleton.1 hl
 rw [e]; rfl
end
open Go.Eng
theorem lawWorlds_fun (a b : List Int) (ha : a.length ≤ 9223372036854775807) (hb : b.length ≤ 9223372036854775807) (hab : ∀ x, x ∈ a → 0 ≤ x ∧ x ≤ 255) (hbb : ∀ x, x ∈ b → 0 ≤ x ∧ x ≤ 255) : Fun Try.prog 3 [.t (T.bytes a), .t (T.bytes b)] (tupD [.t (.bool true)]) := by
 refine Fun.begin tys Try.func3 Z Z (N := 171) [(0, .t (T.bytes a)), (1, .t (T.bytes b))] Z Z (fun w0 G F0 => ?_)
 refine sQ (rG (eZ Z (oN (tN (sQ (sQ (rG (eK 2 Z (callB ?_)))))))))
 refine ⟨_, big_fun a b ha hb, rfl, ?_⟩
 refine oN (tN ?_)
 refine W_cond Z (fun h1 => ?_) (fun h1 => ?_)
 ·
  refine sQ (rG (eZ Z (oN (tN (rT (tR (eR ?_)))))))
  ·rfl
 refine W_skip (tN (sQ ?_))
 have hca : okCd a := ⟨by simp_all; omega, hab⟩
 have hcb : okCd b := ⟨by simp_all; omega, hbb⟩
 obtain ⟨room, hroom⟩ : ∃ r, r = (sceneR a cu0).1.1 := ⟨_, rfl⟩
 obtain ⟨acts, hacts⟩ : ∃ r, r = (sceneR a cu0).1.2 := ⟨_, rfl⟩
 obtain ⟨picks, hpicks⟩ : ∃ r, r = (picksR a (sceneR a cu0).2).1 := ⟨_, rfl⟩
 have hsc := sceneR_at (c := cu0) hca (by decide)
 have hpl : picks.length ≤ 16 := by rw [hpicks]; exact picksR_len hca hsc.1
 have hrl : room.length ≤ 2 := by rw [hroom]; exact hsc.2.2.1
 have hal : okS acts := by rw [hacts]; exact hsc.2.2.2
 have hdr : Fun Try.prog 6 [.t (T.bytes a)] (tupD [.own (T.ints room), .own (T.ActLs acts), .own (T.ints picks)]) := by rw [hroom, hacts, hpicks]; exact drawPlay_fun a hca
 obtain ⟨room2, hroom2⟩ : ∃ r, r = (sceneR b cu0).1.1 := ⟨_, rfl⟩
 obtain ⟨acts2, hacts2⟩ : ∃ r, r = (sceneR b cu0).1.2 := ⟨_, rfl⟩
 have hsc2 := sceneR_at (c := cu0) hcb (by decide)
 have hrl2 : room2.length ≤ 2 := by rw [hroom2]; exact hsc2.2.2.1
 have hal2 : okS acts2 := by rw [hacts2]; exact hsc2.2.2.2
 have hdr2 : Fun Try.prog 12 [.t (T.bytes b)] (tupD [.own (T.ints room2), .own (T.ActLs acts2)]) := by rw [hroom2, hacts2]; exact drawNew_fun b hcb
 have ac1 := okS_ok hal (B := 1048576) (by decide)
 have ac2 := okS_ok hal (B := 9223372036854775807) (by decide)
 have ad1 := okS_ok hal2 (B := 1048576) (by decide)
 have ad2 := okS_ok hal2 (B := 9223372036854775807) (by decide)
 have hz := pwR_good room acts picks
 have ok1 : (pwR room acts picks).1.ok 1048576 := goz_ok hz (by decide)
 have ok2 : (pwR room acts picks).1.ok 9223372036854775807 := goz_ok hz (by decide)
 have hy := nwR_good room2 acts2
 have ok3 : (nwR room2 acts2).ok 1048576 := goz_ok hy (by decide)
 have ok4 : (nwR room2 acts2).ok 9223372036854775807 := goz_ok hy (by decide)
 have hle := actsN_le (acts := acts) (fun l hl => (hal.2 l hl).1)
 have hal3 : acts.length ≤ 3 := hal.1
 refine rG (eZ Z (callB ?_))
 refine ⟨_, hdr, rfl, ?_⟩
 refine WO_moveAll Z Z (lt_of Z) (.inr Z) Z Z (nZ Z (WO_extract Z Z (lt_of Z) Z Z Z Z (WO_le (Le.freeze (u := 36) Z) (nZ Z (nZ Z (WO_extract Z Z (lt_of Z) Z Z Z Z (WO_le (Le.freeze (u := 37) Z) (nZ Z (kZ [1,4,33,36,37] Z (nZ Z (WO_extract Z Z (lt_of Z) Z Z Z Z (WO_le (Le.freeze (u := 38) Z) (nZ Z (eK 3 Z (oN ?_)))))))))))))))
 refine tN (sQ (rG (eK 3 Z (callB ?_))))
 refine ⟨_, implPlay_fun room acts picks (by omega) ac1 ac2 (by omega), rfl, ?_⟩
 refine WO_moveAll Z Z (lt_of Z) (.inr Z) Z Z (kZ [1,4,5,6,7,39] Z (WO_extract Z Z (lt_of Z) Z Z Z Z ?_))
 first | refine WO_le (Le.adoptE (u := 44) 44 rfl (by first | exact lenN | exact rfl)) ?_ | skip
 refine nZ Z (WO_evF tys Z Z (lt_of Z) (d := .t _) Z (nZ Z (WO_evF tys Z Z (lt_of Z) (d := .t _) Z (nZ Z (WO_alloc tys Z Z (lt_of Z) Z Z Z (nZ Z (sT Z (nZ Z (WO_le (Le.freezeB (u := 8) Z Z) (nZ Z (eK 2 Z (oN (tN (sQ (kY [1,4,5,6,7,8,9,10] Z ?_)))))))))))))))
 refine rG (eK 3 Z (WO_callF Z Z (lt_of Z) Z Z Z Z Z (specPlay_fun room acts picks (by omega) ac1 (by omega)) Z (WO_moveAll Z Z (lt_of Z) (.inr Z) Z Z (WO_extract Z Z (lt_of Z) Z Z Z Z ?_))))
 first | refine WO_le (Le.adoptE (u := 52) 52 rfl (by first | exact lenN | exact rfl)) ?_ | skip
 refine nZ Z (WO_evF tys Z Z (lt_of Z) (d := .t _) Z (nZ Z (WO_evF tys Z Z (lt_of Z) (d := .t _) Z (nZ Z (WO_alloc tys Z Z (lt_of Z) Z Z Z (nZ Z (kZ [1,4,5,6,7,8,9,10,11,52,53,54] Z (sT Z (nZ Z (eK 2 Z (oN (tN (sQ (sQ (rG ?_)))))))))))))))
 refine eK 3 Z (WO_le (Le.known (t := 57) false Z (by simp)) ?_)
 refine eZ Z (gY Z (eZ Z (gY Z (eZ Z (kZ [1,4,5,6,7,8,9,10,11,58,59,60] Z (gY Z (eZ Z (WO_le (Le.known (t := 61) false Z (by simp)) ?_))))))))
 refine eK 2 Z (gY Z (eZ Z ?_))
 try refine WO_le (Le.freeze (u := 64) rfl) ?_
 refine nZ Z (gY Z (eZ Z ?_))
 try refine WO_le (Le.freeze (u := 65) rfl) ?_
 refine nZ Z (gY Z (callB ?_))
 refine ⟨_, sameWorld_fun _ ok1, rfl, ?_⟩
 refine gY Z (eZ Z (WO_le (Le.known (t := 67) false Z (by simp)) ?_))
 refine eZ Z (WO_le (Le.known (t := 68) false Z (by simp)) ?_)
 refine oN (tN (W_condF Z (W_skip (tN (sQ (sQ (kY [1,4,5,6,7,8,9,10] Z (rG (eZ Z (oN (tN ?_)))))))))))
 refine W_cond Z (fun h2 => ?_) (fun h2 => ?_)
 ·
  refine sQ ?_
  have hok : pwOk room acts picks = true := by simp_all
  obtain ⟨f1, f2, f3, f4, f5, f6, f7⟩ := pw_facts hok
  refine rG (eZ Z (evE ?_))
  refine eZ Z (oN (tN (sQ (sQ (rG (eZ Z (evE ?_)))))))
  refine eZ Z (oN (tN (W_block ?_)))
  refine lK (α := Int × Int) [1, 5, 6, 7, 8, 9, 10, 72, 73] [8] (fun x => [(74, .t (.int (x.1))), (14, .t (.int (x.2)))]) (fun x => []) (fun x => 0 ≤ (x.1) ∧ (x.1) ≤ acts.length ∧ (x.2) = acts.length + ((acts.take (x.1).toNat).map fun l => (l.length : Int)).sum ∧ 0 ≤ (x.2) ∧ (x.2) ≤ acts.length + 4 * (x.1)) (fun x => Int.toNat (acts.length - (x.1))) (0, (acts.length : Int)) ?_ (fun x hx => ?_)
  ·exact ⟨by omega, by omega, by simp, by omega, by omega⟩
  obtain ⟨k, n⟩ := x
  obtain ⟨hk0, hk1, hn, hn0, hn1⟩ := hx
  dsimp only at hk0 hk1 hn hn0 hn1 ⊢
  refine nY Z (sQ (rG (eZ Z (oN (tN (sQ ?_))))))
  refine W_cond Z (fun h3 => ?_) (fun h3 => ?_)
  ·
   simp only [HS] at h3
   refine W_skip (tN (sQ (W_block (sQ (rG (WO_idxT tys Z Z (lt_of Z) Z Z Z Z Z Z Z (by omega) _ (getT _ _ (by omega) (by omega)) (eK 2 Z (oN (tN ?_)))))))))
   have h4 : (acts[k.toNat]'(by omega)).length ≤ 4 := (hal.2 _ (List.getElem_mem _)).1
   refine rG (eK 2 Z (evE ?_))
   refine evI ?_
   refine eZ Z (kZ [1,5,6,7,8,9,10,14,16,72,73,74,75,76,77,78,79,80,81] Z (oN (bN (tN (rG (evI ?_))))))
   refine eZ Z (oN ?_)
   refine lQ (_, n + (acts[k.toNat]'(by omega)).length) ?_ ?_
   ·dsimp only
    have h4 : (acts[k.toNat]'(by omega)).length ≤ 4 := (hal.2 _ (List.getElem_mem _)).1
    exact ⟨by omega, by omega, by rw [actsN_at hk0 (by omega)]; omega, by omega, by omega⟩
   ·(show Int.toNat _ < Int.toNat _); omega
  simp only [HS] at h3
  refine W_exit (tE (loopQ_e (inBlk_y (tN (sQ ?_)))))
  have hna : n = actsN acts := by rw [hn, take_end (by omega)]; rfl
  refine rG (eZ Z ?_)
  try refine WO_le (Le.freeze (u := 84) rfl) ?_
  refine nZ Z (callB ?_)
  refine ⟨_, implMoves_fun _ ok1 ok2, rfl, ?_⟩
  refine WO_moveAll Z Z (lt_of Z) (.inr Z) Z Z (nZ Z (WO_extract Z Z (lt_of Z) Z Z Z Z (WO_le (Le.freeze (u := 86) Z) (nZ Z (WO_evF tys Z Z (lt_of Z) (d := .t _) Z (nZ Z (eK 2 Z (oN (tN (sQ (sQ (kY [1,5,6,7,8,9,14,17,18] Z (rG (eZ Z ?_))))))))))))))
  try refine WO_le (Le.freeze (u := 88) rfl) ?_
  refine nZ Z (callB ?_)
  refine ⟨_, implGoodWorld_fun _ ok1 ok2, rfl, ?_⟩
  refine eZ Z (WO_le (Le.known (t := 90) false Z (by simp [f1])) ?_)
  refine eZ Z (gY Z (eZ Z (gY Z (eZ Z (gY Z (eZ Z (WO_le (Le.known (t := 94) false Z (by simp; omega)) ?_)))))))
  refine eK 2 Z (kZ [1,5,6,7,8,9,17,18,96] Z (gY Z (eZ Z (gY Z (eZ Z (WO_le (Le.known (t := 98) false Z (by simp [f1])) ?_))))))
  refine eK 2 Z (gY Z (eZ Z (gY Z (eZ Z (gY Z (evE ?_))))))
  refine gY Z (eZ Z (gY Z (eZ Z (kZ [1,5,6,7,8,9,17,100,105] Z ?_))))
  refine WO_guard Z Z Z Z (lt_of Z) (fun h4 => ?_) (fun h4 => ?_)
  rotate_left
  ·
   simp only [HS] at h4
   refine gM Z (gM Z (gY Z (eZ Z (WO_le (Le.known (t := 109) false Z (by first | (simp; done) | (have h99 := f5 (by omega); simp [h99]; done) | (have h99 := f5 (by omega); rw [List.length_eq_zero_iff] at h99; simp [h99]))) ?_))))
   refine eZ Z (WO_le (Le.known (t := 110) false Z (by simp)) ?_)
   refine oN (tN (W_condF Z (W_skip (tN (sQ (rG (eK 4 Z (WO_sliceT tys Z Z (lt_of Z) Z Z Z Z Z Z Z Z (by first | omega | (simp only [List.length_map]; omega)) (by first | omega | (simp only [List.length_map]; omega)) (by first | omega | (simp only [List.length_map]; omega)) ?_))))))))
   refine kZ [1,8,9,112,113,116] Z ?_
   rw [show (List.take ((pwR room acts picks).2.toNat - Int.toNat 0) (List.drop (Int.toNat 0) (picks.map T.int))) = (picks.take (pwR room acts picks).2.toNat).map T.int from by rw [List.map_take]; rfl]
   refine callB ?_
   refine ⟨_, implPlay_fun room acts (picks.take (pwR room acts picks).2.toNat) (by omega) ac1 ac2 (by rw [List.length_take]; omega), rfl, ?_⟩
   refine WO_moveAll Z Z (lt_of Z) (.inr Z) Z Z (WO_extract Z Z (lt_of Z) Z Z Z Z ?_)
   first | refine WO_le (Le.adoptE (u := 118) 118 rfl (by first | exact lenN | exact rfl)) ?_ | skip
   refine nZ Z (WO_evF tys Z Z (lt_of Z) (d := .t _) Z (nZ Z (WO_evF tys Z Z (lt_of Z) (d := .t _) Z (nZ Z (WO_alloc tys Z Z (lt_of Z) Z Z Z (nZ Z (sT Z (nZ Z ?_))))))))
   rw [f7]
   refine WO_le (Le.freezeB (u := 19) Z Z) (nZ Z (eK 2 Z (kZ [1,8,9,19,20,21] Z (oN (tN (sQ (rG (eK 2 Z (WO_le (Le.known (t := 122) false Z (by simp [f6])) ?_)))))))))
   refine eZ Z (gY Z (eZ Z (gY Z (eZ Z (gY Z (eZ Z (WO_le (Le.known (t := 126) false Z (by simp)) ?_)))))))
   refine eK 2 Z (gY Z (eZ Z ?_))
   try refine WO_le (Le.freeze (u := 129) rfl) ?_
   refine nZ Z (kZ [1,8,128,129] Z (gY Z (eZ Z ?_)))
   try refine WO_le (Le.freeze (u := 130) rfl) ?_
   refine nZ Z (gY Z (callB ?_))
   refine ⟨_, sameWorld_fun _ ok1, rfl, ?_⟩
   refine gY Z (eZ Z (WO_le (Le.known (t := 132) false Z (by simp)) ?_))
   refine eZ Z (WO_le (Le.known (t := 133) false Z (by simp)) ?_)
   refine oN (tN (W_condF Z (W_skip (tN (sQ (rG (eZ Z (callB ?_))))))))
   refine ⟨_, hdr2, rfl, ?_⟩
   refine WO_moveAll Z Z (lt_of Z) (.inr Z) Z Z (nZ Z (WO_extract Z Z (lt_of Z) Z Z Z Z (WO_le (Le.freeze (u := 137) Z) (nZ Z (nZ Z (WO_extract Z Z (lt_of Z) Z Z Z Z (WO_le (Le.freeze (u := 138) Z) (nZ Z (kZ [137,138] Z (eK 2 Z (oN (tN (sQ (rG (eK 2 Z ?_)))))))))))))))
   refine callB ?_
   refine ⟨_, implNew_fun room2 acts2 (by omega) ad1 ad2, rfl, ?_⟩
   refine WO_moveAll Z Z (lt_of Z) (.inr Z) Z Z (WO_extract Z Z (lt_of Z) Z Z Z Z ?_)
   first | refine WO_le (Le.adoptE (u := 143) 143 rfl (by first | exact lenN | exact rfl)) ?_ | skip
   refine nZ Z (WO_evF tys Z Z (lt_of Z) (d := .t _) Z (nZ Z (WO_alloc tys Z Z (lt_of Z) Z Z Z (nZ Z (kZ [22,23,24,143,144] Z (sT Z (nZ Z (WO_le (Le.freezeB (u := 24) Z Z) (nZ Z (eZ Z (oN (tN (sQ (rG (eK 2 Z ?_)))))))))))))))
   refine WO_callF Z Z (lt_of Z) Z Z Z Z Z (specNew_fun room2 acts2 (by omega) ad1) Z (WO_moveAll Z Z (lt_of Z) (.inr Z) Z Z (WO_extract Z Z (lt_of Z) Z Z Z Z ?_))
   first | refine WO_le (Le.adoptE (u := 149) 149 rfl (by first | exact lenN | exact rfl)) ?_ | skip
   refine nZ Z (WO_evF tys Z Z (lt_of Z) (d := .t _) Z (nZ Z (WO_alloc tys Z Z (lt_of Z) Z Z Z (nZ Z (kZ [24,25,26,149,150] Z (sT Z (nZ Z (eZ Z (oN (tN (sQ (sQ (rG (eK 3 Z (WO_le (Le.known (t := 153) false Z (by simp)) ?_)))))))))))))))
   refine eZ Z (gY Z (eZ Z ?_))
   try refine WO_le (Le.freeze (u := 155) rfl) ?_
   refine nZ Z (gY Z (eZ Z ?_))
   try refine WO_le (Le.freeze (u := 156) rfl) ?_
   refine nZ Z (gY Z (callB ?_))
   refine ⟨_, sameWorld_fun _ ok3, rfl, ?_⟩
   refine kZ [24,25,154,157] Z (gY Z (eZ Z (WO_le (Le.known (t := 158) false Z (by simp)) ?_)))
   refine eZ Z (WO_le (Le.known (t := 159) false Z (by simp)) ?_)
   refine oN (tN (W_condF Z (W_skip (tN (sQ (sQ (rG (eZ Z (oN (tN ?_))))))))))
   refine W_cond Z (fun h5 => ?_) (fun h5 => ?_)
   ·
    refine sQ ?_
    have hg2 : goodWorld (newW room2 acts2) = true := by simp_all
    have hg3 : goodWorld (nwR room2 acts2) = true := by rw [nwR, if_pos hg2]; exact hg2
    refine rG (eZ Z ?_)
    try refine WO_le (Le.freeze (u := 162) rfl) ?_
    refine nZ Z (callB ?_)
    refine ⟨_, implSum_fun _ ok3 ok4, rfl, ?_⟩
    refine eZ Z (WO_evF tys Z Z (lt_of Z) (d := .t _) Z (nZ Z (WO_evF tys Z Z (lt_of Z) (d := .t _) Z (nZ Z (eZ Z (kZ [28,165] Z (eZ Z (oN (tN (sQ (rG (eZ Z (WO_le (Le.known (t := 166) true Z (by rw [hg3])) ?_)))))))))))))
    refine eZ Z (gY Z (eZ Z (gY Z (eZ Z (WO_le (Le.known (t := 169) true Z (by rw [sum_new hg2]; rfl)) ?_)))))
    refine eK 2 Z (oN (tN (rT (tR (eR ?_)))))
    ·rfl
   refine W_skip (tN (sQ (rG (eZ Z (oN (tN (rT (eR ?_))))))))
   ·rfl
  simp only [HS] at h4
  refine eZ Z (gY Z (evE ?_))
  refine gY Z (eZ Z (gY Z (eZ Z (WO_le (Le.known (t := 109) false Z (by first | (simp; done) | (have h99 := f5 (by omega); simp [h99]; done) | (have h99 := f5 (by omega); rw [List.length_eq_zero_iff] at h99; simp [h99]))) ?_))))
  refine eZ Z (WO_le (Le.known (t := 110) false Z (by simp)) ?_)
  refine oN (tN (W_condF Z (W_skip (tN (sQ (rG (eK 4 Z (kZ [1,8,9,112,113,114,115] Z (WO_sliceT tys Z Z (lt_of Z) Z Z Z Z Z Z Z Z (by first | omega | (simp only [List.length_map]; omega)) (by first | omega | (simp only [List.length_map]; omega)) (by first | omega | (simp only [List.length_map]; omega)) ?_)))))))))
  rw [show (List.take ((pwR room acts picks).2.toNat - Int.toNat 0) (List.drop (Int.toNat 0) (picks.map T.int))) = (picks.take (pwR room acts picks).2.toNat).map T.int from by rw [List.map_take]; rfl]
  refine callB ?_
  refine ⟨_, implPlay_fun room acts (picks.take (pwR room acts picks).2.toNat) (by omega) ac1 ac2 (by rw [List.length_take]; omega), rfl, ?_⟩
  refine WO_moveAll Z Z (lt_of Z) (.inr Z) Z Z (WO_extract Z Z (lt_of Z) Z Z Z Z ?_)
  first | refine WO_le (Le.adoptE (u := 118) 118 rfl (by first | exact lenN | exact rfl)) ?_ | skip
  refine nZ Z (WO_evF tys Z Z (lt_of Z) (d := .t _) Z (nZ Z (WO_evF tys Z Z (lt_of Z) (d := .t _) Z (nZ Z (WO_alloc tys Z Z (lt_of Z) Z Z Z (nZ Z (sT Z (nZ Z ?_))))))))
  rw [f7]
  refine WO_le (Le.freezeB (u := 19) Z Z) (nZ Z (eZ Z (kZ [1,8,9,19,20,120] Z (eZ Z (oN (tN (sQ (rG (eK 2 Z (WO_le (Le.known (t := 122) false Z (by simp [f6])) ?_))))))))))
  refine eZ Z (gY Z (eZ Z (gY Z (eZ Z (gY Z (eZ Z (WO_le (Le.known (t := 126) false Z (by simp)) ?_)))))))
  refine eK 2 Z (kZ [1,8,19,128] Z (gY Z (eZ Z ?_)))
  try refine WO_le (Le.freeze (u := 129) rfl) ?_
  refine nZ Z (gY Z (eZ Z ?_))
  try refine WO_le (Le.freeze (u := 130) rfl) ?_
  refine nZ Z (gY Z (callB ?_))
  refine ⟨_, sameWorld_fun _ ok1, rfl, ?_⟩
  refine gY Z (eZ Z (WO_le (Le.known (t := 132) false Z (by simp)) ?_))
  refine eZ Z (WO_le (Le.known (t := 133) false Z (by simp)) ?_)
  refine oN (tN (W_condF Z (W_skip (tN (sQ (rG (eZ Z (callB ?_))))))))
  refine ⟨_, hdr2, rfl, ?_⟩
  refine WO_moveAll Z Z (lt_of Z) (.inr Z) Z Z (nZ Z (WO_extract Z Z (lt_of Z) Z Z Z Z (WO_le (Le.freeze (u := 137) Z) (nZ Z (kZ [134,137] Z (nZ Z (WO_extract Z Z (lt_of Z) Z Z Z Z (WO_le (Le.freeze (u := 138) Z) (nZ Z (eK 2 Z (oN (tN (sQ (rG (eK 2 Z ?_)))))))))))))))
  refine callB ?_
  refine ⟨_, implNew_fun room2 acts2 (by omega) ad1 ad2, rfl, ?_⟩
  refine WO_moveAll Z Z (lt_of Z) (.inr Z) Z Z (WO_extract Z Z (lt_of Z) Z Z Z Z ?_)
  first | refine WO_le (Le.adoptE (u := 143) 143 rfl (by first | exact lenN | exact rfl)) ?_ | skip
  refine nZ Z (WO_evF tys Z Z (lt_of Z) (d := .t _) Z (nZ Z (kZ [22,23,143,144] Z (WO_alloc tys Z Z (lt_of Z) Z Z Z (nZ Z (sT Z (nZ Z (WO_le (Le.freezeB (u := 24) Z Z) (nZ Z (eZ Z (oN (tN (sQ (rG (eK 2 Z ?_)))))))))))))))
  refine WO_callF Z Z (lt_of Z) Z Z Z Z Z (specNew_fun room2 acts2 (by omega) ad1) Z (WO_moveAll Z Z (lt_of Z) (.inr Z) Z Z (WO_extract Z Z (lt_of Z) Z Z Z Z ?_))
  first | refine WO_le (Le.adoptE (u := 149) 149 rfl (by first | exact lenN | exact rfl)) ?_ | skip
  refine nZ Z (WO_evF tys Z Z (lt_of Z) (d := .t _) Z (nZ Z (kZ [24,25,149,150] Z (WO_alloc tys Z Z (lt_of Z) Z Z Z (nZ Z (sT Z (nZ Z (eZ Z (oN (tN (sQ (sQ (rG (eK 3 Z (WO_le (Le.known (t := 153) false Z (by simp)) ?_)))))))))))))))
  refine eZ Z (gY Z (eZ Z ?_))
  try refine WO_le (Le.freeze (u := 155) rfl) ?_
  refine nZ Z (gY Z (eZ Z ?_))
  try refine WO_le (Le.freeze (u := 156) rfl) ?_
  refine nZ Z (kZ [24,25,154,155,156] Z (gY Z (callB ?_)))
  refine ⟨_, sameWorld_fun _ ok3, rfl, ?_⟩
  refine gY Z (eZ Z (WO_le (Le.known (t := 158) false Z (by simp)) ?_))
  refine eZ Z (WO_le (Le.known (t := 159) false Z (by simp)) ?_)
  refine oN (tN (W_condF Z (W_skip (tN (sQ (sQ (rG (eZ Z (oN (tN ?_))))))))))
  refine W_cond Z (fun h5 => ?_) (fun h5 => ?_)
  ·
   refine sQ ?_
   have hg2 : goodWorld (newW room2 acts2) = true := by simp_all
   have hg3 : goodWorld (nwR room2 acts2) = true := by rw [nwR, if_pos hg2]; exact hg2
   refine rG (eZ Z ?_)
   try refine WO_le (Le.freeze (u := 162) rfl) ?_
   refine nZ Z (callB ?_)
   refine ⟨_, implSum_fun _ ok3 ok4, rfl, ?_⟩
   refine eZ Z (WO_evF tys Z Z (lt_of Z) (d := .t _) Z (nZ Z (WO_evF tys Z Z (lt_of Z) (d := .t _) Z (nZ Z (kZ [164,165] Z (eK 2 Z (oN (tN (sQ (rG (eZ Z (WO_le (Le.known (t := 166) true Z (by rw [hg3])) ?_))))))))))))
   refine eZ Z (gY Z (eZ Z (gY Z (eZ Z (WO_le (Le.known (t := 169) true Z (by rw [sum_new hg2]; rfl)) ?_)))))
   refine eK 2 Z (oN (tN (rT (tR (eR ?_)))))
   ·rfl
  refine W_skip (tN (sQ (rG (eZ Z (oN (tN (rT (eR ?_))))))))
  ·rfl
 refine W_skip (tN (sQ (rG (eZ Z (callB ?_)))))
 refine ⟨_, hdr2, rfl, ?_⟩
 refine WO_moveAll Z Z (lt_of Z) (.inr Z) Z Z (nZ Z (WO_extract Z Z (lt_of Z) Z Z Z Z (WO_le (Le.freeze (u := 137) Z) (nZ Z (nZ Z (WO_extract Z Z (lt_of Z) Z Z Z Z (WO_le (Le.freeze (u := 138) Z) (nZ Z (eK 2 Z (oN (tN (sQ (kY [4,22,23] Z (rG (eK 2 Z ?_)))))))))))))))
 refine callB ?_
 refine ⟨_, implNew_fun room2 acts2 (by omega) ad1 ad2, rfl, ?_⟩
 refine WO_moveAll Z Z (lt_of Z) (.inr Z) Z Z (WO_extract Z Z (lt_of Z) Z Z Z Z ?_)
 first | refine WO_le (Le.adoptE (u := 143) 143 rfl (by first | exact lenN | exact rfl)) ?_ | skip
 refine nZ Z (WO_evF tys Z Z (lt_of Z) (d := .t _) Z (nZ Z (WO_alloc tys Z Z (lt_of Z) Z Z Z (nZ Z (sT Z (nZ Z (WO_le (Le.freezeB (u := 24) Z Z) (nZ Z (eZ Z (kZ [4,22,23,24,25] Z (oN (tN (sQ (rG (eK 2 Z ?_)))))))))))))))
 refine WO_callF Z Z (lt_of Z) Z Z Z Z Z (specNew_fun room2 acts2 (by omega) ad1) Z (WO_moveAll Z Z (lt_of Z) (.inr Z) Z Z (WO_extract Z Z (lt_of Z) Z Z Z Z ?_))
 first | refine WO_le (Le.adoptE (u := 149) 149 rfl (by first | exact lenN | exact rfl)) ?_ | skip
 refine nZ Z (WO_evF tys Z Z (lt_of Z) (d := .t _) Z (nZ Z (WO_alloc tys Z Z (lt_of Z) Z Z Z (nZ Z (sT Z (nZ Z (eZ Z (kZ [4,24,25,26,27] Z (oN (tN (sQ (sQ (rG (eK 3 Z (WO_le (Le.known (t := 153) false Z (by simp)) ?_)))))))))))))))
 refine eZ Z (gY Z (eZ Z ?_))
 try refine WO_le (Le.freeze (u := 155) rfl) ?_
 refine nZ Z (gY Z (eZ Z ?_))
 try refine WO_le (Le.freeze (u := 156) rfl) ?_
 refine nZ Z (gY Z (callB ?_))
 refine ⟨_, sameWorld_fun _ ok3, rfl, ?_⟩
 refine gY Z (eZ Z (WO_le (Le.known (t := 158) false Z (by simp)) ?_))
 refine eZ Z (WO_le (Le.known (t := 159) false Z (by simp)) ?_)
 refine kZ [4,24,25,159] Z (oN (tN (W_condF Z (W_skip (tN (sQ (sQ (rG (eZ Z (oN (tN ?_)))))))))))
 refine W_cond Z (fun h3 => ?_) (fun h3 => ?_)
 ·
  refine sQ ?_
  have hg2 : goodWorld (newW room2 acts2) = true := by simp_all
  have hg3 : goodWorld (nwR room2 acts2) = true := by rw [nwR, if_pos hg2]; exact hg2
  refine rG (eZ Z ?_)
  try refine WO_le (Le.freeze (u := 162) rfl) ?_
  refine nZ Z (callB ?_)
  refine ⟨_, implSum_fun _ ok3 ok4, rfl, ?_⟩
  refine eZ Z (WO_evF tys Z Z (lt_of Z) (d := .t _) Z (nZ Z (WO_evF tys Z Z (lt_of Z) (d := .t _) Z (nZ Z (eK 2 Z (oN (tN (sQ (kY [4,28,29] Z (rG (eZ Z (WO_le (Le.known (t := 166) true Z (by rw [hg3])) ?_))))))))))))
  refine eZ Z (gY Z (eZ Z (gY Z (eZ Z (WO_le (Le.known (t := 169) true Z (by rw [sum_new hg2]; rfl)) ?_)))))
  refine eK 2 Z (oN (tN (rT (tR (eR ?_)))))
  ·rfl
 refine W_skip (tN (sQ (rG (eZ Z (oN (tN (rT (eR ?_))))))))
 ·rfl
end Go.Proofs.Ytpgodgmgfhbngaa
