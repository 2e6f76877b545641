/- Walks and laws of the claim. -/
import Derived.Test.YtkllmdolplcklaaNg
import Derived.Test.YtkllmdolplcklaaMe
set_option linter.unusedVariables false
set_option linter.unusedSimpArgs false
set_option maxRecDepth 10000
set_option maxHeartbeats 4000000
namespace Go.Proofs.Ytkllmdolplcklaa
open Go.Eng
open Go.Eng
def T.bytes (l : List Int) : T := .list 1 (l.map fun n => .v (.int .u8 n))
abbrev cuC (pv : Value) (c : Cu) : List D := [.t (.v pv), .t (.v (.int .i64 c.1)), .t (.v (.int .u64 c.2))]
theorem u64_small {n : Int} (h0 : 0 ≤ n) (h1 : n ≤ 255) : IntKind.u64.wrap n = n := by
 simp [IntKind.wrap, IntKind.bits, IntKind.signed]; omega
theorem K5 {n : Int} (h0 : 0 ≤ n) (h1 : n ≤ 255) : IntKind.i64.wrap n = n := Df (by omega) (by omega)
theorem JH (cd : List Int) (c : Cu) (bw : Nat) (pv : Value) (hcd : Dd cd) (h0 : 0 ≤ c.1) (h1 : c.1 ≤ 1073741824) : Proc Try.prog 60 [.t (.v (.pointer (some ⟨bw, 0, none⟩)))] ([pv]) ([T.bytes cd]) [.obox (.pointer (some ⟨bw, 0, none⟩)) (cuC pv c)] (.t (.int (nxV cd c))) [.obox (.pointer (some ⟨bw, 0, none⟩)) (cuC pv (nxC cd c))] := by
 have hcl := hcd.1
 have hB := Me hcd h0
 refine Proc.intro tys Try.func60 Z Z (N := 62) [100] 99 ([(0, .t (.v (.pointer (some ⟨bw, 0, none⟩))))]) ([(100, .obox (.pointer (some ⟨bw, 0, none⟩)) (cuC pv c)), (99, .ro [pv] [T.bytes cd])]) Z Z Z Z (by decide) (by decide) Z (fun w0 G F0 => ?_);refine nY Z (W_le (Le.openNew (u := 100) 1100 Z Z Z Z Z) (nY Z (W_le (Le.named (t := 0) (u := 100) 1100 Z Z) (nY Z (sG (eZ Z (nA (eZ Z (nB (sQ (sQ (AV Ac (by kernel_rfl) (evQ ?_)))))))))))));refine BQ rfl Z (AA Z) Z Z Z (evQ ?_);refine evQ ?_;refine AH Z (evQ ?_);refine BQ rfl Z (AA Z) Z Z Z (evQ ?_);refine FY tys 99 0 Z Z (AA Z) Z Z Z Z (evEQ ?_);refine evQ ?_;refine AH Z (Aj (tN ?_));refine BM (α := Int) [0, 2] [100, 99, 1100] (fun x => [(3, .t (.int x))]) (fun x => []) (fun x => x = nxB cd c) ?_ (fun b hx => ?_)
 ·
  refine AD Z (fun h1 => ?_) (fun h1 => ?_)
  ·
   simp only [HS] at h1;refine AV Ac (by kernel_rfl) (evQ ?_);refine BQ rfl Z (AA Z) Z Z Z (evQ ?_);refine FY tys 99 0 Z Z (AA Z) Z Z Z Z (evQ ?_);refine BQ rfl Z (AA Z) Z Z Z (AH Z (evQ ?_));refine evQ ?_;refine AP tys Z Z (AA Z) Z Z Z Z Z Z Z h0 _ (CM _ _ h0 (by simp_all)) ?_;refine evQ ?_
   have hlt : c.1 < cd.length := by simp_all
   have hbe : nxB cd c = cd[c.1.toNat]'(by omega) := by rw [nxB, if_pos hlt, AL h0 hlt]
   refine Lc (td := .int .u8) (k := .i64) (m := nxB cd c) Z Z (AA Z) Z (by kernel_rfl) (by kernel_rfl) Z (by rw [← hbe]; exact K5 hB.1 hB.2) ?_;refine evQ ?_;refine AH Z (Aj (jQ _ ?_));dsimp only
   all_goals first | rfl | (unfold nxB; rw [if_neg (by simp_all)])
  simp only [HS] at h1;refine AE (jQ _ ?_)
  all_goals first | rfl | (unfold nxB; rw [if_neg (by simp_all)])
 have hb := hx
 refine tN (sQ (kY [0,2,3] Z (rG (eZ Z (A6 rfl Z (AA Z) Z Z Z (eK 2 Z (evI ?_)))))));refine A6 rfl Z (AA Z) Z Z Z (eZ Z (sT Z (nZ Z (nB (sQ (kY [0,2,3] Z (rG (eK 2 Z (A6 rfl Z (AA Z) Z Z Z (eK 2 Z (FV Z Z (AA Z) Z Z Z binMul Z (eZ Z (H5 (td := .int .i64) (k := .u64) (m := b) Z Z (AA Z) Z (by kernel_rfl) (by kernel_rfl) Z (by subst hb; exact u64_small hB.1 hB.2) ?_)))))))))))));refine FV Z Z (AA Z) Z Z Z Mq Z (kZ [0,2,3,32,40] Z (FV Z Z (AA Z) Z Z Z Mq Z (A6 rfl Z (AA Z) Z Z Z (eZ Z (sT Z (nZ Z (nB (sQ (sQ (AV Ac (by kernel_rfl) (evQ ?_)))))))))));refine BQ rfl Z (AA Z) Z Z Z (AH Z (evQ ?_));refine evQ ?_;refine evQ ?_;refine BQ rfl Z (AA Z) Z Z Z (evQ ?_);refine FY tys 99 0 Z Z (AA Z) Z Z Z Z (AH Z (evEQ ?_));refine evQ ?_;refine Aj (tN ?_);refine AD Z (fun h1 => ?_) (fun h1 => ?_)
 ·
  simp only [HS] at h1;refine sG (eK 2 Z (nB (W_le (Le.close (u := 100) 1100 Z Z Z) (nY Z (rT (tR ?_))))));refine eP [_] ?_ ?_
  ·subst hb
   first
   | (rw [nxV, if_pos (by simp_all)]; rfl)
  ·subst hb
   rfl
 simp only [HS] at h1;refine AE (tN (sG (eZ Z (A6 rfl Z (AA Z) Z Z Z (eK 2 Z (FV Z Z (AA Z) Z Z Z (binShr (by decide)) Z (FV Z Z (AA Z) Z Z Z binAnd Z (WO_conv (td := .int .u64) (k := .i64) Z Z (AA Z) Z (by kernel_rfl) (by kernel_rfl) Z (kZ [2,61] Z (eZ Z (nB (W_le (Le.close (u := 100) 1100 Z Z Z) (nY Z (rT ?_))))))))))))));refine eP [_] ?_ ?_
 ·subst hb
  first
  | (rw [nxV, if_neg (by simp_all)]; rfl)
 ·subst hb
  rfl
theorem Ao (cd : List Int) (n : Int) (c : Cu) (bw : Nat) (pv : Value) (hcd : Dd cd) (h0 : 0 ≤ c.1) (h1 : c.1 ≤ 536870912) : Proc Try.prog 25 [.t (.v (.pointer (some ⟨bw, 0, none⟩))), .t (.int n)] ([pv]) ([T.bytes cd]) [.obox (.pointer (some ⟨bw, 0, none⟩)) (cuC pv c)] (.t (.int (pickV cd n c))) [.obox (.pointer (some ⟨bw, 0, none⟩)) (cuC pv (curC cd n c))] := by
 have hx1 := JG (c := c) hcd h0
 have hx2 := JG (c := nxC cd c) hcd (show 0 ≤ c.1 + 1 by omega)
 refine Proc.intro tys Try.func25 Z Z (N := 20) [100] 99 ([(0, .t (.v (.pointer (some ⟨bw, 0, none⟩)))), (1, .t (.int n))]) ([(100, .obox (.pointer (some ⟨bw, 0, none⟩)) (cuC pv c)), (99, .ro [pv] [T.bytes cd])]) Z Z Z Z (by decide) (by decide) Z (fun w0 G F0 => ?_);refine nY Z (sG (eZ Z (nB (sQ (sG (eK 2 Z (nB ?_)))))));refine AD Z (fun h1 => ?_) (fun h1 => ?_)
 ·
  simp only [HS] at h1;refine sG (eZ Z (nB (rT (tR ?_))));refine eP [_] ?_ ?_
  ·first
   | (rw [pickV, if_pos (by omega)]; rfl)
  ·first
   | (rw [curC, if_pos (by omega)]; done)
 simp only [HS] at h1;refine AE (tN (sG (eZ Z ?_)));refine cP [100] (hm := (JH cd c bw pv hcd h0 (by omega))) (k := ?_);refine nZ Z (eZ Z (nB (sQ (sG (eK 2 Z (nB ?_))))));refine AD Z (fun h2 => ?_) (fun h2 => ?_)
 ·
  simp only [HS] at h2;refine kY [0,1,4,5] Z (rG (eZ Z (evI ?_)));refine eZ Z ?_;refine cP [100] (hm := (JH cd (nxC cd c) bw pv hcd (show 0 ≤ c.1 + 1 by omega) (show c.1 + 1 ≤ 1073741824 by omega))) (k := ?_);refine nZ Z (evI ?_);refine eZ Z (nA (eK 2 Z (LW Z Z (AA Z) Z Z Z (by omega) (kZ [4,19] Z (eZ Z (nB (rT ?_)))))));refine eP [_] ?_ ?_
  ·first
   | (rw [pickV, if_neg (by omega), if_pos (by omega)]; rfl)
  ·first
   | (rw [curC, if_neg (by omega), if_pos (by omega)]; done)
 simp only [HS] at h2;refine AE (tN (sQ (kY [1,4,5] Z (rG (eK 2 Z (LW Z Z (AA Z) Z Z Z (by omega) (eZ Z (nB (rT ?_)))))))));refine eP [_] ?_ ?_
 ·first
  | (rw [pickV, if_neg (by omega), if_neg (by omega)]; rfl)
 ·first
  | (rw [curC, if_neg (by omega), if_neg (by omega)]; done)
theorem FF (cd : List Int) (n : Int) (c : Cu) (bw : Nat) (pv : Value) (hcd : Dd cd) (h0 : 0 ≤ c.1) (h1 : c.1 ≤ 536870912) : Proc Try.prog 24 [.t (.v (.pointer (some ⟨bw, 0, none⟩))), .t (.int n)] ([pv]) ([T.bytes cd]) [.obox (.pointer (some ⟨bw, 0, none⟩)) (cuC pv c)] (.t (.bool (decide (pickV cd n c = 0)))) [.obox (.pointer (some ⟨bw, 0, none⟩)) (cuC pv (curC cd n c))] := by
 refine Proc.intro tys Try.func24 Z Z (N := 9) [100] 99 ([(0, .t (.v (.pointer (some ⟨bw, 0, none⟩)))), (1, .t (.int n))]) ([(100, .obox (.pointer (some ⟨bw, 0, none⟩)) (cuC pv c)), (99, .ro [pv] [T.bytes cd])]) Z Z Z Z (by decide) (by decide) Z (fun w0 G F0 => ?_);refine nY Z (sG (eZ Z (nA (eK 2 Z ?_))));refine cP [100] (hm := (Ao cd n c bw pv hcd h0 h1)) (k := ?_);refine nZ Z (eK 2 Z (nB (rT ?_)));refine eP [_] ?_ ?_
 ·rfl
 ·rfl
theorem EO (cd l : List Int) (c : Cu) (bw : Nat) (pv : Value) (hcd : Dd cd) (h0 : 0 ≤ c.1) (h1 : c.1 ≤ 536870912) (hl : 1 ≤ l.length) (hl2 : l.length ≤ 1073741824) : Proc Try.prog 85 [.t (.v (.pointer (some ⟨bw, 0, none⟩))), .t (T.ints l)] ([pv]) ([T.bytes cd]) [.obox (.pointer (some ⟨bw, 0, none⟩)) (cuC pv c)] (.t (.int (at0 0 l (pickV cd l.length c)))) [.obox (.pointer (some ⟨bw, 0, none⟩)) (cuC pv (curC cd l.length c))] := by
 have hv := A8 (n := l.length) hcd h0
 have hv1 := hv.2.1 (by omega)
 refine Proc.intro tys Try.func85 Z Z (N := 12) [100] 99 ([(0, .t (.v (.pointer (some ⟨bw, 0, none⟩)))), (1, .t (T.ints l))]) ([(100, .obox (.pointer (some ⟨bw, 0, none⟩)) (cuC pv c)), (99, .ro [pv] [T.bytes cd])]) Z Z Z Z (by decide) (by decide) Z (fun w0 G F0 => ?_);refine nY Z (sG (eZ Z (nA (eK 3 Z (evE ?_)))));refine cP [100] (hm := (Ao cd l.length c bw pv hcd h0 h1)) (k := ?_);refine nZ Z ?_;refine iX (h5 := hv.1) (h6 := (CM _ _ hv.1 hv1)) (k := ?_);refine eK 2 Z (kZ [4] Z (nB (rT ?_)));refine eP [_] ?_ ?_
 ·rw [AL hv.1 hv1]
  rfl
 ·rfl
open Go.Eng
def plA (cd : List Int) (chans : Int) (send : Bool) (c : Cu) : Act := if send then .mk 1 (pickV cd chans c) (1 + pickV cd 9 (curC cd chans c)) [] else .mk 2 (pickV cd chans c) 0 []
def plC (cd : List Int) (chans : Int) (send : Bool) (c : Cu) : Cu := if send then curC cd 9 (curC cd chans c) else curC cd chans c
theorem JA {cd : List Int} {chans : Int} {send : Bool} {c : Cu} : c.1 ≤ (plC cd chans send c).1 ∧ (plC cd chans send c).1 ≤ c.1 + 4 := by
 have h1 := AW (cd := cd) (n := chans) (c := c)
 have h2 := AW (cd := cd) (n := 9) (c := curC cd chans c)
 unfold plC
 split <;> omega
theorem Cz (cd : List Int) (chans : Int) (send : Bool) (c : Cu) (bw : Nat) (pv : Value) (hcd : Dd cd) (h0 : 0 ≤ c.1) (h1 : c.1 ≤ 268435456) : Proc Try.prog 93 [.t (.v (.pointer (some ⟨bw, 0, none⟩))), .t (.int chans), .t (.bool send)] ([pv]) ([T.bytes cd]) [.obox (.pointer (some ⟨bw, 0, none⟩)) (cuC pv c)] ((plA cd chans send c).dd) [.obox (.pointer (some ⟨bw, 0, none⟩)) (cuC pv (plC cd chans send c))] := by
 have hc1 := AW (cd := cd) (n := chans) (c := c)
 have hv := A8 (n := 9) (c := curC cd chans c) hcd (by omega)
 refine Proc.intro tys Try.func93 Z Z (N := 19) [100] 99 ([(0, .t (.v (.pointer (some ⟨bw, 0, none⟩)))), (1, .t (.int chans)), (2, .t (.bool send))]) ([(100, .obox (.pointer (some ⟨bw, 0, none⟩)) (cuC pv c)), (99, .ro [pv] [T.bytes cd])]) Z Z Z Z (by decide) (by decide) Z (fun w0 G F0 => ?_);refine nY Z (sG (AK tys Z Z (AA Z) Z Z Z (nZ Z (nB (sQ (sG (eZ Z (nB ?_))))))));refine AD Z (fun h1 => ?_) (fun h1 => ?_)
 ·
  refine sG (eK 2 Z ?_);refine cP [100] (hm := (Ao cd chans c bw pv hcd h0 (by omega))) (k := ?_);refine nZ Z (eZ Z ?_);refine cP [100] (hm := (Ao cd 9 (curC cd chans c) bw pv hcd (by omega) (by omega))) (k := ?_);refine nZ Z (evI ?_);refine Ag tys Z Z (AA Z) Z Z Z (by kernel_rfl) Z Z Z Z Z Z (kZ [0,1,6,14] Z (sT Z (nZ Z (nB ?_))))
  (refine W_le (Le.nilBox (u := 6) (j := 3) 4 rfl rfl) ?_; refine W_norm rfl ?_)
  refine rT (tR ?_);refine eP [_] ?_ ?_
  ·(rw [plA, if_pos (by assumption)]; rfl)
  ·(rw [plC, if_pos (by assumption)]; done)
 refine AE (tN (sG (eK 2 Z ?_)));refine cP [100] (hm := (Ao cd chans c bw pv hcd h0 (by omega))) (k := ?_);refine nZ Z (Ag tys Z Z (AA Z) Z Z Z (by kernel_rfl) Z Z Z Z Z Z (sT Z (nZ Z (nB ?_))))
 (refine W_le (Le.nilBox (u := 6) (j := 3) 4 rfl rfl) ?_; refine W_norm rfl ?_)
 refine rT ?_;refine eP [_] ?_ ?_
 ·(rw [plA, if_neg (by simp_all)]; rfl)
 ·(rw [plC, if_neg (by simp_all)]; done)
open Go.Eng
def selL (cd : List Int) (chans : Int) : Nat → List Act → Cu → List Act × Cu
 | 0, l, c => (l, c)
 | k + 1, l, c => selL cd chans k (l ++ [plA cd chans (decide (pickV cd 2 c = 0)) (curC cd 2 c)]) (plC cd chans (decide (pickV cd 2 c = 0)) (curC cd 2 c))
def acA (cd : List Int) (chans : Int) (c : Cu) : Act × Cu :=
 if pickV cd 9 c = 0 ∨ pickV cd 9 c = 1 ∨ pickV cd 9 c = 2 then (plA cd chans true (curC cd 9 c), plC cd chans true (curC cd 9 c))
 else if pickV cd 9 c = 3 ∨ pickV cd 9 c = 4 then (plA cd chans false (curC cd 9 c), plC cd chans false (curC cd 9 c))
 else if pickV cd 9 c = 5 then (.mk 3 0 0 [], curC cd 9 c)
 else if pickV cd 9 c = 6 ∨ pickV cd 9 c = 7 then
  (.mk 4 0 0 (selL cd chans (1 + pickV cd 3 (curC cd 9 c)).toNat [] (curC cd 3 (curC cd 9 c))).1, (selL cd chans (1 + pickV cd 3 (curC cd 9 c)).toNat [] (curC cd 3 (curC cd 9 c))).2)
 else if pickV cd 2 (curC cd 9 c) = 0 then (.mk 3 0 0 [], curC cd 2 (curC cd 9 c))
 else (.mk 5 (pickV cd chans (curC cd 2 (curC cd 9 c))) 0 [], curC cd chans (curC cd 2 (curC cd 9 c)))
theorem IP {cd : List Int} {chans : Int} : ∀ (k : Nat) (l : List Act) (c : Cu), c.1 ≤ (selL cd chans k l c).2.1 ∧ (selL cd chans k l c).2.1 ≤ c.1 + 6 * k ∧ (selL cd chans k l c).1.length = l.length + k
 | 0, l, c => by simp [selL]
 | k + 1, l, c => by
  have h1 := AW (cd := cd) (n := 2) (c := c)
  have h2 := JA (cd := cd) (chans := chans) (send := decide (pickV cd 2 c = 0)) (c := curC cd 2 c)
  have h3 := IP (cd := cd) (chans := chans) k (l ++ [plA cd chans (decide (pickV cd 2 c = 0)) (curC cd 2 c)]) (plC cd chans (decide (pickV cd 2 c = 0)) (curC cd 2 c))
  rw [selL];rw [Nu, Nx, N6] at h3;omega
theorem MP (cd : List Int) (chans : Int) (c : Cu) (bw : Nat) (pv : Value) (hcd : Dd cd) (h0 : 0 ≤ c.1) (h1 : c.1 ≤ 134217728) : Proc Try.prog 86 [.t (.v (.pointer (some ⟨bw, 0, none⟩))), .t (.int chans)] ([pv]) ([T.bytes cd]) [.obox (.pointer (some ⟨bw, 0, none⟩)) (cuC pv c)] ((acA cd chans c).1.dd) [.obox (.pointer (some ⟨bw, 0, none⟩)) (cuC pv (acA cd chans c).2)] := by
 have hc1 := AW (cd := cd) (n := 9) (c := c)
 have hc2 := AW (cd := cd) (n := 2) (c := curC cd 9 c)
 have hc3 := AW (cd := cd) (n := 3) (c := curC cd 9 c)
 have hv3 := A8 (n := 3) (c := curC cd 9 c) hcd (by omega)
 have hv3' := hv3.2.1 (by omega)
 refine Proc.intro tys Try.func86 Z Z (N := 54) [100] 99 ([(0, .t (.v (.pointer (some ⟨bw, 0, none⟩)))), (1, .t (.int chans))]) ([(100, .obox (.pointer (some ⟨bw, 0, none⟩)) (cuC pv c)), (99, .ro [pv] [T.bytes cd])]) Z Z Z Z (by decide) (by decide) Z (fun w0 G F0 => ?_);refine nY Z (sG (AK tys Z Z (AA Z) Z Z Z (nZ Z (nB (sQ (sG (eZ Z ?_)))))));refine cP [100] (hm := (Ao cd 9 c bw pv hcd h0 (by omega))) (k := ?_);refine nZ Z (nB (AG (sQ (sG (eK 2 Z (nB ?_))))));refine BM (α := Bool) [0, 1, 4, 8] [100, 99, 4] (fun x => [(9, .t (.bool x))]) (fun x => []) (fun x => x = decide (pickV cd 9 c = 0 ∨ pickV cd 9 c = 1 ∨ pickV cd 9 c = 2)) ?_ (fun b hx => ?_)
 ·
  refine AD Z (fun h1 => ?_) (fun h1 => ?_)
  ·
   simp only [HS] at h1;refine AE (jQ _ ?_)
   all_goals first | (simp_all; done) | (symm; simp; omega) | (simp; omega)
  simp only [HS] at h1;refine sG (eK 2 Z (nB ?_));refine AD Z (fun h2 => ?_) (fun h2 => ?_)
  ·
   simp only [HS] at h2;refine AE (jQ _ ?_)
   all_goals first | (simp_all; done) | (symm; simp; omega) | (simp; omega)
  simp only [HS] at h2;refine kY [0,1,4,8,9] Z (rG (eK 2 Z (oN (jQ _ ?_))))
  all_goals first | (simp_all; done) | (symm; simp; omega) | (simp; omega)
 have hb1 := hx
 refine tN ?_;refine AD Z (fun h1 => ?_) (fun h1 => ?_)
 ·
  refine sQ (kY [0,1,4] Z (rG (eK 2 Z ?_)));refine cP [100] (hm := (Cz cd chans true (curC cd 9 c) bw pv hcd (by omega) (by omega))) (k := ?_);refine nZ Z (sT Z (nZ Z (nB ?_)))
  skip
  refine rT (bR (tR ?_));refine eP [_] ?_ ?_
  ·unfold acA
   repeat' split
   all_goals first | rfl | (rw [← hm4]; done) | (rw [← hm4]; rfl) | (exfalso; simp_all; done) | (exfalso; simp_all; omega)
  ·unfold acA
   repeat' split
   all_goals first | rfl | (rw [← hm4]; done) | (rw [← hm4]; rfl) | (exfalso; simp_all; done) | (exfalso; simp_all; omega)
 refine sQ (sQ (kY [0,1,4,8] Z (rG (eK 2 Z (nB ?_)))));refine BM (α := Bool) [0, 1, 4, 8] [100, 99, 4] (fun x => [(16, .t (.bool x))]) (fun x => []) (fun x => x = decide (pickV cd 9 c = 3 ∨ pickV cd 9 c = 4)) ?_ (fun b hx => ?_)
 ·
  refine AD Z (fun h2 => ?_) (fun h2 => ?_)
  ·
   simp only [HS] at h2;refine AE (jQ _ ?_)
   all_goals first | (simp_all; done) | (symm; simp; omega) | (simp; omega)
  simp only [HS] at h2;refine rG (eK 2 Z (oN (jQ _ ?_)))
  all_goals first | (simp_all; done) | (symm; simp; omega) | (simp; omega)
 have hb2 := hx
 refine tN ?_;refine AD Z (fun h2 => ?_) (fun h2 => ?_)
 ·
  refine sQ (kY [0,1,4] Z (rG (eK 2 Z ?_)));refine cP [100] (hm := (Cz cd chans false (curC cd 9 c) bw pv hcd (by omega) (by omega))) (k := ?_);refine nZ Z (sT Z (nZ Z (nB ?_)))
  skip
  refine rT (bR (tR ?_));refine eP [_] ?_ ?_
  ·unfold acA
   repeat' split
   all_goals first | rfl | (rw [← hm4]; done) | (rw [← hm4]; rfl) | (exfalso; simp_all; done) | (exfalso; simp_all; omega)
  ·unfold acA
   repeat' split
   all_goals first | rfl | (rw [← hm4]; done) | (rw [← hm4]; rfl) | (exfalso; simp_all; done) | (exfalso; simp_all; omega)
 refine sQ (kY [0,1,4,8] Z (rG (eK 2 Z (nB ?_))));refine AD Z (fun h3 => ?_) (fun h3 => ?_)
 ·
  simp only [HS] at h3;refine sG (Ag tys Z Z (AA Z) Z Z Z (by kernel_rfl) Z Z Z Z Z Z (sT Z (nZ Z (nB (W_le (Le.nilBox (u := 4) (j := 3) 4 Z Z) (nY Z (rT (bR (tR ?_)))))))));refine eP [_] ?_ ?_
  ·unfold acA
   repeat' split
   all_goals first | rfl | (rw [← hm4]; done) | (rw [← hm4]; rfl) | (exfalso; simp_all; done) | (exfalso; simp_all; omega)
  ·unfold acA
   repeat' split
   all_goals first | rfl | (rw [← hm4]; done) | (rw [← hm4]; rfl) | (exfalso; simp_all; done) | (exfalso; simp_all; omega)
 simp only [HS] at h3;refine sQ (sG (eK 2 Z (nB ?_)));refine BM (α := Bool) [0, 1, 4] [100, 99, 4] (fun x => [(25, .t (.bool x))]) (fun x => []) (fun x => x = decide (pickV cd 9 c = 6 ∨ pickV cd 9 c = 7)) ?_ (fun b hx => ?_)
 ·
  refine AD Z (fun h4 => ?_) (fun h4 => ?_)
  ·
   simp only [HS] at h4;refine AE (jQ _ ?_)
   all_goals first | (simp_all; done) | (symm; simp; omega) | (simp; omega)
  simp only [HS] at h4;refine rG (eK 2 Z (oN (jQ _ ?_)))
  all_goals first | (simp_all; done) | (symm; simp; omega) | (simp; omega)
 have hb3 := hx
 refine tN ?_;refine AD Z (fun h4 => ?_) (fun h4 => ?_)
 ·
  refine sQ (kY [0,1,4] Z (rG (Ag tys Z Z (AA Z) Z Z Z (by kernel_rfl) Z Z Z Z Z Z (AK tys Z Z (AA Z) Z Z Z (nZ Z (sT Z (nZ Z (nB (sQ (sQ (nY Z (W_le (Le.nilBox (u := 5) (j := 3) 4 Z Z) (nY Z (rG (eZ Z ?_)))))))))))))));refine cP [100] (hm := (Ao cd 3 (curC cd 9 c) bw pv hcd (by omega) (by omega))) (k := ?_);refine nZ Z (evI ?_);refine eZ Z (nB (AG ?_));refine lK (α := Int × List Act × Cu) [0, 1, 4, 5] [99, 4] (fun x => [(6, .t (.int (x.1)))]) (fun x => [(100, .obox (.pointer (some ⟨bw, 0, none⟩)) (cuC pv (x.2.2))), (5, .box [.t (T.int 4), .t (T.int 0), .t (T.int 0), .own (.list 4 ((x.2.1).map Act.toT))])]) (fun x => 0 ≤ (x.1) ∧ (x.2.1).length + (x.1) ≤ 3 ∧ (curC cd 9 c).1 ≤ (x.2.2).1 ∧ (x.2.2).1 ≤ c.1 + 30 - 6 * (x.1) ∧ selL cd chans (x.1).toNat (x.2.1) (x.2.2) = selL cd chans (1 + pickV cd 3 (curC cd 9 c)).toNat [] (curC cd 3 (curC cd 9 c))) (fun x => Int.toNat ((x.1))) (1 + pickV cd 3 (curC cd 9 c), [], curC cd 3 (curC cd 9 c)) ?_ (fun x hx => ?_)
  ·dsimp only
   exact ⟨by omega, by simp; omega, by omega, by omega, rfl⟩
  obtain ⟨m, cs, c'⟩ := x
  obtain ⟨hm0, hm1, hm2, hm3, hm4⟩ := hx
  dsimp only at hm0 hm1 hm2 hm3 hm4 ⊢;refine nY Z (sQ (sG (eK 2 Z (nB ?_))));refine AD Z (fun h5 => ?_) (fun h5 => ?_)
  ·
   simp only [HS] at h5;refine AE (tN (sQ (AG ?_)))
   have hk2 := AW (cd := cd) (n := 2) (c := c')
   have hk4 := JA (cd := cd) (chans := chans) (send := decide (pickV cd 2 c' = 0)) (c := curC cd 2 c')
   refine DV 8 [[100], [100], [5, 100], [5, 100], [5], [5], [5], [5]] Ac Z (by kernel_rfl) (by kernel_rfl) (A9 ?_)
   skip
   refine QG_ev tys Z Z (AA Z) Z (AF (Ed tys Z Z (AA Z) Z Z Z Z Z Z (A9 (QG_ev tys Z Z (AA Z) Z (AF (A9 (QG_ev tys Z Z (AA Z) Z (AF (AY Z (A9 (QG_ev tys Z Z (AA Z) Z (AF ?_))))))))))));refine Bn (rid := 99) [100] Z Z (AA Z) Z Z (by repeat (first | exact ResP.done | refine ResP.pin0 1100 Z ?_ | refine ResP.t ?_ | refine ResP.nil 1 ?_ | refine ResP.nil' ?_ | refine ResP.own ?_ | refine ResP.sl Z Z (by first | omega | (simp; omega)) ?_ | refine ResP.aggT (by repeat (first | exact ResP.done | refine ResP.t ?_)) ?_)) Z (by repeat (first | exact trivial | refine ⟨rfl, rfl, ?_⟩)) (by decide) (FF cd 2 c' bw pv hcd (by omega) (by omega)) Z Z Z ?_;refine Bn (rid := 99) [100] Z Z (AA Z) Z Z (by repeat (first | exact ResP.done | refine ResP.pin0 1100 Z ?_ | refine ResP.t ?_ | refine ResP.nil 1 ?_ | refine ResP.nil' ?_ | refine ResP.own ?_ | refine ResP.sl Z Z (by first | omega | (simp; omega)) ?_ | refine ResP.aggT (by repeat (first | exact ResP.done | refine ResP.t ?_)) ?_)) Z (by repeat (first | exact trivial | refine ⟨rfl, rfl, ?_⟩)) (by decide) (Cz cd chans (decide (pickV cd 2 c' = 0)) (curC cd 2 c') bw pv hcd (by omega) (by omega)) Z Z Z ?_;refine A9 ?_;refine BC tys [(plA cd chans (decide (pickV cd 2 c' = 0)) (curC cd 2 c')).tt] Z Z (AA Z) Z Z Z Z Z (AA Z) (by repeat (first | exact PartsOk.nil' | refine PartsOk.cons' rfl (by repeat (first | exact AbsL.nil' | refine AbsL.v' ?_ | refine AbsL.own' ?_ | refine AbsL.none' ?_)) Z ?_)) Z Z Z (by decide) ?_;refine AF (AY Z (Av ?_));refine ⟨by kernel_rfl, ?_⟩;refine nZ Z (WO_le (Le.adoptE (u := 37) 137 Z Z) (nZ Z (WO_le (Le.adoptE (u := 43) 143 Z Z) (nZ Z (Ab tys Z Z (AA Z) Z Z Z Z Z (.own Z (by first | omega | (simp only [Nu]; omega))) Z (.own Z (by first | decide | omega)) (by decide) (by simp; omega) (by decide) Z ?_)))));refine nZ Z (WO_le (Le.gather (u := 44) (id := 137) Z Z (by first | (simp; done) | (simp; omega) | omega)) ?_);refine nZ Z (eZ Z (sT Z (nZ Z (oN (bN (tN (nY Z (W_le (Le.eqK (id := 5) (k' := .box [.t (T.int 4), .t (T.int 0), .t (T.int 0), .own (.list 4 ((cs ++ [plA cd chans (decide (pickV cd 2 c' = 0)) (curC cd 2 c')]).map Act.toT))]) Z (by simp [Act.toT_eq, Ni])) ?_))))))));refine nY Z (rG (eZ Z (evI ?_)));refine eZ Z (oN ?_);refine lQ (_, cs ++ [plA cd chans (decide (pickV cd 2 c' = 0)) (curC cd 2 c')], _) ?_ ?_
   ·dsimp only
    have hm5 : m.toNat = (m - 1).toNat + 1 := by omega
    rw [hm5, selL] at hm4;refine ⟨by omega, by simp; omega, by omega, by omega, ?_⟩;exact hm4
   ·(show Int.toNat _ < Int.toNat _); omega
  simp only [HS] at h5;refine AR (tE (AO (AN (tN (sG ?_)))))
  have hm6 : m.toNat = 0 := by omega
  rw [hm6, selL] at hm4;refine A7 tys Z Z (AA Z) Z Z Z Z Z Z (nZ Z (sT Z (nZ Z (nB ?_))))
  skip
  refine rT (bR (tR ?_));refine eP [_] ?_ ?_
  ·unfold acA
   repeat' split
   all_goals first | rfl | (rw [← hm4]; done) | (rw [← hm4]; rfl) | (exfalso; simp_all; done) | (exfalso; simp_all; omega)
  ·unfold acA
   repeat' split
   all_goals first | rfl | (rw [← hm4]; done) | (rw [← hm4]; rfl) | (exfalso; simp_all; done) | (exfalso; simp_all; omega)
 refine AE (bN (tN (sQ (sQ (kY [0,1,4] Z (rG (eZ Z ?_)))))));refine cP [100] (hm := (FF cd 2 (curC cd 9 c) bw pv hcd (by omega) (by omega))) (k := ?_);refine nZ Z (nB ?_);refine AD Z (fun h5 => ?_) (fun h5 => ?_)
 ·
  simp only [HS] at h5;refine sG (Ag tys Z Z (AA Z) Z Z Z (by kernel_rfl) Z Z Z Z Z Z (sT Z (nZ Z (nB (W_le (Le.nilBox (u := 4) (j := 3) 4 Z Z) (nY Z (rT (tR ?_))))))));refine eP [_] ?_ ?_
  ·unfold acA
   repeat' split
   all_goals first | rfl | (rw [← hm4]; done) | (rw [← hm4]; rfl) | (exfalso; simp_all; done) | (exfalso; simp_all; omega)
  ·unfold acA
   repeat' split
   all_goals first | rfl | (rw [← hm4]; done) | (rw [← hm4]; rfl) | (exfalso; simp_all; done) | (exfalso; simp_all; omega)
 simp only [HS] at h5;refine AE (tN (sG (eK 2 Z ?_)));refine cP [100] (hm := (Ao cd chans (curC cd 2 (curC cd 9 c)) bw pv hcd (by omega) (by omega))) (k := ?_);refine nZ Z (Ag tys Z Z (AA Z) Z Z Z (by kernel_rfl) Z Z Z Z Z Z (sT Z (nZ Z (nB (W_le (Le.nilBox (u := 4) (j := 3) 4 Z Z) (nY Z (rT ?_)))))));refine eP [_] ?_ ?_
 ·unfold acA
  repeat' split
  all_goals first | rfl | (rw [← hm4]; done) | (rw [← hm4]; rfl) | (exfalso; simp_all; done) | (exfalso; simp_all; omega)
 ·unfold acA
  repeat' split
  all_goals first | rfl | (rw [← hm4]; done) | (rw [← hm4]; rfl) | (exfalso; simp_all; done) | (exfalso; simp_all; omega)
open Go.Eng
def E8 (cd : List Int) : Nat → List Int → Cu → List Int × Cu
 | 0, l, c => (l, c)
 | k + 1, l, c => E8 cd k (l ++ [at0 0 [0, 0, 1, 2] (pickV cd 4 c)]) (curC cd 4 c)
def Dn (cd : List Int) (chans : Int) : Nat → List Act → Cu → List Act × Cu
 | 0, l, c => (l, c)
 | k + 1, l, c => Dn cd chans k (l ++ [(acA cd chans c).1]) (acA cd chans c).2
def DH (cd : List Int) (chans : Int) : Nat → List (List Act) → Cu → List (List Act) × Cu
 | 0, l, c => (l, c)
 | k + 1, l, c => DH cd chans k (l ++ [(Dn cd chans (pickV cd 5 c).toNat [] (curC cd 5 c)).1]) (Dn cd chans (pickV cd 5 c).toNat [] (curC cd 5 c)).2
def Dj (cd : List Int) (c : Cu) : List Int × Cu := E8 cd (1 + pickV cd 2 c).toNat [] (curC cd 2 c)
def DG (cd : List Int) (r : List Int × Cu) : List (List Act) × Cu := DH cd r.1.length (2 + pickV cd 2 r.2).toNat [] (curC cd 2 r.2)
def setChan (n : Int) : List Act → List Act
 | [] => []
 | a :: l => .mk a.kind n a.n a.cases :: l
def setKind (n : Int) : List Act → List Act
 | [] => []
 | a :: l => .mk n a.chan a.n a.cases :: l
def Ch (cd : List Int) (room : List Int) (acts : List (List Act)) (c : Cu) : (List Int × List (List Act)) × Cu :=
 if 0 < (at0 [] acts 0).length then
  if pickV cd 40 c = 0 then ((room, acts.set 0 (setChan (at0 0 [-1, 3] (pickV cd 2 (curC cd 40 c))) (at0 [] acts 0))), curC cd 2 (curC cd 40 c))
  else if pickV cd 40 c = 1 then ((room, acts.set 0 (setKind (pickV cd 7 (curC cd 40 c)) (at0 [] acts 0))), curC cd 7 (curC cd 40 c))
  else if pickV cd 40 c = 2 then ((room.set 0 (at0 0 [-1, 3, 4] (pickV cd 3 (curC cd 40 c))), acts), curC cd 3 (curC cd 40 c))
  else ((room, acts), curC cd 40 c)
 else ((room, acts), c)
def BH (cd : List Int) (c : Cu) : (List Int × List (List Act)) × Cu := Ch cd (Dj cd c).1 (DG cd (Dj cd c)).1 (DG cd (Dj cd c)).2
theorem Ms {cd : List Int} {chans : Int} {c : Cu} (hcd : Dd cd) (h0 : 0 ≤ c.1) : c.1 ≤ (acA cd chans c).2.1 ∧ (acA cd chans c).2.1 ≤ c.1 + 30 := by
 have hc1 := AW (cd := cd) (n := 9) (c := c)
 have hc2 := AW (cd := cd) (n := 2) (c := curC cd 9 c)
 have hc3 := AW (cd := cd) (n := 3) (c := curC cd 9 c)
 have hv3 := A8 (n := 3) (c := curC cd 9 c) hcd (by omega)
 have hv3' := hv3.2.1 (by omega)
 have p1 := JA (cd := cd) (chans := chans) (send := true) (c := curC cd 9 c)
 have p2 := JA (cd := cd) (chans := chans) (send := false) (c := curC cd 9 c)
 have p3 := AW (cd := cd) (n := chans) (c := curC cd 2 (curC cd 9 c))
 have p4 := IP (cd := cd) (chans := chans) (1 + pickV cd 3 (curC cd 9 c)).toNat [] (curC cd 3 (curC cd 9 c))
 unfold acA
 repeat' split
 all_goals simp only
 all_goals omega
def HZ (a : Act) : Prop := a.cases.length ≤ 3 ∧ ∀ b, b ∈ a.cases → b.cases = []
theorem plA_cases {cd : List Int} {chans : Int} {send : Bool} {c : Cu} : (plA cd chans send c).cases = [] := by
 unfold plA; split <;> rfl
theorem Kd {cd : List Int} {chans : Int} : ∀ (k : Nat) (l : List Act) (c : Cu), (∀ b, b ∈ l → b.cases = []) → ∀ b, b ∈ (selL cd chans k l c).1 → b.cases = []
 | 0, l, c, h => h
 | k + 1, l, c, h => by
  rw [selL]
  refine Kd k _ _ fun b hb => ?_
  rcases Nn.1 hb with hb | hb
  ·exact h b hb
  ·rw [OE] at hb; subst hb; exact plA_cases
theorem E7 {cd : List Int} : ∀ (k : Nat) (l : List Int) (c : Cu), (E8 cd k l c).1.length = l.length + k
 | 0, l, c => rfl
 | k + 1, l, c => by rw [E8, E7 k]; simp; omega
theorem Ki {cd : List Int} {c : Cu} (hcd : Dd cd) (h0 : 0 ≤ c.1) : 1 ≤ (Dj cd c).1.length := by
 have hv := A8 (n := 2) (c := c) hcd h0
 rw [Dj, E7]
 have : (1 + pickV cd 2 c).toNat ≥ 1 := by omega
 simp; omega
theorem JF {a : Act} (h : a.cases = []) : HZ a := by
 unfold HZ; rw [h]; exact ⟨OQ _, fun b hb => by cases hb⟩
theorem Mr {cd : List Int} {chans : Int} {c : Cu} (hcd : Dd cd) (h0 : 0 ≤ c.1) : HZ (acA cd chans c).1 := by
 have hc1 := AW (cd := cd) (n := 9) (c := c)
 have hv3 := A8 (n := 3) (c := curC cd 9 c) hcd (by omega)
 have hv3' := hv3.2.1 (by omega)
 have p4 := IP (cd := cd) (chans := chans) (1 + pickV cd 3 (curC cd 9 c)).toNat [] (curC cd 3 (curC cd 9 c))
 have p5 := Kd (cd := cd) (chans := chans) (1 + pickV cd 3 (curC cd 9 c)).toNat [] (curC cd 3 (curC cd 9 c)) (by simp)
 rw [N6] at p4;unfold acA
 repeat' split
 all_goals first | (refine ⟨?_, p5⟩; show (selL cd chans _ _ _).1.length ≤ 3; omega) | exact JF plA_cases | exact JF rfl
theorem acts_cells2 (ls : List (List Act)) (z1 z2 : T) : ∀ x, x ∈ ((ls.map T.Acts).set 0 z1).set 0 z2 → (T.cells x).length = 1 ∨ x = z1 ∨ x = z2 := by
 intro x hx
 rcases OK hx with hx | rfl
 ·rcases OK hx with hx | rfl
  ·obtain ⟨l, _, rfl⟩ := OM.1 hx
   exact .inl rfl
  ·exact .inr (.inl rfl)
 ·exact .inr (.inr rfl)
theorem setChan_cells {a0 : Act} {lr : List Act} {v : Int} : [T.list 4 (((a0 :: lr).map Act.toT).set 0 (a0.tt.put 1 [T.int v]))] = [T.Acts (setChan v (a0 :: lr))] := by
 show _ = [T.list 4 (Act.toT (.mk a0.kind v a0.n a0.cases) :: lr.map Act.toT)];rw [OA, Act.toT_eq a0, Act.toT_eq (.mk a0.kind v a0.n a0.cases)]; rfl
theorem setKind_cells {a0 : Act} {lr : List Act} {v : Int} : [T.list 4 (((a0 :: lr).map Act.toT).set 0 (a0.tt.put 0 [T.int v]))] = [T.Acts (setKind v (a0 :: lr))] := by
 show _ = [T.list 4 (Act.toT (.mk v a0.chan a0.n a0.cases) :: lr.map Act.toT)];rw [OA, Act.toT_eq a0, Act.toT_eq (.mk v a0.chan a0.n a0.cases)]; rfl
theorem acts_same {ls : List (List Act)} {v : List Act} {z1 z2 z3 z4 : T} (h : T.cells z4 = [T.Acts v]) : ((ls.set 0 v).map T.Acts).flatMap T.cells = (((((ls.map T.Acts).set 0 z1).set 0 z2).set 0 z3).set 0 z4).flatMap T.cells := by
 rw [Nr, Nr, Nr, Nv]; exact Gn h.symm _ _
theorem Ke (cd : List Int) (c : Cu) (bw : Nat) (pv : Value) (hcd : Dd cd) (h0 : 0 ≤ c.1) (h1 : c.1 ≤ 1048576) : Proc Try.prog 56 [.t (.v (.pointer (some ⟨bw, 0, none⟩)))] ([pv]) ([T.bytes cd]) [.obox (.pointer (some ⟨bw, 0, none⟩)) (cuC pv c)] (.tup [.own (T.ints (BH cd c).1.1), .own (.list 1 ((BH cd c).1.2.map T.Acts))]) [.obox (.pointer (some ⟨bw, 0, none⟩)) (cuC pv (BH cd c).2)] := by
 have hc2 := AW (cd := cd) (n := 2) (c := c)
 have hv2 := A8 (n := 2) (c := c) hcd (by omega)
 have hv2' := hv2.2.1 (by omega)
 refine Proc.intro tys Try.func56 Z Z (N := 82) [100] 99 ([(0, .t (.v (.pointer (some ⟨bw, 0, none⟩))))]) ([(100, .obox (.pointer (some ⟨bw, 0, none⟩)) (cuC pv c)), (99, .ro [pv] [T.bytes cd])]) Z Z Z Z (by decide) (by decide) Z (fun w0 G F0 => ?_);refine nY Z (sG (eK 2 Z (nA (eZ Z (WO_le (Le.nilOwn (u := 4) 1 Z) (nZ Z (WO_le (Le.adoptE (u := 4) 104 Z Z) (nZ Z (nB (sQ (sG (eZ Z ?_))))))))))));refine cP [100] (hm := (Ao cd 2 c bw pv hcd h0 (by omega))) (k := ?_);refine nZ Z (evI ?_);refine eZ Z (nB (AG ?_));refine lK (α := Int × List Int × List T × Nat × Cu) [0] [99] (fun x => [(5, .t (.int (x.1))), (4, .sl 104 0 (x.2.2.2.1))]) (fun x => [(100, .obox (.pointer (some ⟨bw, 0, none⟩)) (cuC pv (x.2.2.2.2))), (104, .L 1 (x.2.2.1))]) (fun x => 0 ≤ (x.1) ∧ (x.2.1).length + (x.1) ≤ 2 ∧ (x.2.2.2.1) = (x.2.2.1).length ∧ (x.2.2.1) = (x.2.1).map T.int ∧ E8 cd (x.1).toNat (x.2.1) (x.2.2.2.2) = Dj cd c ∧ c.1 ≤ (x.2.2.2.2).1 ∧ (x.2.2.2.2).1 ≤ c.1 + 10 - 2 * (x.1)) (fun x => Int.toNat ((x.1))) (1 + pickV cd 2 c, [], [], 0, curC cd 2 c) ?_ (fun x hx => ?_)
 ·dsimp only
  exact ⟨by omega, by simp; omega, rfl, rfl, rfl, by omega, by omega⟩
 obtain ⟨k, rs, ys, n, c'⟩ := x
 obtain ⟨hk0, hk1, hn, hys, hre, hca, hcb⟩ := hx
 dsimp only at hk0 hk1 hn hys hre hca hcb ⊢;refine nY Z (sQ (sG (eK 2 Z (nB ?_))));refine AD Z (fun h1 => ?_) (fun h1 => ?_)
 ·
  simp only [HS] at h1;refine AE (tN (sQ (AG ?_)))
  have hk4 := AW (cd := cd) (n := (([0, 0, 1, 2] : List Int).length : Int)) (c := c')
  refine rG (eK 2 Z (bZ [T.int 0, T.int 0, T.int 1, T.int 2] ?_));refine nZ Z (WO_le (Le.gather (u := 19) (id := 19) Z Z (by first | (simp; done) | (simp; omega) | omega)) ?_);refine nZ Z ?_;refine cP [100] (hm := (EO cd [0, 0, 1, 2] c' bw pv hcd (by omega) (by omega) (by decide) (by decide))) (k := ?_);refine nZ Z (bZ [T.int (at0 0 [0, 0, 1, 2] (pickV cd 4 c'))] ?_);refine nZ Z (Ab tys Z Z (AA Z) Z Z Z Z Z (.own Z (by first | omega | (simp only [Nu]; omega))) Z (.own Z (by first | decide | omega)) (by decide) (by simp only [N0, Nx, N6]; rw [hys, Nj]; omega) (by decide) Z ?_);refine nZ Z (eZ Z (kZ [0,4,5,13,14,17,18,19,20,21,22] Z (oN (bN (tN (rG (eZ Z (evI ?_))))))));refine eZ Z (oN ?_);refine lQ (_, rs ++ [at0 0 [0, 0, 1, 2] (pickV cd 4 c')], _, _, _) ?_ ?_
  ·dsimp only
   subst hn
   have hk5 : k.toNat = (k - 1).toNat + 1 := by omega
   rw [hk5, E8] at hre;refine ⟨by omega, by simp; omega, by simp, ?_, hre, by omega, by omega⟩;rw [N8, hys, OU];rfl
  ·(show Int.toNat _ < Int.toNat _); omega
 simp only [HS] at h1;refine AR (tE (AO (AN (tN (sG (eZ Z (WO_le (Le.nilOwn (u := 6) 1 Z) (nZ Z (WO_le (Le.adoptE (u := 6) 106 Z Z) (nZ Z (nB (sQ (sQ ?_)))))))))))))
 have hk6 : k.toNat = 0 := by omega
 rw [hk6, E8] at hre
 have hrs : 1 ≤ rs.length := by have e := congrArg (fun z => z.1.length) hre; dsimp only at e; rw [e]; exact Ki hcd h0
 subst hn hys;rw [Nj];refine nY Z ?_
 have hkp := AW (cd := cd) (n := 2) (c := c')
 have hkv := A8 (n := 2) (c := c') hcd (by omega)
 have hkv' := hkv.2.1 (by omega)
 refine rG (eZ Z ?_);refine cP [100] (hm := (Ao cd 2 c' bw pv hcd (by omega) (by omega))) (k := ?_);refine nZ Z (evI ?_);refine eZ Z (nB (AG ?_));refine lK (α := Int × List (List Act) × List T × Nat × Cu) [0, 4] [99, 104] (fun x => [(7, .t (.int (x.1))), (6, .sl 106 0 (x.2.2.2.1))]) (fun x => [(100, .obox (.pointer (some ⟨bw, 0, none⟩)) (cuC pv (x.2.2.2.2))), (106, .L 1 (x.2.2.1))]) (fun x => 0 ≤ (x.1) ∧ (x.2.1).length + (x.1) = 2 + pickV cd 2 c' ∧ (x.2.2.2.1) = (x.2.2.1).length ∧ (x.2.2.1) = (x.2.1).map T.Acts ∧ DH cd rs.length (x.1).toNat (x.2.1) (x.2.2.2.2) = DG cd (rs, c') ∧ (∀ l, l ∈ (x.2.1) → l.length ≤ 4 ∧ ∀ a, a ∈ l → HZ a) ∧ c'.1 ≤ (x.2.2.2.2).1 ∧ (x.2.2.2.2).1 ≤ c'.1 + 2 + 130 * (3 - (x.1))) (fun x => Int.toNat ((x.1))) (2 + pickV cd 2 c', [], [], 0, curC cd 2 c') ?_ (fun x hx => ?_)
 ·dsimp only
  exact ⟨by omega, by simp, rfl, rfl, rfl, by simp, by omega, by omega⟩
 obtain ⟨k2, ls, zs, n2, c2⟩ := x
 obtain ⟨hq0, hq1, hn2, hzs, hle, hok, hcc, hcd2⟩ := hx
 dsimp only at hq0 hq1 hn2 hzs hle hok hcc hcd2 ⊢;refine nY Z (sQ (sG (eK 2 Z (nB ?_))));refine AD Z (fun h2 => ?_) (fun h2 => ?_)
 ·
  simp only [HS] at h2;refine AE (tN (sQ (AG (sG (eZ Z (WO_le (Le.nilOwn (u := 8) 4 Z) (nZ Z (WO_le (Le.adoptE (u := 8) 108 Z Z) (nZ Z (nB (sQ (sQ ?_))))))))))))
  have hlp := AW (cd := cd) (n := 5) (c := c2)
  have hlv := A8 (n := 5) (c := c2) hcd (by omega)
  have hlv' := hlv.2.1 (by omega)
  refine rG (eZ Z ?_);refine cP [100] (hm := (Ao cd 5 c2 bw pv hcd (by omega) (by omega))) (k := ?_);refine nZ Z (eZ Z (nB (AG ?_)));refine lK (α := Int × List Act × List T × Nat × Cu) [0, 4, 6, 7] [99, 104, 106] (fun x => [(9, .t (.int (x.1))), (8, .sl 108 0 (x.2.2.2.1))]) (fun x => [(100, .obox (.pointer (some ⟨bw, 0, none⟩)) (cuC pv (x.2.2.2.2))), (108, .L 4 (x.2.2.1))]) (fun x => 0 ≤ (x.1) ∧ (x.2.1).length + (x.1) ≤ 4 ∧ (x.2.2.2.1) = (x.2.2.1).length ∧ (x.2.2.1) = (x.2.1).map Act.toT ∧ Dn cd rs.length (x.1).toNat (x.2.1) (x.2.2.2.2) = Dn cd rs.length (pickV cd 5 c2).toNat [] (curC cd 5 c2) ∧ (∀ a, a ∈ (x.2.1) → HZ a) ∧ c2.1 ≤ (x.2.2.2.2).1 ∧ (x.2.2.2.2).1 ≤ c2.1 + 2 + 30 * (4 - (x.1))) (fun x => Int.toNat ((x.1))) (pickV cd 5 c2, [], [], 0, curC cd 5 c2) ?_ (fun x hx => ?_)
  ·dsimp only
   exact ⟨by omega, by simp; omega, rfl, rfl, rfl, by simp, by omega, by omega⟩
  obtain ⟨k3, l, ws, n3, c3⟩ := x
  obtain ⟨hp0, hp1, hn3, hws, hle3, hok3, hca3, hcb3⟩ := hx
  dsimp only at hp0 hp1 hn3 hws hle3 hok3 hca3 hcb3 ⊢;refine nY Z (sQ (sG (eK 2 Z (nB ?_))));refine AD Z (fun h3 => ?_) (fun h3 => ?_)
  ·
   simp only [HS] at h3;refine AE (tN (sQ (AG ?_)))
   have hac := Ms (cd := cd) (chans := (rs.length : Int)) (c := c3) hcd (by omega)
   have hao := Mr (cd := cd) (chans := (rs.length : Int)) (c := c3) hcd (by omega)
   refine rG (eK 3 Z (evE ?_));refine cP [100] (hm := (MP cd rs.length c3 bw pv hcd (by omega) (by omega))) (k := ?_);refine nZ Z (bZ [(acA cd rs.length c3).1.tt] ?_);refine nZ Z (Ab tys Z Z (AA Z) Z Z Z Z Z (.own Z (by first | omega | (simp only [Nu]; omega))) Z (.own Z (by first | decide | omega)) (by decide) (by simp only [N0, Nx, N6]; rw [hws, Nj]; omega) (by decide) Z ?_);refine nZ Z (kZ [0,4,6,7,8,9,32,33,36,37,38,39,40,41,42] Z (eZ Z (oN (bN (tN (rG (eZ Z (evI ?_))))))));refine eZ Z (oN ?_);refine lQ (_, l ++ [(acA cd rs.length c3).1], _, _, _) ?_ ?_
   ·dsimp only
    subst hn3
    have hk9 : k3.toNat = (k3 - 1).toNat + 1 := by omega
    rw [hk9, Dn] at hle3;refine ⟨by omega, by simp; omega, by simp, ?_, hle3, ?_, by omega, by omega⟩
    ·rw [N8, hws, OU, OA, Act.toT_eq]
     rfl
    ·intro a ha
     rcases Nn.1 ha with h | h
     ·exact hok3 a h
     ·rw [OE] at h; subst h; exact hao
   ·(show Int.toNat _ < Int.toNat _); omega
  simp only [HS] at h3;refine AR (tE (AO (AN (tN ?_))))
  have hk7 : k3.toNat = 0 := by omega
  rw [hk7, Dn] at hle3
  have hnw : n3 = l.length := by rw [hn3, hws, Nj]
  refine rG (eK 2 Z (WO_le (Le.gather (u := 44) (id := 108) Z Z (by first | (simp; done) | (simp; omega) | omega)) ?_));refine nZ Z (bZ [.list 4 (ws.take n3)] ?_);refine nZ Z (Ab tys Z Z (AA Z) Z Z Z Z Z (.own Z (by first | omega | (simp only [Nu]; omega))) Z (.own Z (by first | decide | omega)) (by decide) (by simp only [N0, Nx, N6]; rw [hzs, Nj]; omega) (by decide) Z ?_);refine nZ Z (eZ Z (oN (bN (tN (kY [0,4,6,7,8,9,32,33,43,44,45,46] Z (rG (eZ Z (evI ?_))))))));refine eZ Z (oN ?_);refine lQ (_, ls ++ [l], _, _, _) ?_ ?_
  ·dsimp only
   subst hn2 hn3
   have hk8 : k2.toNat = (k2 - 1).toNat + 1 := by omega
   rw [hk8, DH, ← hle3] at hle;refine ⟨by omega, by simp; omega, by simp, ?_, hle, ?_, by omega, by omega⟩
   ·rw [hzs, OU, hws]
    simp only [N8];rfl
   ·intro l' hl'
    rcases Nn.1 hl' with h | h
    ·exact hok l' h
    ·rw [OE] at h; subst h; exact ⟨by omega, hok3⟩
  ·(show Int.toNat _ < Int.toNat _); omega
 simp only [HS] at h2;refine AR (tE (AO (AN (tN (sQ (sQ ?_))))))
 have hk2 : k2.toNat = 0 := by omega
 rw [hk2, DH] at hle;subst hn2 hzs;rw [Nj]
 obtain ⟨l0, hl0⟩ : ∃ l0, l0 = ls[0]'(by omega) := ⟨_, rfl⟩
 have hz0 : (ls.map T.Acts)[0]? = some (T.Acts l0) := by rw [hl0, List.getElem?_map, List.getElem?_eq_getElem (by omega)]; rfl
 have ha0 : at0 [] ls 0 = l0 := by rw [AL (by omega) (by omega), hl0]; rfl
 have hset0 : (ls.map T.Acts).set 0 (T.Acts l0) = ls.map T.Acts := D4 hz0
 refine nY Z ?_;refine Dv (id := 106) (i := 0) (off := 0) 107 Z hz0 Z Z Z (fun ad cp => ?_);refine nY Z ?_
 have hqp := AW (cd := cd) (n := 40) (c := c2)
 have hsc : BH cd c = Ch cd rs ls c2 := by unfold BH; rw [← hre]; dsimp only; rw [← hle]
 have hl04 := (hok l0 (by rw [hl0]; exact Nl _)).1
 refine rG (eZ Z (BE tys Z Z (AA Z) Z Z Z Z Z Z Z Z (by omega) (by omega) ?_));refine Bl tys Z Z (AA Z) Z Z Z Z (List.getElem?_set_self (by rw [Nj]; omega)) Z ?_;refine Eb Z Z (AA Z) Z ⟨74, by kernel_rfl⟩ rfl (eZ Z (nB ?_));refine AD Z (fun h3 => ?_) (fun h3 => ?_)
 ·
  simp only [HS] at h3;refine sQ ?_
  have hlt : 0 < l0.length := by simp_all
  refine kY [0,4,6] Z (rG (eZ Z ?_));refine cP [100] (hm := (Ao cd 40 c2 bw pv hcd (by omega) (by omega))) (k := ?_);refine nZ Z (nB (AG (sG (eK 2 Z (nB ?_)))));refine AD Z (fun h4 => ?_) (fun h4 => ?_)
  ·
   simp only [HS] at h4
   have hl0n : l0 ≠ [] := by intro e; rw [e] at hlt; simp at hlt
   obtain ⟨a0, lr, rfl⟩ : ∃ a0 lr, l0 = a0 :: lr := by cases l0 with | nil => exact absurd rfl hl0n | cons a l => exact ⟨a, l, rfl⟩
   refine nY Z ?_;refine W_le (Le.putBack (id := 106) (idq := 107) (i := 0) (off := 0) (T.Acts (a0 :: lr)) Z Z (List.getElem?_set_self (by rw [Nj]; omega)) Z Z Z) ?_;refine nY Z ?_;refine LS (id := 106) (i := 0) (off := 0) (z := T.Acts (a0 :: lr)) 109 1109 110 Z (fun x hx => by rcases acts_cells2 _ _ _ x hx with h | rfl | rfl <;> first | exact h | rfl) (List.getElem?_set_self (by rw [Ns, Nj]; omega)) Z (by simp) Z Z Z Z Z Z (fun b cap hcap => ?_);refine nY Z (DV 6 [[100], [100], [100], [], [], []] Ac Z (by kernel_rfl) (by kernel_rfl) (A9 (QG_ev tys Z Z (AA Z) Z (AF (A9 (Ce tys Z Z (AA Z) Z Z Z Z Z Z Z Z (by omega) (by omega) (AF (A9 ?_))))))));refine H8 tys 1109 Z Z (AA Z) Z Z Z Z (List.getElem?_set_self (by rw [Ns, Ns, Nj]; omega)) Z Z hcap ?_;refine AF (AZ (QG_ev tys Z Z (AA Z) Z (AF (AY Z (AZ ?_)))));refine BC tys [T.int (-1), T.int 3] Z Z (AA Z) Z Z Z Z Z (AA Z) (by repeat (first | exact PartsOk.nil' | refine PartsOk.cons' rfl (by repeat (first | exact AbsL.nil' | refine AbsL.v' ?_ | refine AbsL.own' ?_ | refine AbsL.none' ?_)) Z ?_)) Z Z Z (by decide) ?_;refine AF ?_;refine Bn (rid := 99) [100] Z Z (AA Z) Z Z (by repeat (first | exact ResP.done | refine ResP.pin0 1100 Z ?_ | refine ResP.t ?_ | refine ResP.nil 1 ?_ | refine ResP.nil' ?_ | refine ResP.own ?_ | refine ResP.sl Z Z (by first | omega | (simp; omega)) ?_ | refine ResP.aggT (by repeat (first | exact ResP.done | refine ResP.t ?_)) ?_)) Z (by repeat (first | exact trivial | refine ⟨rfl, rfl, ?_⟩)) (by decide) (EO cd [-1, 3] (curC cd 40 c2) bw pv hcd (by omega) (by omega) (by decide) (by decide)) Z Z Z ?_;refine Av ?_;refine ⟨by kernel_rfl, ?_⟩;refine nZ Z (BE tys Z Z (AA Z) Z Z Z Z Z Z Z Z (by omega) (by simp) ?_);refine eZ Z (Cs tys [T.int (at0 0 [-1, 3] (pickV cd 2 (curC cd 40 c2)))] Z Z Z Z Z Z (z := a0.tt) (by rw [OA, Act.toT_eq]; rfl) Z (AbsL.v' AbsL.nil') Z (by decide) (N3 Z) ?_);refine nZ Z (oN (bN (tN (sG (eK 4 Z (nB ?_))))))
   (refine W_le (Le.claimL (id := 106) (id2 := 109) (pid := 1109) (i := 0) (off := 0) rfl rfl rfl (List.getElem?_set_self (by rw [Ns, Ns, Nj]; omega)) rfl (by rw [Ns]) rfl) ?_; refine W_norm rfl ?_; refine W_le (Le.sameL (id := 106) (ys := (ls.set 0 (setChan (at0 0 [-1, 3] (pickV cd 2 (curC cd 40 c2))) (a0 :: lr))).map T.Acts) rfl (acts_same setChan_cells) (by simp) (fun x hx => by obtain ⟨y, _, rfl⟩ := OM.1 hx; rfl)) ?_; refine W_norm rfl ?_)
   refine W_le (Le.gather (u := 2) (id := 104) Z Z (by first | (simp; done) | (simp; omega))) ?_;refine nY Z (W_le (Le.gather (u := 3) (id := 106) Z Z (by first | (simp; done) | (simp; omega))) ?_);refine nY Z (rT ?_);refine eP [_] ?_ ?_
   ·rw [hsc]
    unfold Ch;rw [ha0]
    repeat' split
    all_goals first | rfl | (simp [Ni, Nr, hset0, T.ints, Nv]; done) | (simp [Ni, Nr, hset0, T.ints, Nv]; rfl) | (simp [Ni, Nr, hset0]; done) | (simp [Ni, Nr, hset0, Nv]; done) | (exfalso; omega) | (exfalso; simp_all; done) | (exfalso; simp_all; omega)
   ·rw [hsc]
    unfold Ch;rw [ha0]
    repeat' split
    all_goals first | rfl | (simp [Ni, Nr, hset0, T.ints, Nv]; done) | (simp [Ni, Nr, hset0, T.ints, Nv]; rfl) | (simp [Ni, Nr, hset0]; done) | (simp [Ni, Nr, hset0, Nv]; done) | (exfalso; omega) | (exfalso; simp_all; done) | (exfalso; simp_all; omega)
  simp only [HS] at h4;refine sG (eK 2 Z (nB ?_));refine AD Z (fun h5 => ?_) (fun h5 => ?_)
  ·
   simp only [HS] at h5
   have hl0n : l0 ≠ [] := by intro e; rw [e] at hlt; simp at hlt
   obtain ⟨a0, lr, rfl⟩ : ∃ a0 lr, l0 = a0 :: lr := by cases l0 with | nil => exact absurd rfl hl0n | cons a l => exact ⟨a, l, rfl⟩
   refine nY Z ?_;refine W_le (Le.putBack (id := 106) (idq := 107) (i := 0) (off := 0) (T.Acts (a0 :: lr)) Z Z (List.getElem?_set_self (by rw [Nj]; omega)) Z Z Z) ?_;refine nY Z ?_;refine LS (id := 106) (i := 0) (off := 0) (z := T.Acts (a0 :: lr)) 109 1109 110 Z (fun x hx => by rcases acts_cells2 _ _ _ x hx with h | rfl | rfl <;> first | exact h | rfl) (List.getElem?_set_self (by rw [Ns, Nj]; omega)) Z (by simp) Z Z Z Z Z Z (fun b cap hcap => ?_);refine nY Z (DV 5 [[100], [100], [100], [], []] Ac Z (by kernel_rfl) (by kernel_rfl) (A9 (QG_ev tys Z Z (AA Z) Z (AF (A9 (Ce tys Z Z (AA Z) Z Z Z Z Z Z Z Z (by omega) (by omega) (AF (A9 ?_))))))));refine H8 tys 1109 Z Z (AA Z) Z Z Z Z (List.getElem?_set_self (by rw [Ns, Ns, Nj]; omega)) Z Z hcap ?_;refine AF (AZ (QG_ev tys Z Z (AA Z) Z (AF (AY Z ?_))));refine Bn (rid := 99) [100] Z Z (AA Z) Z Z (by repeat (first | exact ResP.done | refine ResP.pin0 1100 Z ?_ | refine ResP.t ?_ | refine ResP.nil 1 ?_ | refine ResP.nil' ?_ | refine ResP.own ?_ | refine ResP.sl Z Z (by first | omega | (simp; omega)) ?_ | refine ResP.aggT (by repeat (first | exact ResP.done | refine ResP.t ?_)) ?_)) Z (by repeat (first | exact trivial | refine ⟨rfl, rfl, ?_⟩)) (by decide) (Ao cd 7 (curC cd 40 c2) bw pv hcd (by omega) (by omega)) Z Z Z ?_;refine Av ?_;refine ⟨by kernel_rfl, ?_⟩;refine nZ Z (BE tys Z Z (AA Z) Z Z Z Z Z Z Z Z (by omega) (by simp) ?_);refine eZ Z (Cs tys [T.int (pickV cd 7 (curC cd 40 c2))] Z Z Z Z Z Z (z := a0.tt) (by rw [OA, Act.toT_eq]; rfl) Z (AbsL.v' AbsL.nil') Z (by decide) (N3 Z) ?_);refine nZ Z (oN (bN (tN (sG (eK 4 Z (nB ?_))))))
   (refine W_le (Le.claimL (id := 106) (id2 := 109) (pid := 1109) (i := 0) (off := 0) rfl rfl rfl (List.getElem?_set_self (by rw [Ns, Ns, Nj]; omega)) rfl (by rw [Ns]) rfl) ?_; refine W_norm rfl ?_; refine W_le (Le.sameL (id := 106) (ys := (ls.set 0 (setKind (pickV cd 7 (curC cd 40 c2)) (a0 :: lr))).map T.Acts) rfl (acts_same setKind_cells) (by simp) (fun x hx => by obtain ⟨y, _, rfl⟩ := OM.1 hx; rfl)) ?_; refine W_norm rfl ?_)
   refine W_le (Le.gather (u := 2) (id := 104) Z Z (by first | (simp; done) | (simp; omega))) ?_;refine nY Z (W_le (Le.gather (u := 3) (id := 106) Z Z (by first | (simp; done) | (simp; omega))) ?_);refine nY Z (rT ?_);refine eP [_] ?_ ?_
   ·rw [hsc]
    unfold Ch;rw [ha0]
    repeat' split
    all_goals first | rfl | (simp [Ni, Nr, hset0, T.ints, Nv]; done) | (simp [Ni, Nr, hset0, T.ints, Nv]; rfl) | (simp [Ni, Nr, hset0]; done) | (simp [Ni, Nr, hset0, Nv]; done) | (exfalso; omega) | (exfalso; simp_all; done) | (exfalso; simp_all; omega)
   ·rw [hsc]
    unfold Ch;rw [ha0]
    repeat' split
    all_goals first | rfl | (simp [Ni, Nr, hset0, T.ints, Nv]; done) | (simp [Ni, Nr, hset0, T.ints, Nv]; rfl) | (simp [Ni, Nr, hset0]; done) | (simp [Ni, Nr, hset0, Nv]; done) | (exfalso; omega) | (exfalso; simp_all; done) | (exfalso; simp_all; omega)
  simp only [HS] at h5;refine sG (eK 2 Z (nB ?_));refine AD Z (fun h6 => ?_) (fun h6 => ?_)
  ·
   simp only [HS] at h6
   have hrs1 : 1 ≤ rs.length := hrs
   refine kY [0,4,6] Z (rG (eK 2 Z (bZ [T.int (-1), T.int 3, T.int 4] ?_)));refine nZ Z (WO_le (Le.gather (u := 77) (id := 77) Z Z (by first | (simp; done) | (simp; omega) | omega)) ?_);refine nZ Z ?_;refine cP [100] (hm := (EO cd [-1, 3, 4] (curC cd 40 c2) bw pv hcd (by omega) (by omega) (by decide) (by decide))) (k := ?_);refine nZ Z (BE tys Z Z (AA Z) Z Z Z Z Z Z Z Z (by omega) (by omega) (B2 tys (T.int (at0 0 [-1, 3, 4] (pickV cd 3 (curC cd 40 c2)))) Z Z Z Z Z Z (N5 _) (by rw [Nj]; exact hrs1) Z (AbsL.v' AbsL.nil') Z Z Z ?_));refine nZ Z (oN (bN (tN (sG (eK 3 Z (kZ [2,81] Z (eZ Z (nB ?_))))))))
   (refine W_le (Le.putBack (id := 106) (idq := 107) (i := 0) (off := 0) (T.Acts l0) rfl rfl (List.getElem?_set_self (by rw [Nj]; omega)) rfl rfl rfl) ?_; refine W_norm rfl ?_)
   refine W_le (Le.gather (u := 2) (id := 104) Z Z (by first | (simp; done) | (simp; omega))) ?_;refine nY Z (W_le (Le.gather (u := 3) (id := 106) Z Z (by first | (simp; done) | (simp; omega))) ?_);refine nY Z (rT ?_);refine eP [_] ?_ ?_
   ·rw [hsc]
    unfold Ch;rw [ha0]
    repeat' split
    all_goals first | rfl | (simp [Ni, Nr, hset0, T.ints, Nv]; done) | (simp [Ni, Nr, hset0, T.ints, Nv]; rfl) | (simp [Ni, Nr, hset0]; done) | (simp [Ni, Nr, hset0, Nv]; done) | (exfalso; omega) | (exfalso; simp_all; done) | (exfalso; simp_all; omega)
   ·rw [hsc]
    unfold Ch;rw [ha0]
    repeat' split
    all_goals first | rfl | (simp [Ni, Nr, hset0, T.ints, Nv]; done) | (simp [Ni, Nr, hset0, T.ints, Nv]; rfl) | (simp [Ni, Nr, hset0]; done) | (simp [Ni, Nr, hset0, Nv]; done) | (exfalso; omega) | (exfalso; simp_all; done) | (exfalso; simp_all; omega)
  simp only [HS] at h6;refine AE (bN (tN (sQ (kY [4,6] Z (rG (eK 4 Z (nB ?_)))))))
  (refine W_le (Le.putBack (id := 106) (idq := 107) (i := 0) (off := 0) (T.Acts l0) rfl rfl (List.getElem?_set_self (by rw [Nj]; omega)) rfl rfl rfl) ?_; refine W_norm rfl ?_)
  refine W_le (Le.gather (u := 2) (id := 104) Z Z (by first | (simp; done) | (simp; omega))) ?_;refine nY Z (W_le (Le.gather (u := 3) (id := 106) Z Z (by first | (simp; done) | (simp; omega))) ?_);refine nY Z (rT ?_);refine eP [_] ?_ ?_
  ·rw [hsc]
   unfold Ch;rw [ha0]
   repeat' split
   all_goals first | rfl | (simp [Ni, Nr, hset0, T.ints, Nv]; done) | (simp [Ni, Nr, hset0, T.ints, Nv]; rfl) | (simp [Ni, Nr, hset0]; done) | (simp [Ni, Nr, hset0, Nv]; done) | (exfalso; omega) | (exfalso; simp_all; done) | (exfalso; simp_all; omega)
  ·rw [hsc]
   unfold Ch;rw [ha0]
   repeat' split
   all_goals first | rfl | (simp [Ni, Nr, hset0, T.ints, Nv]; done) | (simp [Ni, Nr, hset0, T.ints, Nv]; rfl) | (simp [Ni, Nr, hset0]; done) | (simp [Ni, Nr, hset0, Nv]; done) | (exfalso; omega) | (exfalso; simp_all; done) | (exfalso; simp_all; omega)
 simp only [HS] at h3;refine AE (tN (sQ (kY [4,6] Z (rG (eK 4 Z (nB ?_))))))
 (refine W_le (Le.putBack (id := 106) (idq := 107) (i := 0) (off := 0) (T.Acts l0) rfl rfl (List.getElem?_set_self (by rw [Nj]; omega)) rfl rfl rfl) ?_; refine W_norm rfl ?_)
 refine W_le (Le.gather (u := 2) (id := 104) Z Z (by first | (simp; done) | (simp; omega))) ?_;refine nY Z (W_le (Le.gather (u := 3) (id := 106) Z Z (by first | (simp; done) | (simp; omega))) ?_);refine nY Z (rT ?_);refine eP [_] ?_ ?_
 ·rw [hsc]
  unfold Ch;rw [ha0]
  repeat' split
  all_goals first | rfl | (simp [Ni, Nr, hset0, T.ints, Nv]; done) | (simp [Ni, Nr, hset0, T.ints, Nv]; rfl) | (simp [Ni, Nr, hset0]; done) | (simp [Ni, Nr, hset0, Nv]; done) | (exfalso; omega) | (exfalso; simp_all; done) | (exfalso; simp_all; omega)
 ·rw [hsc]
  unfold Ch;rw [ha0]
  repeat' split
  all_goals first | rfl | (simp [Ni, Nr, hset0, T.ints, Nv]; done) | (simp [Ni, Nr, hset0, T.ints, Nv]; rfl) | (simp [Ni, Nr, hset0]; done) | (simp [Ni, Nr, hset0, Nv]; done) | (exfalso; omega) | (exfalso; simp_all; done) | (exfalso; simp_all; omega)
open Go.Eng
def DC (cd : List Int) : Nat → List Int → Cu → List Int × Cu
 | 0, l, c => (l, c)
 | k + 1, l, c => DC cd k (l ++ [pickV cd 6 c]) (curC cd 6 c)
def picks0 (cd : List Int) (c : Cu) : List Int × Cu := DC cd (pickV cd 16 c).toNat [] (curC cd 16 c)
def Be (cd : List Int) (c : Cu) : List Int × Cu :=
 if 0 < (picks0 cd c).1.length then
  if pickV cd 40 (picks0 cd c).2 = 0 then ((picks0 cd c).1.set 0 (at0 0 [-1, 999, 1000] (pickV cd 3 (curC cd 40 (picks0 cd c).2))), curC cd 3 (curC cd 40 (picks0 cd c).2))
  else ((picks0 cd c).1, curC cd 40 (picks0 cd c).2)
 else picks0 cd c
theorem Fw {cd : List Int} : ∀ (k : Nat) (l : List Int) (c : Cu), (DC cd k l c).1.length = l.length + k
 | 0, l, c => rfl
 | k + 1, l, c => by rw [DC, Fw k]; simp; omega
theorem Jw {cd : List Int} {c : Cu} (hcd : Dd cd) (h0 : 0 ≤ c.1) : (Be cd c).1.length ≤ 16 := by
 have hv := A8 (n := 16) (c := c) hcd h0
 have hv' := hv.2.1 (by omega)
 have e : (picks0 cd c).1.length ≤ 16 := by rw [picks0, Fw, N6]; omega
 unfold Be
 repeat' split
 all_goals first | exact e | (simp only [Ns]; exact e)
theorem GK (cd : List Int) (c : Cu) (bw : Nat) (pv : Value) (hcd : Dd cd) (h0 : 0 ≤ c.1) (h1 : c.1 ≤ 2097152) : Proc Try.prog 58 [.t (.v (.pointer (some ⟨bw, 0, none⟩)))] ([pv]) ([T.bytes cd]) [.obox (.pointer (some ⟨bw, 0, none⟩)) (cuC pv c)] (.own (T.ints (Be cd c).1)) [.obox (.pointer (some ⟨bw, 0, none⟩)) (cuC pv (Be cd c).2)] := by
 have hc2 := AW (cd := cd) (n := 16) (c := c)
 have hv2 := A8 (n := 16) (c := c) hcd (by omega)
 have hv2' := hv2.2.1 (by omega)
 refine Proc.intro tys Try.func58 Z Z (N := 29) [100] 99 ([(0, .t (.v (.pointer (some ⟨bw, 0, none⟩))))]) ([(100, .obox (.pointer (some ⟨bw, 0, none⟩)) (cuC pv c)), (99, .ro [pv] [T.bytes cd])]) Z Z Z Z (by decide) (by decide) Z (fun w0 G F0 => ?_);refine nY Z (sG (eZ Z (nA (eZ Z (WO_le (Le.nilOwn (u := 3) 1 Z) (nZ Z (WO_le (Le.adoptE (u := 3) 104 Z Z) (nZ Z (nB (sQ (sG (eZ Z ?_))))))))))));refine cP [100] (hm := (Ao cd 16 c bw pv hcd h0 (by omega))) (k := ?_);refine nZ Z (eZ Z (nB (AG ?_)));refine lK (α := Int × List Int × List T × Nat × Cu) [0] [99] (fun x => [(4, .t (.int (x.1))), (3, .sl 104 0 (x.2.2.2.1))]) (fun x => [(100, .obox (.pointer (some ⟨bw, 0, none⟩)) (cuC pv (x.2.2.2.2))), (104, .L 1 (x.2.2.1))]) (fun x => 0 ≤ (x.1) ∧ (x.2.1).length + (x.1) ≤ 16 ∧ (x.2.2.2.1) = (x.2.2.1).length ∧ (x.2.2.1) = (x.2.1).map T.int ∧ DC cd (x.1).toNat (x.2.1) (x.2.2.2.2) = picks0 cd c ∧ c.1 ≤ (x.2.2.2.2).1 ∧ (x.2.2.2.2).1 ≤ c.1 + 40 - 2 * (x.1)) (fun x => Int.toNat ((x.1))) (pickV cd 16 c, [], [], 0, curC cd 16 c) ?_ (fun x hx => ?_)
 ·dsimp only
  exact ⟨by omega, by simp; omega, rfl, rfl, rfl, by omega, by omega⟩
 obtain ⟨k, rs, ys, n, c'⟩ := x
 obtain ⟨hk0, hk1, hn, hys, hre, hca, hcb⟩ := hx
 dsimp only at hk0 hk1 hn hys hre hca hcb ⊢;refine nY Z (sQ (sG (eK 2 Z (nB ?_))));refine AD Z (fun h1 => ?_) (fun h1 => ?_)
 ·
  simp only [HS] at h1;refine AE (tN (sQ (AG ?_)))
  have hk4 := AW (cd := cd) (n := 6) (c := c')
  refine rG (eK 2 Z ?_);refine cP [100] (hm := (Ao cd 6 c' bw pv hcd (by omega) (by omega))) (k := ?_);refine nZ Z (bZ [T.int (pickV cd 6 c')] ?_);refine nZ Z (Ab tys Z Z (AA Z) Z Z Z Z Z (.own Z (by first | omega | (simp only [Nu]; omega))) Z (.own Z (by first | decide | omega)) (by decide) (by simp only [N0, Nx, N6]; rw [hys, Nj]; omega) (by decide) Z ?_);refine nZ Z (eZ Z (oN (bN (tN (kY [0,3,4,7,8,11,12,13,14,15] Z (rG (eZ Z (evI ?_))))))));refine eZ Z (oN ?_);refine lQ (_, rs ++ [pickV cd 6 c'], _, _, _) ?_ ?_
  ·dsimp only
   subst hn
   have hk5 : k.toNat = (k - 1).toNat + 1 := by omega
   rw [hk5, DC] at hre;refine ⟨by omega, by simp; omega, by simp, ?_, hre, by omega, by omega⟩;rw [N8, hys, OU];rfl
  ·(show Int.toNat _ < Int.toNat _); omega
 simp only [HS] at h1;refine AR (tE (AO (AN (tN (sQ (sQ ?_))))))
 have hk6 : k.toNat = 0 := by omega
 rw [hk6, DC] at hre;subst hn hys;rw [Nj];refine nY Z ?_
 have hkp := AW (cd := cd) (n := 40) (c := c')
 refine rG (eZ Z (evE ?_));refine eK 2 Z ?_;refine gB (fun h2 => ?_) (fun h2 => ?_)
 ·
  simp only [HS] at h2;refine xK 2 Z (nB (A0 Z (AE (tN (sQ (kY [3] Z (rG (eK 2 Z (nB (W_le (Le.gather (u := 2) (id := 104) Z Z (by first | (simp; done) | (simp; omega))) ?_))))))))));refine nY Z (rT ?_);refine eP [_] ?_ ?_
  ·unfold Be
   rw [← hre];dsimp only
   repeat' split
   all_goals first | (exfalso; omega) | rfl | (simp [Ni, T.ints, Nv]; done) | (simp [Ni, T.ints, Nv]; rfl)
  ·unfold Be
   rw [← hre];dsimp only
   repeat' split
   all_goals first | (exfalso; omega) | rfl | (simp [Ni, T.ints, Nv]; done) | (simp [Ni, T.ints, Nv]; rfl)
 simp only [HS] at h2;refine eZ Z (gY Z ?_);refine cP [100] (hm := (FF cd 40 c' bw pv hcd (by omega) (by omega))) (k := ?_);refine nZ Z (eZ Z (kZ [0,3,22] Z (nB ?_)));refine AD Z (fun h3 => ?_) (fun h3 => ?_)
 ·
  simp only [HS] at h3
  have hrs1 : 1 ≤ rs.length := by omega
  refine rG (eK 2 Z (bZ [T.int (-1), T.int 999, T.int 1000] ?_));refine nZ Z (WO_le (Le.gather (u := 25) (id := 25) Z Z (by first | (simp; done) | (simp; omega) | omega)) ?_);refine nZ Z ?_;refine cP [100] (hm := (EO cd [-1, 999, 1000] (curC cd 40 c') bw pv hcd (by omega) (by omega) (by decide) (by decide))) (k := ?_);refine nZ Z (BE tys Z Z (AA Z) Z Z Z Z Z Z Z Z (by omega) (by omega) (B2 tys (T.int (at0 0 [-1, 999, 1000] (pickV cd 3 (curC cd 40 c')))) Z Z Z Z Z Z (N5 _) (by rw [Nj]; exact hrs1) Z (AbsL.v' AbsL.nil') Z Z Z ?_));refine nZ Z (nA (eK 2 Z (nB (W_le (Le.gather (u := 2) (id := 104) Z Z (by first | (simp; done) | (simp; omega))) ?_))));refine nY Z (rT ?_);refine eP [_] ?_ ?_
  ·unfold Be
   rw [← hre];dsimp only
   repeat' split
   all_goals first | (exfalso; omega) | rfl | (simp [Ni, T.ints, Nv]; done) | (simp [Ni, T.ints, Nv]; rfl)
  ·unfold Be
   rw [← hre];dsimp only
   repeat' split
   all_goals first | (exfalso; omega) | rfl | (simp [Ni, T.ints, Nv]; done) | (simp [Ni, T.ints, Nv]; rfl)
 simp only [HS] at h3;refine AE (tN (sG (eK 2 Z (nB (W_le (Le.gather (u := 2) (id := 104) Z Z (by first | (simp; done) | (simp; omega))) ?_)))));refine nY Z (rT ?_);refine eP [_] ?_ ?_
 ·unfold Be
  rw [← hre];dsimp only
  repeat' split
  all_goals first | (exfalso; omega) | rfl | (simp [Ni, T.ints, Nv]; done) | (simp [Ni, T.ints, Nv]; rfl)
 ·unfold Be
  rw [← hre];dsimp only
  repeat' split
  all_goals first | (exfalso; omega) | rfl | (simp [Ni, T.ints, Nv]; done) | (simp [Ni, T.ints, Nv]; rfl)
open Go.Eng
abbrev cu0 : Cu := (0, 0)
theorem I2 {cd : List Int} : ∀ (k : Nat) (l : List Int) (c : Cu), c.1 ≤ (E8 cd k l c).2.1 ∧ (E8 cd k l c).2.1 ≤ c.1 + 2 * k
 | 0, l, c => by simp [E8]
 | k + 1, l, c => by
  have h1 := AW (cd := cd) (n := 4) (c := c)
  have h3 := I2 (cd := cd) k (l ++ [at0 0 [0, 0, 1, 2] (pickV cd 4 c)]) (curC cd 4 c)
  rw [E8];omega
theorem Lx {cd : List Int} {c : Cu} (hcd : Dd cd) (h0 : 0 ≤ c.1) : c.1 ≤ (Dj cd c).2.1 ∧ (Dj cd c).2.1 ≤ c.1 + 6 ∧ (Dj cd c).1.length ≤ 2 := by
 have h1 := AW (cd := cd) (n := 2) (c := c)
 have hv := A8 (n := 2) (c := c) hcd h0
 have hv' := hv.2.1 (by omega)
 have h3 := I2 (cd := cd) (1 + pickV cd 2 c).toNat [] (curC cd 2 c)
 rw [Dj, E7, N6];omega
theorem JQ {cd : List Int} {chans : Int} (hcd : Dd cd) : ∀ (k : Nat) (l : List Act) (c : Cu), 0 ≤ c.1 → c.1 ≤ (Dn cd chans k l c).2.1 ∧ (Dn cd chans k l c).2.1 ≤ c.1 + 30 * k ∧ (Dn cd chans k l c).1.length = l.length + k ∧ ((∀ a, a ∈ l → HZ a) → ∀ a, a ∈ (Dn cd chans k l c).1 → HZ a)
 | 0, l, c, h0 => by simp [Dn]
 | k + 1, l, c, h0 => by
  have h1 := Ms (cd := cd) (chans := chans) (c := c) hcd h0
  have h2 := Mr (cd := cd) (chans := chans) (c := c) hcd h0
  have h3 := JQ (cd := cd) (chans := chans) hcd k (l ++ [(acA cd chans c).1]) (acA cd chans c).2 (by omega)
  rw [Dn];rw [Nu, Nx, N6] at h3;refine ⟨by omega, by omega, by omega, fun hl => h3.2.2.2 fun a ha => ?_⟩
  rcases Nn.1 ha with h | h
  ·exact hl a h
  ·rw [OE] at h; subst h; exact h2
theorem Hd {cd : List Int} {chans : Int} (hcd : Dd cd) : ∀ (k : Nat) (l : List (List Act)) (c : Cu), 0 ≤ c.1 → c.1 ≤ (DH cd chans k l c).2.1 ∧ (DH cd chans k l c).2.1 ≤ c.1 + 130 * k ∧ (DH cd chans k l c).1.length = l.length + k ∧ ((∀ a, a ∈ l → a.length ≤ 4 ∧ ∀ b, b ∈ a → HZ b) → ∀ a, a ∈ (DH cd chans k l c).1 → a.length ≤ 4 ∧ ∀ b, b ∈ a → HZ b)
 | 0, l, c, h0 => by simp [DH]
 | k + 1, l, c, h0 => by
  have h1 := AW (cd := cd) (n := 5) (c := c)
  have hv := A8 (n := 5) (c := c) hcd h0
  have hv' := hv.2.1 (by omega)
  have h2 := JQ (cd := cd) (chans := chans) hcd (pickV cd 5 c).toNat [] (curC cd 5 c) (by omega)
  have h3 := Hd (cd := cd) (chans := chans) hcd k (l ++ [(Dn cd chans (pickV cd 5 c).toNat [] (curC cd 5 c)).1]) (Dn cd chans (pickV cd 5 c).toNat [] (curC cd 5 c)).2 (by omega)
  rw [DH];rw [Nu, Nx, N6] at h3;rw [N6] at h2;refine ⟨by omega, by omega, by omega, fun hl => h3.2.2.2 fun a ha => ?_⟩
  rcases Nn.1 ha with h | h
  ·exact hl a h
  ·rw [OE] at h; subst h; exact ⟨by omega, h2.2.2.2 (by simp)⟩
def okS (acts : List (List Act)) : Prop := acts.length ≤ 3 ∧ ∀ a, a ∈ acts → a.length ≤ 4 ∧ ∀ b, b ∈ a → HZ b
theorem K0 {cd : List Int} {r : List Int × Cu} (hcd : Dd cd) (h0 : 0 ≤ r.2.1) : r.2.1 ≤ (DG cd r).2.1 ∧ (DG cd r).2.1 ≤ r.2.1 + 400 ∧ okS (DG cd r).1 := by
 have h1 := AW (cd := cd) (n := 2) (c := r.2)
 have hv := A8 (n := 2) (c := r.2) hcd h0
 have hv' := hv.2.1 (by omega)
 have h3 := Hd (cd := cd) (chans := r.1.length) hcd (2 + pickV cd 2 r.2).toNat [] (curC cd 2 r.2) (by omega)
 rw [N6] at h3;rw [DG];exact ⟨by omega, by omega, by omega, h3.2.2.2 (by simp)⟩
theorem Js {v : Int} : ∀ {l : List Act}, (l.length ≤ 4 ∧ ∀ b, b ∈ l → HZ b) → (setChan v l).length ≤ 4 ∧ ∀ b, b ∈ setChan v l → HZ b
 | [], h => h
 | a :: l, h => by
  refine ⟨h.1, fun b hb => ?_⟩
  rcases N2.1 hb with rfl | hb
  ·exact h.2 a (by simp)
  ·exact h.2 b (by simp [hb])
theorem Jr {v : Int} : ∀ {l : List Act}, (l.length ≤ 4 ∧ ∀ b, b ∈ l → HZ b) → (setKind v l).length ≤ 4 ∧ ∀ b, b ∈ setKind v l → HZ b
 | [], h => h
 | a :: l, h => by
  refine ⟨h.1, fun b hb => ?_⟩
  rcases N2.1 hb with rfl | hb
  ·exact h.2 a (by simp)
  ·exact h.2 b (by simp [hb])
theorem Ku {acts : List (List Act)} {l : List Act} (h : okS acts) (hl : l.length ≤ 4 ∧ ∀ b, b ∈ l → HZ b) : okS (acts.set 0 l) :=
 ⟨by rw [Ns]; exact h.1, fun a ha => by rcases OK ha with ha | rfl <;> first | exact h.2 a ha | exact hl⟩
theorem Md {acts : List (List Act)} (h : okS acts) : (at0 [] acts 0).length ≤ 4 ∧ ∀ b, b ∈ at0 [] acts 0 → HZ b := by
 cases acts with
 | nil => exact ⟨OQ _, fun b hb => by cases hb⟩
 | cons a l => exact h.2 a (by simp)
theorem E4 {cd : List Int} {c : Cu} (hcd : Dd cd) (h0 : 0 ≤ c.1) : c.1 ≤ (BH cd c).2.1 ∧ (BH cd c).2.1 ≤ c.1 + 500 ∧ (BH cd c).1.1.length ≤ 2 ∧ okS (BH cd c).1.2 := by
 have h1 := Lx (c := c) hcd h0
 have h2 := K0 (cd := cd) (r := Dj cd c) hcd (by omega)
 have p1 := AW (cd := cd) (n := 40) (c := (DG cd (Dj cd c)).2)
 have p2 := AW (cd := cd) (n := 2) (c := curC cd 40 (DG cd (Dj cd c)).2)
 have p3 := AW (cd := cd) (n := 7) (c := curC cd 40 (DG cd (Dj cd c)).2)
 have p4 := AW (cd := cd) (n := 3) (c := curC cd 40 (DG cd (Dj cd c)).2)
 rw [BH];unfold Ch
 repeat' split
 ·exact ⟨by dsimp only; omega, by dsimp only; omega, h1.2.2, Ku h2.2.2 (Js (Md h2.2.2))⟩
 ·exact ⟨by dsimp only; omega, by dsimp only; omega, h1.2.2, Ku h2.2.2 (Jr (Md h2.2.2))⟩
 ·exact ⟨by dsimp only; omega, by dsimp only; omega, by dsimp only; rw [Ns]; exact h1.2.2, h2.2.2⟩
 ·exact ⟨by dsimp only; omega, by dsimp only; omega, h1.2.2, h2.2.2⟩
 ·exact ⟨by dsimp only; omega, by dsimp only; omega, h1.2.2, h2.2.2⟩
open Go.Eng
theorem NS (a b : List Int) (ha : a.length ≤ 9223372036854775807) (hb : b.length ≤ 9223372036854775807) : Fun Try.prog 4 [.t (T.bytes a), .t (T.bytes b)] (tupD [.t (.bool (decide ((1048576 : Int) < a.length) || decide ((1048576 : Int) - a.length < b.length)))]) := by
 refine Fun.begin tys Try.func4 Z Z (N := 16) [(0, .t (T.bytes a)), (1, .t (T.bytes b))] Z Z (fun w0 G F0 => ?_);refine sG (eZ Z (nA (eZ Z (evE ?_))));refine eK 2 Z ?_;refine gB (fun h1 => ?_) (fun h1 => ?_)
 ·
  simp only [HS] at h1;refine xK 4 Z (kZ [4,8,10,13] Z (xK 3 Z (nB (rT (eR ?_)))))
  ·simp_all
   done
 simp only [HS] at h1;refine eZ Z (gY Z (evE ?_));refine xZ Z (gY Z (evE ?_));refine kZ [4,8,10,12] Z (gY Z (evI ?_));refine xK 3 Z (nB (rT (eR ?_)))
 ·simp_all
  omega
theorem DA (a : List Int) (ha : a.length ≤ 1073741824) : Fun Try.prog 36 [.t (T.ints a), .t (T.ints a)] (tupD [.t (.bool true)]) := by
 refine Fun.begin tys Try.func36 Z Z (N := 26) [(0, .t (T.ints a)), (1, .t (T.ints a))] Z Z (fun w0 G F0 => ?_);refine sG (eZ Z (nB (sQ (sG (eZ Z (evE ?_))))));refine eZ Z (evE ?_);refine eZ Z (WO_le (Le.known (t := 10) false Z (by simp)) ?_);refine nB (A0 Z (AE (tN (sQ (sG (eZ Z (evE ?_)))))));refine eZ Z (kZ [0,1,4,12,13] Z (nB (AG ?_)));refine lK (α := Int) [0, 1, 12] [] (fun x => [(13, .t (.int x))]) (fun x => []) (fun x => 0 ≤ x ∧ x ≤ a.length) (fun x => Int.toNat (a.length - x)) 0 ?_ (fun k hx => ?_)
 ·exact ⟨by omega, by omega⟩
 obtain ⟨hk0, hk1⟩ := hx
 refine nY Z (sG (eZ Z (nB (sQ ?_))));refine AD Z (fun h1 => ?_) (fun h1 => ?_)
 ·
  simp only [HS] at h1;refine AE (tN (sQ (AG (sG (eK 2 Z (nB (sQ (AV Ac (by kernel_rfl) (evQ ?_)))))))));refine evQ ?_;refine AP tys Z Z (AA Z) Z Z Z Z Z Z Z (by omega) _ (CM _ _ (by omega) (by omega)) (AH Z (evQ ?_));refine evQ ?_;refine evQ ?_;refine AP tys Z Z (AA Z) Z Z Z Z Z Z Z (by omega) _ (CM _ _ (by omega) (by omega)) (evQ ?_);refine evQ ?_;refine Ap (v := false) (by simp) ?_;refine AH Z (Aj (tN (A0 Z (AE (bN (tN (rG (evI ?_))))))));refine eZ Z (oN ?_);refine lQ _ ?_ ?_
  ·skip
   exact ⟨by omega, by omega⟩
  ·(show Int.toNat _ < Int.toNat _); omega
 simp only [HS] at h1;refine AR (tE (AO (AN (tN (sG (eZ Z (nB (rT (eR ?_)))))))))
 ·rfl
theorem GS (a : List Bool) (ha : a.length ≤ 1073741824) : Fun Try.prog 37 [.t (T.bools a), .t (T.bools a)] (tupD [.t (.bool true)]) := by
 refine Fun.begin tys Try.func37 Z Z (N := 26) [(0, .t (T.bools a)), (1, .t (T.bools a))] Z Z (fun w0 G F0 => ?_);refine sG (eZ Z (nB (sQ (sG (eZ Z (evE ?_))))));refine eZ Z (evE ?_);refine eZ Z (WO_le (Le.known (t := 10) false Z (by simp)) ?_);refine nB (A0 Z (AE (tN (sQ (sG (eZ Z (evE ?_)))))));refine eZ Z (kZ [0,1,4,12,13] Z (nB (AG ?_)));refine lK (α := Int) [0, 1, 12] [] (fun x => [(13, .t (.int x))]) (fun x => []) (fun x => 0 ≤ x ∧ x ≤ a.length) (fun x => Int.toNat (a.length - x)) 0 ?_ (fun k hx => ?_)
 ·exact ⟨by omega, by omega⟩
 obtain ⟨hk0, hk1⟩ := hx
 refine nY Z (sG (eZ Z (nB (sQ ?_))));refine AD Z (fun h1 => ?_) (fun h1 => ?_)
 ·
  simp only [HS] at h1;refine AE (tN (sQ (AG (sG (eK 2 Z (nB (sQ (AV Ac (by kernel_rfl) (evQ ?_)))))))));refine evQ ?_;refine AP tys Z Z (AA Z) Z Z Z Z Z Z Z (by omega) _ (CM _ _ (by omega) (by omega)) (AH Z (evQ ?_));refine evQ ?_;refine evQ ?_;refine AP tys Z Z (AA Z) Z Z Z Z Z Z Z (by omega) _ (CM _ _ (by omega) (by omega)) (evQ ?_);refine evQ ?_;refine Ap (v := false) (by simp) ?_;refine AH Z (Aj (tN (A0 Z (AE (bN (tN (rG (evI ?_))))))));refine eZ Z (oN ?_);refine lQ _ ?_ ?_
  ·skip
   exact ⟨by omega, by omega⟩
  ·(show Int.toNat _ < Int.toNat _); omega
 simp only [HS] at h1;refine AR (tE (AO (AN (tN (sG (eZ Z (nB (rT (eR ?_)))))))))
 ·rfl
theorem D5 (a : List (List Int)) (ha : a.length ≤ 1073741824) (hx : ∀ x, x ∈ a → x.length ≤ 1073741824) : Fun Try.prog 11 [.t (Af a), .t (Af a)] (tupD [.t (.bool true)]) := by
 refine Fun.begin tys Try.func11 Z Z (N := 27) [(0, .t (Af a)), (1, .t (Af a))] Z Z (fun w0 G F0 => ?_);refine sG (eZ Z (nB (sQ (sG (eZ Z (evE ?_))))));refine eZ Z (evE ?_);refine eZ Z (WO_le (Le.known (t := 10) false Z (by simp)) ?_);refine nB (A0 Z (AE (tN (sQ (sG (eZ Z (evE ?_)))))));refine eZ Z (kZ [0,1,4,12,13] Z (nB (AG ?_)));refine lK (α := Int) [0, 1, 12] [] (fun x => [(13, .t (.int x))]) (fun x => []) (fun x => 0 ≤ x ∧ x ≤ a.length) (fun x => Int.toNat (a.length - x)) 0 ?_ (fun k hx => ?_)
 ·exact ⟨by omega, by omega⟩
 obtain ⟨hk0, hk1⟩ := hx
 refine nY Z (sG (eZ Z (nB (sQ ?_))));refine AD Z (fun h1 => ?_) (fun h1 => ?_)
 ·
  simp only [HS] at h1;refine AE (tN (sQ (AG (sG (eK 2 Z (nB (sQ (AV Ac (by kernel_rfl) (evQ ?_)))))))));refine evQ ?_;refine AP tys Z Z (AA Z) Z Z Z Z Z Z Z (by omega) _ (CM _ _ (by omega) (by omega)) (AH Z (evQ ?_));refine evQ ?_;refine evQ ?_;refine AP tys Z Z (AA Z) Z Z Z Z Z Z Z (by omega) _ (CM _ _ (by omega) (by omega)) (evQ ?_);refine Cb ?_;refine ⟨_, DA _ (hx _ (Nl _)), rfl, ?_⟩;refine AH Z (evQ ?_);refine Ap (v := false) (by simp) ?_;refine Aj (tN (A0 Z (AE (bN (tN (rG (evI ?_)))))));refine eZ Z (oN ?_);refine lQ _ ?_ ?_
  ·skip
   exact ⟨by omega, by omega⟩
  ·(show Int.toNat _ < Int.toNat _); omega
 simp only [HS] at h1;refine AR (tE (AO (AN (tN (sG (eZ Z (nB (rT (eR ?_)))))))))
 ·rfl
theorem D6 (a : List Act) (ha : a.length ≤ 1073741824) (hs : ∀ x, x ∈ a → Fun Try.prog 38 [.t (T.Acts x.cases), .t (T.Acts x.cases)] (.t (.bool true))) : Fun Try.prog 38 [.t (T.Acts a), .t (T.Acts a)] (tupD [.t (.bool true)]) := by
 refine Fun.begin tys Try.func38 Z Z (N := 68) [(0, .t (T.Acts a)), (1, .t (T.Acts a))] Z Z (fun w0 G F0 => ?_);refine sG (eZ Z (nB (sQ (sG (eZ Z (evE ?_))))));refine eZ Z (evE ?_);refine eZ Z (WO_le (Le.known (t := 10) false Z (by simp)) ?_);refine nB (A0 Z (AE (tN (sQ (sG (eZ Z (evE ?_)))))));refine eZ Z (kZ [0,1,4,12,13] Z (nB (AG ?_)));refine lK (α := Int) [0, 1, 12] [] (fun x => [(13, .t (.int x))]) (fun x => []) (fun x => 0 ≤ x ∧ x ≤ a.length) (fun x => Int.toNat (a.length - x)) 0 ?_ (fun k hx => ?_)
 ·exact ⟨by omega, by omega⟩
 obtain ⟨hk0, hk1⟩ := hx
 refine nY Z (sG (eZ Z (nB (sQ ?_))));refine AD Z (fun h1 => ?_) (fun h1 => ?_)
 ·
  simp only [HS] at h1;refine AE (tN (sQ (AG (sG (eK 2 Z (nB (sQ (AV Ac (by kernel_rfl) (evQ ?_)))))))));refine evQ ?_;refine AP tys Z Z (AA Z) Z Z Z Z Z Z Z (by omega) _ (Az _ (by omega) (by omega)) (AH Z (evQ ?_));refine evQ ?_;refine evQ ?_;refine evQ ?_;refine AP tys Z Z (AA Z) Z Z Z Z Z Z Z (by omega) _ (Az _ (by omega) (by omega)) (evQ ?_);refine AH Z (evQ ?_);refine evQ ?_;refine Ap (v := false) (by simp) ?_;refine evQ ?_;refine AB Z Z Z Z (AA Z) (evQ ?_);refine AB Z Z Z Z (AA Z) (evQ ?_);refine AB Z Z Z Z (AA Z) (AP tys Z Z (AA Z) Z Z Z Z Z Z Z (by omega) _ (Az _ (by omega) (by omega)) (AH Z (AB Z Z Z Z (AA Z) (evQ ?_))));refine AB Z Z Z Z (AA Z) (evQ ?_);refine AB Z Z Z Z (AA Z) (evQ ?_);refine AB Z Z Z Z (AA Z) (evQ ?_);refine AB Z Z Z Z (AA Z) (AP tys Z Z (AA Z) Z Z Z Z Z Z Z (by omega) _ (Az _ (by omega) (by omega)) (AB Z Z Z Z (AA Z) (evQ ?_)));refine AH Z (AB Z Z Z Z (AA Z) (evQ ?_));refine AB Z Z Z Z (AA Z) (evQ ?_);refine Ap (v := false) (by simp) ?_;refine evQ ?_;refine evQ ?_;refine AB Z Z Z Z (AA Z) (evQ ?_);refine AB Z Z Z Z (AA Z) (evQ ?_);refine AH Z (AB Z Z Z Z (AA Z) (AP tys Z Z (AA Z) Z Z Z Z Z Z Z (by omega) _ (Az _ (by omega) (by omega)) (AB Z Z Z Z (AA Z) (evQ ?_))));refine AB Z Z Z Z (AA Z) (evQ ?_);refine AB Z Z Z Z (AA Z) (evQ ?_);refine AB Z Z Z Z (AA Z) (evQ ?_);refine AB Z Z Z Z (AA Z) (AP tys Z Z (AA Z) Z Z Z Z Z Z Z (by omega) _ (Az _ (by omega) (by omega)) (AH Z (AB Z Z Z Z (AA Z) (evQ ?_))));refine AB Z Z Z Z (AA Z) (evQ ?_);refine AB Z Z Z Z (AA Z) (evQ ?_);refine Ap (v := false) (by simp) ?_;refine evQ ?_;refine evQ ?_;refine AB Z Z Z Z (AA Z) (evQ ?_);refine AH Z (AB Z Z Z Z (AA Z) (evQ ?_));refine AB Z Z Z Z (AA Z) (AP tys Z Z (AA Z) Z Z Z Z Z Z Z (by omega) _ (Az _ (by omega) (by omega)) (AB Z Z Z Z (AA Z) (evQ ?_)));refine AB Z Z Z Z (AA Z) (evQ ?_);refine AB Z Z Z Z (AA Z) (evQ ?_);refine AB Z Z Z Z (AA Z) (evQ ?_);refine AH Z (AB Z Z Z Z (AA Z) (AP tys Z Z (AA Z) Z Z Z Z Z Z Z (by omega) _ (Az _ (by omega) (by omega)) (AB Z Z Z Z (AA Z) (evQ ?_))));refine AB Z Z Z Z (AA Z) (evQ ?_);refine AB Z Z Z Z (AA Z) (Cb ?_);refine ⟨_, hs _ (Nl _), rfl, ?_⟩;refine Ap (v := true) (rfl) (AB Z Z Z Z (AA Z) (evQ ?_));refine Ap (v := false) (by simp) ?_;refine evQ ?_;refine AH Z (Aj (tN (A0 Z (AE (bN (tN (rG (evI ?_))))))));refine eZ Z (oN ?_);refine lQ _ ?_ ?_
  ·skip
   exact ⟨by omega, by omega⟩
  ·(show Int.toNat _ < Int.toNat _); omega
 simp only [HS] at h1;refine AR (tE (AO (AN (tN (sG (eZ Z (nB (rT (eR ?_)))))))))
 ·rfl
theorem GR (x : Act) (hx : x.ok 1048576) : Fun Try.prog 38 [.t (T.Acts x.cases), .t (T.Acts x.cases)] (.t (.bool true)) :=
 Act.ind (p := fun x => x.ok 1048576 → Fun Try.prog 38 [.t (T.Acts x.cases), .t (T.Acts x.cases)] (.t (.bool true)))
  (fun x ih hx => D6 x.cases (by have := hx.cases'.1; omega) fun y hy => ih y hy (hx.cases'.2 y hy)) x hx
theorem HE (l : List Act) (hl : okL 1048576 (Act.ok 1048576) l) : Fun Try.prog 38 [.t (T.Acts l), .t (T.Acts l)] (.t (.bool true)) :=
 D6 l (by have := hl.1; omega) fun y hy => GR y (hl.2 y hy)
theorem GO (w : World) (hw : w.ok 1048576) : Fun Try.prog 10 [.t w.tt, .t w.tt] (tupD [.t (.bool true)]) := by
 have hr : w.room.length ≤ 1048576 := hw.1
 have hh : w.held.length ≤ 1048576 := hw.2.1.1
 have hs : w.shut.length ≤ 1048576 := hw.2.2.1
 have ht : w.tasks.length ≤ 1048576 := hw.2.2.2.1.1
 have htr : w.trace.length ≤ 1048576 := hw.2.2.2.2.1
 refine Fun.begin tys Try.func10 Z Z (N := 111) [(0, .t w.tt), (1, .t w.tt)] Z Z (fun w0 G F0 => ?_);refine sG (Aa Z Z (AA Z) Z Z (nZ Z (Aa Z Z (AA Z) Z Z (nZ Z (eZ Z (nB (sQ (sG (eK 4 Z (AQ ?_))))))))));refine ⟨_, DA w.room (by omega), rfl, ?_⟩;refine eZ Z (WO_le (Le.known (t := 11) false Z (by simp)) ?_);refine kZ [2,3,4,11] Z (xK 5 Z (gY Z (AQ ?_)));refine ⟨_, D5 w.held (by omega) (fun x hx => by have : x.length ≤ 1048576 := hw.2.1.2 x hx; omega), rfl, ?_⟩;refine xZ Z (WO_le (Le.known (t := 18) false Z (by simp)) ?_);refine eK 2 Z (kZ [2,3,4,20] Z (xK 4 Z (gY Z (AQ ?_))));refine ⟨_, GS w.shut (by omega), rfl, ?_⟩;refine xZ Z (WO_le (Le.known (t := 26) false Z (by simp)) ?_);refine xK 3 Z (kZ [2,3,4,28,29] Z (xK 3 Z (gY Z (AQ ?_))));refine ⟨_, DA w.trace (by omega), rfl, ?_⟩;refine xZ Z (WO_le (Le.known (t := 34) false Z (by simp)) ?_);refine xK 4 Z (kZ [2,3,4,36,38] Z (gY Z (evE ?_)));refine xK 2 Z (gY Z (evE ?_));refine xZ Z (WO_le (Le.known (t := 43) false Z (by simp)) ?_);refine eZ Z (nB (A0 Z (AE (tN (sQ (sG (eK 2 Z (evE ?_))))))));refine kZ [2,3,4,47] Z (eZ Z (nB (AG ?_)));refine lK (α := Int) [2, 3, 47] [2, 3] (fun x => [(48, .t (.int x))]) (fun x => []) (fun x => 0 ≤ x ∧ x ≤ w.tasks.length) (fun x => Int.toNat (w.tasks.length - x)) 0 ?_ (fun k hx => ?_)
 ·exact ⟨by omega, by omega⟩
 obtain ⟨hk0, hk1⟩ := hx
 refine nY Z (sG (eZ Z (nB (sQ ?_))));refine AD Z (fun h1 => ?_) (fun h1 => ?_)
 ·
  simp only [HS] at h1;refine AE (tN (sQ (AG (sG (eK 2 Z (nB (sQ (AV Ac (by kernel_rfl) (evQ ?_)))))))));refine evQ ?_;refine evQ ?_;refine AH Z (AP tys Z Z (AA Z) Z Z Z Z Z Z Z (by omega) _ (CM _ _ (by omega) (by omega)) (evQ ?_));refine evQ ?_;refine evQ ?_;refine evQ ?_;refine evQ ?_;refine AH Z (AP tys Z Z (AA Z) Z Z Z Z Z Z Z (by omega) _ (CM _ _ (by omega) (by omega)) (evQ ?_));refine evQ ?_;refine evQ ?_;refine Ap (v := false) (by simp) ?_;refine evQ ?_;refine AB Z Z Z Z (AA Z) (evQ ?_);refine AH Z (AB Z Z Z Z (AA Z) (evQ ?_));refine AB Z Z Z Z (AA Z) (evQ ?_);refine AB Z Z Z Z (AA Z) (AP tys Z Z (AA Z) Z Z Z Z Z Z Z (by omega) _ (CM _ _ (by omega) (by omega)) (AB Z Z Z Z (AA Z) (evQ ?_)));refine AB Z Z Z Z (AA Z) (evQ ?_);refine AB Z Z Z Z (AA Z) (evQ ?_);refine AH Z (AB Z Z Z Z (AA Z) (evQ ?_));refine AB Z Z Z Z (AA Z) (evQ ?_);refine AB Z Z Z Z (AA Z) (AP tys Z Z (AA Z) Z Z Z Z Z Z Z (by omega) _ (CM _ _ (by omega) (by omega)) (AB Z Z Z Z (AA Z) (evQ ?_)));refine AB Z Z Z Z (AA Z) (evQ ?_);refine AB Z Z Z Z (AA Z) (evQ ?_);refine Ap (v := false) (by simp) ?_;refine AH Z (evQ ?_);refine evQ ?_;refine AB Z Z Z Z (AA Z) (evQ ?_);refine AB Z Z Z Z (AA Z) (evQ ?_);refine AB Z Z Z Z (AA Z) (evQ ?_);refine AB Z Z Z Z (AA Z) (AP tys Z Z (AA Z) Z Z Z Z Z Z Z (by omega) _ (CM _ _ (by omega) (by omega)) (AH Z (AB Z Z Z Z (AA Z) (evQ ?_))));refine AB Z Z Z Z (AA Z) (evQ ?_);refine AB Z Z Z Z (AA Z) (evQ ?_);refine AB Z Z Z Z (AA Z) (evQ ?_);refine AB Z Z Z Z (AA Z) (evQ ?_);refine AB Z Z Z Z (AA Z) (AP tys Z Z (AA Z) Z Z Z Z Z Z Z (by omega) _ (CM _ _ (by omega) (by omega)) (AH Z (AB Z Z Z Z (AA Z) (evQ ?_))));refine AB Z Z Z Z (AA Z) (evQ ?_);refine AB Z Z Z Z (AA Z) (evQ ?_);refine Ap (v := false) (by simp) ?_;refine evQ ?_;refine evQ ?_;refine AB Z Z Z Z (AA Z) (evQ ?_);refine AH Z (AB Z Z Z Z (AA Z) (evQ ?_));refine AB Z Z Z Z (AA Z) (evQ ?_);refine AB Z Z Z Z (AA Z) (AP tys Z Z (AA Z) Z Z Z Z Z Z Z (by omega) _ (CM _ _ (by omega) (by omega)) (AB Z Z Z Z (AA Z) (evQ ?_)));refine AB Z Z Z Z (AA Z) (evQ ?_);refine AB Z Z Z Z (AA Z) (evQ ?_);refine AH Z (AB Z Z Z Z (AA Z) (evQ ?_));refine AB Z Z Z Z (AA Z) (evQ ?_);refine AB Z Z Z Z (AA Z) (AP tys Z Z (AA Z) Z Z Z Z Z Z Z (by omega) _ (CM _ _ (by omega) (by omega)) (AB Z Z Z Z (AA Z) (evQ ?_)));refine AB Z Z Z Z (AA Z) (evQ ?_);refine AB Z Z Z Z (AA Z) (Cb ?_);refine ⟨_, HE _ (hw.2.2.2.1.2 _ (Nl _)).1, rfl, ?_⟩;refine AH Z (AB Z Z Z Z (AA Z) (evQ ?_));refine Ap (v := false) (by simp) ?_;refine evQ ?_;refine Aj (tN (A0 Z (AE (bN (tN (rG (evI ?_)))))));refine eZ Z (oN ?_);refine lQ _ ?_ ?_
  ·skip
   exact ⟨by omega, by omega⟩
  ·(show Int.toNat _ < Int.toNat _); omega
 simp only [HS] at h1;refine AR (tE (AO (AN (tN (sG (eZ Z (nB (rT (eR ?_)))))))))
 ·rfl
open Go.Eng
theorem M7 {a : Act} (h : HZ a) {B : Nat} (hB : 4 ≤ B) : a.ok B :=
 .of ⟨N7 h.1 (by omega), fun b hb => .of ⟨by rw [h.2 b hb]; exact OQ _, by rw [h.2 b hb]; exact fun _ h => by cases h⟩⟩
theorem Mc {acts : List (List Act)} (h : okS acts) {B : Nat} (hB : 4 ≤ B) : okL B (okL B (Act.ok B)) acts :=
 ⟨N7 h.1 (by omega), fun l hl => ⟨N7 (h.2 l hl).1 hB, fun a ha => M7 ((h.2 l hl).2 a ha) hB⟩⟩
theorem JI : ∀ l : List (List Act), posS (l.map Fy) = 0 ∧ panT (l.map Fy) = 0
 | [] => ⟨rfl, rfl⟩
 | a :: l => by
  have h := JI l
  rw [OA, posS, panT, h.1, h.2];refine ⟨rfl, ?_⟩;rw [if_neg (by unfold Fy; simp only; split <;> omega)];rfl
theorem Kw (l : List (List Act)) : (l.map Fy).map Task.acts = l := by
 rw [List.map_map];exact List.map_id l
def actsN (acts : List (List Act)) : Int := acts.length + (acts.map fun l => (l.length : Int)).sum
section
variable {room : List Int} {acts : List (List Act)} {picks : List Int}
theorem L0 (h : FB room acts picks = true) : AC (Dk room acts) = true ∧ (picks.length : Int) ≤ 120 ∧ ∀ p, p ∈ picks → 0 ≤ p := by
 unfold FB at h;simp only [Nk, decide_eq_true_eq] at h;exact ⟨h.1, by omega, fun p hp => by obtain ⟨i, hi, rfl⟩ := List.getElem_of_mem hp; exact (Jg h.2.2 hi).1⟩
theorem I8 (h : FB room acts picks = true) : AC (pwR room acts picks).1 = true ∧ (pwR room acts picks).2 ≤ actsN acts ∧ 0 ≤ (pwR room acts picks).2 ∧ (pwR room acts picks).2 ≤ picks.length ∧
  ((pwR room acts picks).2 < picks.length → (Ay (pwR room acts picks).1).length = 0) ∧ FB room acts (picks.take (pwR room acts picks).2.toNat) = true ∧ pwR room acts (picks.take (pwR room acts picks).2.toNat) = pwR room acts picks := by
 obtain ⟨hg, hl, hp⟩ := L0 h
 have hR : pwR room acts picks = B4 (Dk room acts) 0 picks := by rw [pwR, if_pos h]
 have hgw : AC (pwR room acts picks).1 = true := by rw [hR]; exact Fv picks hg hp
 obtain ⟨a, b, d, e, f, g⟩ := FC picks (n := 0) hg hp (by show ((([] : List Int).length : Int)) + _ ≤ 120; simp; exact hl)
 rw [← hR] at a b d e f g
 have hz := JI acts
 have hb := K8 hgw
 rw [f, show (Dk room acts).tasks = acts.map Fy from rfl, Kw] at hb;rw [show (Dk room acts).tasks = acts.map Fy from rfl, hz.1, hz.2] at a;rw [show ((pwR room acts picks).2 - 0) = (pwR room acts picks).2 from by omega] at g a
 have hok : FB room acts (picks.take (pwR room acts picks).2.toNat) = true := by
  unfold FB at h ⊢;simp only [Nk, decide_eq_true_eq] at h ⊢;refine ⟨hg, by rw [N0]; omega, ?_⟩;rw [BD, Np];intro x hx
  have := h.2.2
  rw [BD, Np] at this;exact this x (Oa hx)
 refine ⟨hgw, by unfold actsN; omega, b, by omega, fun hlt => ?_, hok, ?_⟩
 ·rw [Ay, if_pos hgw]; exact e (by omega)
 ·rw [pwR, if_pos hok, g]
end
open Go.Eng
def C8 (cd : List Int) (w : World) (c : Cu) : World × Cu :=
 if pickV cd 30 c = 0 then (setT w 0 { tk w 0 with pos := pickV cd 8 (curC cd 30 c) - 1 }, curC cd 8 (curC cd 30 c))
 else if pickV cd 30 c = 1 then (setT w 0 { tk w 0 with state := pickV cd 4 (curC cd 30 c) }, curC cd 4 (curC cd 30 c))
 else if pickV cd 30 c = 2 then ({ w with held := w.held.set 0 (at0 [] w.held 0 ++ [1]) }, curC cd 30 c)
 else (w, curC cd 30 c)
def worldR (cd : List Int) (c : Cu) : World × Cu :=
 if FB (BH cd c).1.1 (BH cd c).1.2 (Be cd (BH cd c).2).1 then C8 cd (pwR (BH cd c).1.1 (BH cd c).1.2 (Be cd (BH cd c).2).1).1 (Be cd (BH cd c).2).2
 else (Dk (BH cd c).1.1 (BH cd c).1.2, (Be cd (BH cd c).2).2)
theorem HR {cd : List Int} : ∀ (k : Nat) (l : List Int) (c : Cu), c.1 ≤ (DC cd k l c).2.1 ∧ (DC cd k l c).2.1 ≤ c.1 + 2 * k
 | 0, l, c => by simp [DC]
 | k + 1, l, c => by
  rw [DC]
  have h1 := AW (cd := cd) (n := 6) (c := c)
  have h2 := HR (cd := cd) k (l ++ [pickV cd 6 c]) (curC cd 6 c)
  omega
theorem HQ {cd : List Int} {c : Cu} (hcd : Dd cd) (h0 : 0 ≤ c.1) : c.1 ≤ (Be cd c).2.1 ∧ (Be cd c).2.1 ≤ c.1 + 100 := by
 have hv := A8 (n := 16) (c := c) hcd h0
 have hv' := hv.2.1 (by omega)
 have h1 := AW (cd := cd) (n := 16) (c := c)
 have h2 := HR (cd := cd) (pickV cd 16 c).toNat [] (curC cd 16 c)
 have h3 : c.1 ≤ (picks0 cd c).2.1 ∧ (picks0 cd c).2.1 ≤ c.1 + 40 := by unfold picks0; omega
 have h4 := AW (cd := cd) (n := 40) (c := (picks0 cd c).2)
 have h5 := AW (cd := cd) (n := 3) (c := curC cd 40 (picks0 cd c).2)
 unfold Be;split
 ·split
  ·simp only; omega
  ·simp only; omega
 ·omega
structure DrW (w : World) : Prop where
 ok : ∀ B, 1000 ≤ B → w.ok B
 flat : ∀ t, t ∈ w.tasks → ∀ a, a ∈ t.acts → Fm a
theorem MF {w : World} (h : AC w = true) : DrW w := ⟨fun B hB => FG h hB, EJ h⟩
theorem NK {room : List Int} {acts : List (List Act)} (hr : room.length ≤ 2) (ha : okS acts) : DrW (Dk room acts) :=
 ⟨fun B hB => Kt (by omega) (Mc ha (by omega)), fun t ht a hat => by
  obtain ⟨l, hl, rfl⟩ := OM.1 ht
  exact ((ha.2 l hl).2 a hat).2⟩
theorem Jc {w : World} (h : DrW w) {t : Task} (ht : t.acts = (tk w 0).acts) (h0 : 0 < w.tasks.length) : DrW (setT w 0 t) := by
 have hm : tk w 0 ∈ w.tasks := by rw [tk, AL (OZ 0) (by omega)]; exact Nl _
 refine ⟨fun B hB => ?_, fun u hu => ?_⟩
 ·obtain ⟨a1, a2, a3, ⟨a4, a5⟩, a6, a7⟩ := h.ok B hB
  refine ⟨a1, a2, a3, ⟨by show (w.tasks.set _ _).length ≤ B; rw [Ns]; exact a4, fun u hu => ?_⟩, a6, a7⟩
  rcases OK hu with hu | rfl
  ·exact a5 u hu
  ·refine ⟨?_, trivial⟩
   rw [ht]; exact (a5 _ hm).1
 ·rcases OK hu with hu | rfl
  ·exact h.flat u hu
  ·rw [ht]; exact h.flat _ hm
theorem ME {w : World} (h : DrW w) (hl : (at0 [] w.held 0).length ≤ 999) : DrW { w with held := w.held.set 0 (at0 [] w.held 0 ++ [1]) } := by
 refine ⟨fun B hB => ?_, h.flat⟩
 obtain ⟨a1, ⟨a2, a8⟩, a3, a4, a6, a7⟩ := h.ok B hB
 refine ⟨a1, ⟨by show (w.held.set _ _).length ≤ B; rw [Ns]; exact a2, fun x hx => ?_⟩, a3, a4, a6, a7⟩
 rcases OK hx with hx | rfl
 ·exact a8 x hx
 ·show (at0 [] w.held 0 ++ [1]).length ≤ B
  rw [Nu, List.length_singleton]; omega
theorem Jo {cd : List Int} {w : World} {c : Cu} (hg : AC w = true) : DrW (C8 cd w c).1 := by
 have h := MF hg
 have hw := gw_iff.1 hg
 have ht := hw.tasks
 unfold C8;split
 ·exact Jc h rfl (by omega)
 ·split
  ·exact Jc h rfl (by omega)
  ·split
   ·refine ME h ?_
    have := (h.ok 1000 (by decide)).2.1.2
    have hh := hw.held
    have hr := hw.room
    have hs := hw.hs 0 (by omega) (by omega)
    have h3 := hw.rooms
    rw [BD, Np] at h3
    have h4 := h3 _ (Nl (l := w.room) (n := 0) (by omega))
    simp only [decide_eq_true_eq] at h4;rw [AL (OZ 0) (by omega)]
    have e : (0 : Int).toNat = 0 := rfl
    simp only [e];omega
   ·exact h
theorem Cf {cd : List Int} {c : Cu} (hcd : Dd cd) (h0 : 0 ≤ c.1) : DrW (worldR cd c).1 := by
 have hs := E4 (c := c) hcd h0
 unfold worldR;split
 ·rename_i hp
  exact Jo (I8 hp).1
 ·exact NK hs.2.2.1 hs.2.2.2
theorem Ez {cd : List Int} {c : Cu} (hcd : Dd cd) (h0 : 0 ≤ c.1) : c.1 ≤ (worldR cd c).2.1 ∧ (worldR cd c).2.1 ≤ c.1 + 2000 := by
 have hs := E4 (c := c) hcd h0
 have hp := HQ (c := (BH cd c).2) hcd (by omega)
 have h1 := AW (cd := cd) (n := 30) (c := (Be cd (BH cd c).2).2)
 have h2 := AW (cd := cd) (n := 8) (c := curC cd 30 (Be cd (BH cd c).2).2)
 have h3 := AW (cd := cd) (n := 4) (c := curC cd 30 (Be cd (BH cd c).2).2)
 unfold worldR;split
 ·unfold C8
  split
  ·simp only; omega
  ·split
   ·simp only; omega
   ·split
    ·simp only; omega
    ·simp only; omega
 ·simp only; omega
theorem HC {w : World} {t : Task} (ht : t.acts = (tk w 0).acts) (h0 : 0 < w.tasks.length) : (setT w 0 t).tasks.map Task.acts = w.tasks.map Task.acts := by
 have e : (tk w 0).acts = (w.tasks[0]'h0).acts := by rw [tk, AL (OZ 0) (by omega)]; rfl
 show (w.tasks.set 0 t).map Task.acts = _;rw [Nv, ht, e]
 refine List.ext_getElem? fun j => ?_
 rw [List.getElem?_set];split
 ·rename_i hj
  subst hj;rw [if_pos (by rw [Nj]; exact h0), List.getElem?_map, List.getElem?_eq_getElem h0];rfl
 ·rfl
theorem Iu {xs : List T} {l : List Task} {x z' : T} {t t' : Task} (hx : (xs.zip l)[0]? = some (x, t)) (hz : z' = ttT (x, t')) : ((xs.zip l).map ttT).set 0 z' = (xs.zip (l.set 0 t')).map ttT := by
 match xs, l with
 | [], _ => simp at hx
 | _ :: _, [] => simp at hx
 | x0 :: xs, t0 :: l =>
  simp only [List.zip_cons_cons, List.getElem?_cons_zero, Option.some.injEq, Prod.mk.injEq] at hx
  obtain ⟨rfl, rfl⟩ := hx
  subst hz;rfl
open Go.Eng
theorem Dz (cd : List Int) (c : Cu) (bw : Nat) (pv : Value) (hcd : Dd cd) (h0 : 0 ≤ c.1) (h1 : c.1 ≤ 1048576) : ProcF Try.prog 23 [.t (.v (.pointer (some ⟨bw, 0, none⟩)))] ([pv]) ([T.bytes cd]) [.obox (.pointer (some ⟨bw, 0, none⟩)) (cuC pv c)] ((worldR cd c).1.rd) [.obox (.pointer (some ⟨bw, 0, none⟩)) (cuC pv (worldR cd c).2)] := by
  obtain ⟨room, hroom⟩ : ∃ r, r = (BH cd c).1.1 := ⟨_, rfl⟩
  obtain ⟨acts, hacts⟩ : ∃ r, r = (BH cd c).1.2 := ⟨_, rfl⟩
  obtain ⟨c2, hc2⟩ : ∃ r, r = (BH cd c).2 := ⟨_, rfl⟩
  obtain ⟨picks, hpicks⟩ : ∃ r, r = (Be cd c2).1 := ⟨_, rfl⟩
  obtain ⟨c3, hc3⟩ : ∃ r, r = (Be cd c2).2 := ⟨_, rfl⟩
  have hsc := E4 (c := c) hcd h0
  rw [← hroom, ← hacts, ← hc2] at hsc
  have hpl : picks.length ≤ 16 := by rw [hpicks]; exact Jw hcd (by omega)
  have hpa := HQ (c := c2) hcd (by omega)
  rw [← hc3] at hpa
  have hrl : room.length ≤ 2 := hsc.2.2.1
  have hal : okS acts := hsc.2.2.2
  have ac1 := Mc hal (B := 1048576) (by decide)
  have hW : worldR cd c = if FB room acts picks then C8 cd (pwR room acts picks).1 c3 else (Dk room acts, c3) := by unfold worldR; rw [← hroom, ← hacts, ← hc2, ← hpicks, ← hc3]
  have hsn := Ke cd c bw pv hcd h0 h1
  rw [← hroom, ← hacts, ← hc2] at hsn
  have htp := GK cd c2 bw pv hcd (by omega) (by omega)
  rw [← hpicks, ← hc3] at htp;refine ProcF.intro tys Try.func23 Z Z (N := 58) [100] 99 ([(0, .t (.v (.pointer (some ⟨bw, 0, none⟩))))]) ([(100, .obox (.pointer (some ⟨bw, 0, none⟩)) (cuC pv c)), (99, .ro [pv] [T.bytes cd])]) Z Z Z Z (by decide) (by decide) Z (fun w0 G F0 => ?_);refine nY Z (sG (AK tys Z Z (AA Z) Z Z Z (nZ Z (nA (eZ Z ?_)))));refine cP [100] (hm := (hsn)) (k := ?_);refine nZ Z (Ae Z Z (AA Z) (.inr Z) Z Z (A3 Z Z (AA Z) Z Z Z Z ?_))
  first | refine WO_le (Le.adoptE (u := 11) 11 rfl (by first | exact He | exact rfl)) ?_ | skip
  refine nZ Z (A3 Z Z (AA Z) Z Z Z Z ?_)
  first | refine WO_le (Le.adoptE (u := 12) 12 rfl (by first | exact He | exact rfl)) ?_ | skip
  refine nZ Z (eK 2 Z (nB (sQ (kY [0,2,3,4] Z (rG (eK 3 Z ?_))))));refine cP [100] (hm := (htp)) (k := ?_);refine nZ Z ?_;refine Jj Z Z (AA Z) Z Z (by repeat (first | exact ResL.done | refine ResL.t ?_ | refine ResL.own ?_ | refine ResL.aggT (by repeat (first | exact ResL.done | refine ResL.own ?_ | refine ResL.t ?_)) ?_ | refine ResL.slA Z (by first | rfl | (simp; done) | (simp; omega)) ?_ | refine ResL.nil 1 ?_)) (GN room acts picks (by omega) ac1 (by omega)) (fun _ => rfl) (fun xs hx => ?_);refine nZ Z (nZ Z (Ae Z Z (AA Z) (.inr Z) Z Z (A3 Z Z (AA Z) Z Z Z Z ?_)))
  first | refine WO_le (Le.adoptE (u := 19) 19 rfl (by first | exact He | exact rfl)) ?_ | skip
  refine nZ Z (WO_evF tys Z Z (AA Z) (d := .t _) Z (nZ Z (WO_evF tys Z Z (AA Z) (d := .t _) Z (nZ Z (kZ [0,2,3,4,19,20,21] Z (AK tys Z Z (AA Z) Z Z Z (nZ Z (sT Z (nZ Z (eK 2 Z (nB (sQ (sG (eK 2 Z (nB ?_)))))))))))))));refine AD Z (fun h1 => ?_) (fun h1 => ?_)
  ·
    simp only [HS] at h1;refine sQ ?_
    have hpo : FB room acts picks = false := by simp_all
    refine nY Z (W_le (Le.gather (u := 3) (id := 11) Z Z (by simp)) ?_);refine nY Z (W_le (Le.freeze (u := 3) Z) (nY Z (W_le (Le.gather (u := 4) (id := 12) Z Z (by simp)) ?_)));refine nY Z (W_le (Le.freeze (u := 4) Z) (nY Z ?_));rw [Ni (by simp), Ni (by simp)];refine rG (eK 2 Z (BG Z Z (AA Z) Z Z Z Z Z (F5 room acts (by omega) ac1) Z (kZ [0,2,5,26] Z (sT Z (nZ Z (nB ?_))))))
    skip
    refine rT (tR ?_);refine IB (ks := [_]) (.inr Z) (GY Z) (by decide) Z (Gf Z) (by repeat (first | exact trivial | refine ⟨rfl, rfl, ?_⟩)) ?_ ?_
    · (rw [hW, if_neg (by rw [hpo]; decide)]; rfl)
    · (rw [hW, if_neg (by rw [hpo]; decide)]; done)
  simp only [HS] at h1;refine AE (tN (sQ (sQ ?_)))
  have hpo : FB room acts picks = true := by simp_all
  obtain ⟨w, hw⟩ : ∃ w, w = (pwR room acts picks).1 := ⟨_, rfl⟩
  rw [← hw] at hx;rw [← hw]
  have hg : AC w = true := by rw [hw]; exact (I8 hpo).1
  have hgw := gw_iff.1 hg
  have htl := hgw.tasks
  have hhl := hgw.held
  have hrm := hgw.room
  have hxl : xs.length = w.tasks.length := by have := hx.len; rw [Nj] at this; exact this
  obtain ⟨k, hk⟩ : ∃ k, k = pickV cd 30 c3 := ⟨_, rfl⟩
  obtain ⟨c4, hc4⟩ : ∃ c4, c4 = curC cd 30 c3 := ⟨_, rfl⟩
  have hp30 := AW (cd := cd) (n := 30) (c := c3)
  rw [← hc4] at hp30
  have hpk := Ao cd 30 c3 bw pv hcd (by omega) (by omega)
  rw [← hk, ← hc4] at hpk
  have hS : C8 cd w c3 = if k = 0 then (setT w 0 { tk w 0 with pos := pickV cd 8 c4 - 1 }, curC cd 8 c4) else if k = 1 then (setT w 0 { tk w 0 with state := pickV cd 4 c4 }, curC cd 4 c4) else if k = 2 then ({ w with held := w.held.set 0 (at0 [] w.held 0 ++ [1]) }, c4) else (w, c4) := by unfold C8; rw [← hk, ← hc4]
  obtain ⟨t, ht⟩ : ∃ t, t = tk w 0 := ⟨_, rfl⟩
  have hzt : ((xs.zip w.tasks).map ttT)[0]? = some (ttT (xs[0]'(by omega), t)) := by
   rw [ht, tk, AL (OZ 0) (by omega), List.getElem?_map, Cv (by omega) (by omega)]; rfl
  have hzl : ((xs.zip w.tasks).map ttT).length = w.tasks.length := by rw [Nj, OH]; omega
  have hhz : (w.held.map T.ints).length = w.held.length := Nj ..
  have hz0 : (xs.zip w.tasks)[0]? = some (xs[0]'(by omega), t) := by rw [ht, tk, AL (OZ 0) (by omega), Cv (by omega) (by omega)]; rfl
  have hv8 := A8 (n := 8) (c := c4) hcd (by omega)
  have hv8' := hv8.2.1 (by omega)
  refine rG (eZ Z ?_);refine cP [100] (hm := (hpk)) (k := ?_);refine nZ Z (nB (AG (sQ (kY [0,2,5,28] Z (rG (eK 2 Z (nB ?_)))))));refine BM (α := List T × List T × List T × List T × List T × Cu) [2, 5] [2, 99] (fun x => []) (fun x => [(5, .box [.own (.list 1 (x.1)), .own (.list 1 (x.2.1)), .own (.list 1 (x.2.2.1)), .own (.list 4 (x.2.2.2.1)), .own (.list 1 (x.2.2.2.2.1))]), (100, .obox (.pointer (some ⟨bw, 0, none⟩)) (cuC pv (x.2.2.2.2.2)))]) (fun x => ∃ w9 : World, (x.1) = w9.room.map T.int ∧ (x.2.1) = w9.held.map T.ints ∧ (x.2.2.1) = w9.shut.map T.bool ∧ (x.2.2.2.1) = (xs.zip w9.tasks).map ttT ∧ (x.2.2.2.2.1) = w9.trace.map T.int ∧ w9.tasks.map Task.acts = w.tasks.map Task.acts ∧ (w9, (x.2.2.2.2.2)) = C8 cd w c3) ?_ (fun x hx => ?_)
  ·
    refine AD Z (fun h2 => ?_) (fun h2 => ?_)
    ·
      simp only [HS] at h2;refine W_le (Le.adoptBox (u := 5) (j := 3) (id := 103) Z Z Z) (nY Z (Ar [[100], [100], [], [], [], [], [], []] Ac (by kernel_rfl) (A9 (QG_ev tys Z Z (AA Z) Z (AF (A9 (QG_ev tys Z Z (AA Z) Z (AF (AZ (QG_ev tys Z Z (AA Z) Z (AF ?_)))))))))));refine Bn (rid := 99) [100] Z Z (AA Z) Z Z (by repeat (first | exact ResP.done | refine ResP.pin0 1100 Z ?_ | refine ResP.t ?_ | refine ResP.nil 1 ?_ | refine ResP.nil' ?_ | refine ResP.own ?_ | refine ResP.sl Z Z (by first | omega | (simp; omega)) ?_ | refine ResP.aggT (by repeat (first | exact ResP.done | refine ResP.t ?_)) ?_)) Z (by repeat (first | exact trivial | refine ⟨rfl, rfl, ?_⟩)) (by decide) (Ao cd 8 c4 bw pv hcd (by omega) (by omega)) Z Z Z ?_;refine AY Z (AZ (Mw tys Z Z (AA Z) Z (Df (by omega) (by omega)) (AF (AZ (Ce tys Z Z (AA Z) Z Z Z Z Z Z Z Z (by omega) (by omega) (AF (AZ (QG_ev tys Z Z (AA Z) Z (AF (GF tys 10007 [T.int (pickV cd 8 c4 - 1)] Z Z Z Z Z Z (by rw [N5]; exact hzt) Z Z (AbsL.v' AbsL.nil') Z (by decide) (N3 Z) ?_))))))))));refine AY Z (Av ?_);refine ⟨by kernel_rfl, ?_⟩;refine nZ Z (WO_le (Le.gatherBox (u := 5) (j := 3) (id := 103) Z Z Z (by simp) Z) ?_);refine nZ Z (oN (jQ (_, _, _, _, _, _) ?_));dsimp only
      first
      | (refine ⟨setT w 0 { tk w 0 with pos := pickV cd 8 c4 - 1 }, rfl, rfl, rfl, ?_, rfl, HC rfl (by omega), ?_⟩; (focus (rw [Ni (by simp)]; exact Iu hz0 (by rw [← ht]; rfl))); (focus (rw [hS, if_pos (by omega)])))
    simp only [HS] at h2;refine sG (eK 2 Z (nB ?_));refine AD Z (fun h3 => ?_) (fun h3 => ?_)
    ·
      simp only [HS] at h3;refine W_le (Le.adoptBox (u := 5) (j := 3) (id := 103) Z Z Z) (nY Z (Ar [[100], [100], [], [], [], [], []] Ac (by kernel_rfl) (A9 (QG_ev tys Z Z (AA Z) Z (AF (A9 (QG_ev tys Z Z (AA Z) Z (AF (AZ (QG_ev tys Z Z (AA Z) Z (AF ?_)))))))))));refine Bn (rid := 99) [100] Z Z (AA Z) Z Z (by repeat (first | exact ResP.done | refine ResP.pin0 1100 Z ?_ | refine ResP.t ?_ | refine ResP.nil 1 ?_ | refine ResP.nil' ?_ | refine ResP.own ?_ | refine ResP.sl Z Z (by first | omega | (simp; omega)) ?_ | refine ResP.aggT (by repeat (first | exact ResP.done | refine ResP.t ?_)) ?_)) Z (by repeat (first | exact trivial | refine ⟨rfl, rfl, ?_⟩)) (by decide) (Ao cd 4 c4 bw pv hcd (by omega) (by omega)) Z Z Z ?_;refine AY Z (AZ (Ce tys Z Z (AA Z) Z Z Z Z Z Z Z Z (by omega) (by omega) (AF (AZ (QG_ev tys Z Z (AA Z) Z (AF (GF tys 10006 [T.int (pickV cd 4 c4)] Z Z Z Z Z Z (by rw [N5]; exact hzt) Z Z (AbsL.v' AbsL.nil') Z (by decide) (N3 Z) ?_)))))));refine Av ?_;refine ⟨by kernel_rfl, ?_⟩;refine nZ Z (WO_le (Le.gatherBox (u := 5) (j := 3) (id := 103) Z Z Z (by simp) Z) ?_);refine nZ Z (oN (jQ (_, _, _, _, _, _) ?_));dsimp only
      first
      | (refine ⟨setT w 0 { tk w 0 with state := pickV cd 4 c4 }, rfl, rfl, rfl, ?_, rfl, HC rfl (by omega), ?_⟩; (focus (rw [Ni (by simp)]; exact Iu hz0 (by rw [← ht]; rfl))); (focus (rw [hS, if_neg (by omega), if_pos (by omega)])))
    simp only [HS] at h3;refine sG (eK 2 Z (nB ?_));refine AD Z (fun h4 => ?_) (fun h4 => ?_)
    ·
      simp only [HS] at h4
      obtain ⟨hl, hle⟩ : ∃ hl, hl = at0 [] w.held 0 := ⟨_, rfl⟩
      have hz : (w.held.map T.ints)[(0 : Int).toNat]? = some (T.ints hl) := by rw [hle, AL (OZ 0) (by omega), List.getElem?_map, List.getElem?_eq_getElem (by show 0 < _; omega)]; rfl
      have hlb : hl.length ≤ 1000 := by rw [hle, AL (OZ 0) (by omega)]; exact (FG hg (B := 1000) (by decide)).2.1.2 _ (Nl _)
      refine W_le (Le.adoptBox (u := 5) (j := 1) (id := 104) Z Z Z) (nY Z ?_);refine Dv (id := 104) (i := (0 : Int).toNat) (off := 0) 107 Z hz Z Z Z (fun ad cp => ?_);refine nY Z (Ar [[107], [107], [], [], [], [], [107], [], [], []] Ac (by kernel_rfl) (A9 (QG_ev tys Z Z (AA Z) Z (AF (A9 (QG_ev tys Z Z (AA Z) Z (AF (AZ (QG_ev tys Z Z (AA Z) Z (AF (AZ (QG_ev tys Z Z (AA Z) Z (AF (AY Z (AZ ?_)))))))))))))));refine Ce tys Z Z (AA Z) Z Z Z Z Z Z Z Z (OZ 0) (by first | (rw [Nj]; omega) | (rw [Ns, Nj]; omega)) ?_;refine AF ?_;refine Dx tys 107 Z Z (AA Z) Z Z Z Z (by rw [N5]; exact List.getElem?_set_self (by rw [Nj]; show 0 < _; omega)) Z Z ?_;refine A9 ?_;refine BC tys [T.int 1] Z Z (AA Z) Z Z Z Z Z (AA Z) (by repeat (first | exact PartsOk.nil' | refine PartsOk.cons' rfl (by repeat (first | exact AbsL.nil' | refine AbsL.v' ?_ | refine AbsL.own' ?_ | refine AbsL.none' ?_)) Z ?_)) Z Z Z (by decide) ?_;refine AF (AZ (B7 tys Z Z (AA Z) Z Z Z Z Z Z Z Z Z ((fun x hx => by rw [OE] at hx; subst hx; exact ⟨rfl, fun z hz => ⟨_, by simpa [T.cells] using hz⟩⟩)) (by simp; omega) (by decide) Z ?_));refine AF (AY Z (AZ (Ce tys Z Z (AA Z) Z Z Z Z Z Z Z Z (OZ 0) (by first | (rw [Nj]; omega) | (rw [Ns, Nj]; omega)) ?_)));refine AF ?_;refine Fc tys [.list 1 (hl.map T.int ++ [T.int 1])] Z Z Z Z Z Z (by rw [N5]; exact List.getElem?_set_self (by rw [Nj]; show 0 < _; omega)) Z Z (AbsL.own' AbsL.nil') Z (by decide) (N3 Z) ?_;refine Av ?_;refine ⟨by kernel_rfl, ?_⟩;refine nZ Z (WO_le (Le.sameL (id := 104) (ys := (w.held.set (0 : Int).toNat (hl ++ [1])).map T.ints) Z (held_same (by show [T.list 1 _] = [T.list 1 _]; rw [OU]; rfl)) (by simp) held_cells) ?_);refine nZ Z (WO_le (Le.gatherBox (u := 5) (j := 1) (id := 104) Z Z Z (by simp) Z) ?_);refine nZ Z (oN (jQ (_, _, _, _, _, _) ?_));dsimp only
      first
      | (refine ⟨{ w with held := w.held.set 0 (at0 [] w.held 0 ++ [1]) }, rfl, ?_, rfl, rfl, rfl, rfl, ?_⟩; (focus (rw [Ni (by simp), hle]; rfl)); (focus (rw [hS, if_neg (by omega), if_neg (by omega), if_pos (by omega)])))
    simp only [HS] at h4;refine AE (jQ (_, _, _, _, _, _) ?_);dsimp only
    first
    | exact ⟨w, rfl, rfl, rfl, rfl, rfl, rfl, by rw [hS, if_neg (by omega), if_neg (by omega), if_neg (by omega)]⟩
  obtain ⟨r9, h9, s9, t9, e9, c9⟩ := x
  obtain ⟨w9, hr9, hh9, hs9, ht9, he9, ha9, hsp⟩ := hx
  dsimp only at hr9 hh9 hs9 ht9 he9 ha9 hsp ⊢;refine bN (tN (sQ ?_))
  have hx9 : All2 CN xs (w9.tasks.map Task.acts) := by rw [ha9]; exact hx
  subst hr9 hh9 hs9 ht9 he9;refine kY [2,5] Z (rG (A7 tys Z Z (AA Z) Z Z Z Z Z Z (nZ Z (sT Z (nZ Z (nB (W_le (Le.freezeB (u := 2) Z Z) (nY Z ?_))))))));refine Cd (u := 2) (j := 3) (p := fun y => y = T.Tasks w9.tasks) Z Z (fun h => ⟨_, rfl, CT hx9 h⟩) (fun y hy => ?_);subst hy;refine nY Z (rT ?_);refine IB (ks := [_]) (.inr Z) (GY Z) (by decide) Z (Gf Z) (by repeat (first | exact trivial | refine ⟨rfl, rfl, ?_⟩)) ?_ ?_
  · rw [hW, if_pos hpo, ← hw, ← hsp]
    rfl
  · rw [hW, if_pos hpo, ← hw, ← hsp]
    done
open Go.Eng
theorem EL (cd : List Int) (hcd : Dd cd) : Fun Try.prog 45 [.t (T.bytes cd)] (tupD [(worldR cd cu0).1.rd]) := by
 refine Fun.begin tys Try.func45 Z Z (N := 9) [(0, .t (T.bytes cd))] Z Z (fun w0 G F0 => ?_);refine sG (AK tys Z Z (AA Z) Z Z Z (nZ Z (nA (eZ Z ?_))));refine Iq (u := 4) 99 Z (fun pv => ?_);refine nZ Z (Ag tys Z Z (AA Z) Z Z Z (by kernel_rfl) Z Z Z Z Z Z (Aa Z Z (AA Z) Z Z (nZ Z ?_)));refine Mu (u := 6) (pid := 1006) Z Z (fun bw => ?_);refine nZ Z (eZ Z (nA (eZ Z (WO_le (Le.close (u := 6) 1006 Z Z Z) (nZ Z ?_)))));refine EP (rid := 99) [6] Z Z (AA Z) Z Z (by repeat (first | exact ResQ.done | refine ResQ.pin0 1006 Z ?_ | refine ResQ.t ?_ | refine ResQ.nil 1 ?_)) Z (by repeat (first | exact trivial | refine ⟨rfl, rfl, ?_⟩)) (by decide) (Dz cd cu0 bw pv hcd (by decide) (by decide)) Z Z Z ?_;refine nZ Z (WO_le (Le.open (u := 6) 1006 Z Z Z Z) (nZ Z (sT Z (nZ Z (nB (rT (eR ?_)))))))
 ·rfl
theorem Gs (cd : List Int) (hcd : Dd cd) : Fun Try.prog 15 [.t (T.bytes cd)] (tupD [(worldR cd cu0).1.rd]) := by
 refine Fun.begin tys Try.func15 Z Z (N := 5) [(0, .t (T.bytes cd))] Z Z (fun w0 G F0 => ?_);refine sG (AK tys Z Z (AA Z) Z Z Z (nZ Z (nA (eZ Z (BG Z Z (AA Z) Z Z Z Z Z (EL cd hcd) Z (sT Z (nZ Z (nB (rT (eR ?_))))))))))
 ·rfl
theorem Ik (cd : List Int) (hcd : Dd cd) : Fun Try.prog 18 [.t (T.bytes cd)] (tupD [(worldR cd cu0).1.rd]) := by
 refine Fun.begin tys Try.func18 Z Z (N := 5) [(0, .t (T.bytes cd))] Z Z (fun w0 G F0 => ?_);refine sG (AK tys Z Z (AA Z) Z Z Z (nZ Z (nA (eZ Z (BG Z Z (AA Z) Z Z Z Z Z (EL cd hcd) Z (sT Z (nZ Z (nB (rT (eR ?_))))))))))
 ·rfl
open Go.Eng
theorem I9 (t : Task) : ∀ l : List Task, posS (l ++ [t]) = posS l + t.pos
 | [] => by simp [posS]
 | a :: l => by rw [Ob, posS, posS, I9 t l]; omega
theorem JB (t u : Task) : ∀ (l m : List Task), l.length = m.length → panS (l ++ [t]) (m ++ [u]) = panS l m + (if u.state = 2 ∧ ¬ t.state = 2 then 1 else 0)
 | [], [], _ => by simp [panS]
 | a :: l, b :: m, h => by
  rw [Ob, Ob, panS, panS, JB t u l m (by simpa using h)]; omega
theorem EX {l : List Task} {k : Int} (h0 : 0 ≤ k) (h1 : k < l.length) : posS (l.take (k + 1).toNat) = posS (l.take k.toNat) + (l[k.toNat]'(by omega)).pos := by
 rw [Bf h0 h1, I9]
theorem IR {l m : List Task} {k : Int} (h0 : 0 ≤ k) (h1 : k < l.length) (hl : m.length = l.length) : panS (l.take (k + 1).toNat) (m.take (k + 1).toNat) = panS (l.take k.toNat) (m.take k.toNat) + (if (m[k.toNat]'(by omega)).state = 2 ∧ ¬ (l[k.toNat]'(by omega)).state = 2 then 1 else 0) := by
 rw [Bf h0 h1, Bf (l := m) h0 (by omega), JB _ _ _ _ (by simp [hl])]
theorem JU {w : World} (hg : AC w = true) {t : Task} (ht : t ∈ w.tasks) : 0 ≤ t.pos ∧ t.pos ≤ 1000 := by
 have h9 := (gw_iff.1 hg).ts t ht
 unfold AM at h9;simp only [Nk, decide_eq_true_eq] at h9
 have h8 := ((FG hg (B := 1000) (by decide)).2.2.2.1.2 t ht).1.1
 omega
structure DmF (w x : World) : Prop where
 gw : AC w = true
 gx : AC x = true
 len : x.tasks.length = w.tasks.length
 up : posS x.tasks - posS w.tasks ≤ 2
 pan : panS w.tasks x.tasks ≤ 1
 on : 1 ≤ posS x.tasks - posS w.tasks + panS w.tasks x.tasks
theorem MG {w : World} {mv : List Int} (h : Fh w mv = true) : DmF w (dmR w mv) := by
 have h0 := h
 unfold Fh at h;simp only [Nk] at h
 have hm := Eo h.2.1
 have hf := F3 (Jd h.1 hm)
 have hl : (doW w mv).tasks.length = w.tasks.length := by
  have := congrArg List.length (doW_acts w mv)
  rwa [Nj, Nj] at this
 rw [dmR, if_pos h0];exact ⟨h.1, EI h.1 hm h.2.2, hl, by omega, by omega, by omega⟩
theorem Hc {w : World} {i : Int} : (at0 [] (Ay w) i).length ≤ 1000 := by
 have h := (Hb (B := 1000) (by decide) w).2
 by_cases hi : i.toNat < (Ay w).length
 ·have e : at0 [] (Ay w) i = (Ay w)[i.toNat] := by unfold at0; rw [List.getElem?_eq_getElem hi]; rfl
  rw [e]; exact h _ (Nl _)
 ·have e : at0 [] (Ay w) i = [] := by unfold at0; rw [List.getElem?_eq_none (by omega)]; rfl
  rw [e]; exact OQ _
end Go.Proofs.Ytkllmdolplcklaa
