/- Walks of the reference's machine: its small parts. -/
import Derived.Test.YtimpganophnehaaGreatIa
set_option linter.unusedVariables false
set_option linter.unusedSimpArgs false
set_option maxRecDepth 10000
set_option maxHeartbeats 1000000
namespace Go.Proofs.YtimpganophnehaaGreat
open Go.Eng

def ptr (b : Nat) : Value := .pointer (some ⟨b, 0, none⟩)
def mS (pv iv : Value) (most : Int) (m : Ms) : List D := [.t (.v pv), .t (.v iv), .t (.int m.used), .t (.int m.fuel), .t (.int most), .own (T.ints m.trace)]
def byH : Option By → Int
 | none => 0
 | some b => b.how
def byV : Option By → Int
 | none => 0
 | some b => if b.how = 2 then b.pan else 0
def byB : Option By → Int
 | none => 0
 | some b => if b.exd then 3 else 1
def bS (b : Option By) : List D := [.t (.int (byH b)), .t (.int (byV b)), .t (.int (byB b))]
def cS (f : Func) (fbv fsv : Value) (vars off : List Int) (res dp : Int) (bb : Nat) : List D :=
 [.t (.int f.params), .t (.int f.vars), .t (.v fbv), .t (.v fsv), .own (T.ints vars), .own (T.ints off), .t (.int res), .t (.int dp), .t (.v (.pointer (some ⟨bb, 0, none⟩)))]

theorem retPB {b b' : Bool} (h : b = b') : tupD [D.t (T.v (Value.bool b))] = D.t (T.bool b') := by rw [h]; rfl
theorem retPI {b b' : Int} (h : b = b') : tupD [D.t (T.v (Value.int .i64 b))] = D.t (T.int b') := by rw [h]; rfl

theorem costS_fun (bm : Nat) (pv iv : Value) (most : Int) (m : Ms) (rv : List Value) (rt : List T) (hm : m.fuel ≤ 1048576) : Proc Tryz.prog 205 [.t (.v (.pointer (some ⟨bm, 0, none⟩)))] (rv) (rt) [.obox (.pointer (some ⟨bm, 0, none⟩)) (mS pv iv most m)] (.t (.bool (decide (m.fuel ≠ 0)))) [.obox (.pointer (some ⟨bm, 0, none⟩)) (mS pv iv most (burnM m))] := by
 refine Proc.intro tys Tryz.func205 rfl rfl (N := 15) [100] 99 ([(0, .t (.v (.pointer (some ⟨bm, 0, none⟩))))]) ([(100, .obox (.pointer (some ⟨bm, 0, none⟩)) (mS pv iv most m)), (99, .ro rv rt)]) rfl rfl rfl rfl (by decide) (by decide) rfl (fun w0 G F0 => ?_)
 refine nY rfl (W_le (Le.openNew (u := 100) 1100 rfl rfl rfl rfl rfl) (nY rfl (W_le (Le.named (t := 0) (u := 100) 1100 rfl rfl) (nY rfl (sQ (rG (eZ rfl (oN (tN (sQ (sQ (rG (eZ rfl (WO_nil' rfl rfl (lt_of rfl) rfl rfl rfl (eK 3 rfl ?_)))))))))))))))
 refine oN (tN ?_)
 refine W_cond rfl (fun h1 => ?_) (fun h1 => ?_)
 ·
  simp only [HS] at h1
  refine sQ (rG (eZ rfl (oN (tN (W_le (Le.close (u := 100) 1100 rfl rfl rfl) (nY rfl (rT (tR ?_))))))))
  refine EndsP_of (ks := [_]) (.inr rfl) (ret_okF rfl) (by decide) rfl (noR_spec rfl) (by repeat (first | exact trivial | refine ⟨rfl, rfl, ?_⟩)) ?_ ?_
  ·exact retPB (by simp; omega)
  ·(have h : (m.fuel : Int) = 0 := (by assumption); simp only [mS, burnM, show m.fuel = 0 from by omega]; done)
 simp only [HS] at h1
 refine W_skip (tN (sQ (rG (eZ rfl (WO_nil' rfl rfl (lt_of rfl) rfl rfl rfl (eZ rfl (kZ [2,8,10] rfl (eZ rfl (evI ?_)))))))))
 refine WO_nil' rfl rfl (lt_of rfl) rfl rfl rfl (eZ rfl (sT rfl (nZ rfl (oN (tN (sQ (rG (eZ rfl (oN (tN (W_le (Le.close (u := 100) 1100 rfl rfl rfl) (nY rfl (rT ?_)))))))))))))
 refine EndsP_of (ks := [_]) (.inr rfl) (ret_okF rfl) (by decide) rfl (noR_spec rfl) (by repeat (first | exact trivial | refine ⟨rfl, rfl, ?_⟩)) ?_ ?_
 ·exact retPB (by simp; omega)
 ·(have h : (m.fuel : Int) - 1 = ((m.fuel - 1 : Nat) : Int) := (by omega); rw [h]; rfl)

theorem inputS_fun (bm : Nat) (pv iv : Value) (most : Int) (m : Ms) (inp : List Int) (xv : List Value) (xt : List T) (pt : T) (hm : m.used ≤ inp.length) (hi : inp.length ≤ 1048576) : Proc Tryz.prog 255 [.t (.v (.pointer (some ⟨bm, 0, none⟩)))] ((pv :: iv :: xv)) ((pt :: T.ints inp :: xt)) [.obox (.pointer (some ⟨bm, 0, none⟩)) (mS pv iv most m)] (.t (.int (inS inp m).1)) [.obox (.pointer (some ⟨bm, 0, none⟩)) (mS pv iv most (inS inp m).2)] := by
 refine Proc.intro tys Tryz.func255 rfl rfl (N := 31) [100] 99 ([(0, .t (.v (.pointer (some ⟨bm, 0, none⟩))))]) ([(100, .obox (.pointer (some ⟨bm, 0, none⟩)) (mS pv iv most m)), (99, .ro (pv :: iv :: xv) (pt :: T.ints inp :: xt))]) rfl rfl rfl rfl (by decide) (by decide) rfl (fun w0 G F0 => ?_)
 refine nY rfl (W_le (Le.openNew (u := 100) 1100 rfl rfl rfl rfl rfl) (nY rfl (W_le (Le.named (t := 0) (u := 100) 1100 rfl rfl) (nY rfl (sQ (rG (eZ rfl (oN (tN (sQ (sQ (W_regionD mixed (by kernel_rfl) (evQ ?_)))))))))))))
 refine QL_nil' rfl rfl (lt_of rfl) rfl rfl rfl (evQ ?_)
 refine evQ ?_
 refine evQ ?_
 refine QL_norm rfl (QL_nil' rfl rfl (lt_of rfl) rfl rfl rfl (evQ ?_))
 refine QL_untell tys 99 1 rfl rfl (lt_of rfl) rfl rfl rfl rfl (evEQ ?_)
 refine evQ ?_
 refine QL_nil (tN ?_)
 refine W_cond rfl (fun h1 => ?_) (fun h1 => ?_)
 ·
  simp only [HS] at h1
  refine sQ (rG (eZ rfl (oN (tN (W_le (Le.close (u := 100) 1100 rfl rfl rfl) (nY rfl (rT (tR ?_))))))))
  refine EndsP_of (ks := [_]) (.inr rfl) (ret_okF rfl) (by decide) rfl (noR_spec rfl) (by repeat (first | exact trivial | refine ⟨rfl, rfl, ?_⟩)) ?_ ?_
  ·exact retPI (by rw [inS, if_neg (by omega)])
  ·(rw [inS, if_neg (by omega)]; rfl)
 simp only [HS] at h1
 refine W_skip (tN (sQ (rG (eZ rfl (WO_nil' rfl rfl (lt_of rfl) rfl rfl rfl (eK 2 rfl (kZ [0,2,13,16] rfl (evI ?_))))))))
 refine WO_nil' rfl rfl (lt_of rfl) rfl rfl rfl (eZ rfl (sT rfl (nZ rfl (oN (tN (sQ (W_regionD mixed (by kernel_rfl) (evQ ?_))))))))
 refine QL_nil' rfl rfl (lt_of rfl) rfl rfl rfl (QL_norm rfl (evQ ?_))
 refine QL_untell tys 99 1 rfl rfl (lt_of rfl) rfl rfl rfl rfl (evQ ?_)
 refine QL_nil' rfl rfl (lt_of rfl) rfl rfl rfl (evQ ?_)
 refine evQ ?_
 refine QL_norm rfl (evIQ ?_)
 refine QL_idxT tys rfl rfl (lt_of rfl) rfl rfl rfl rfl rfl rfl rfl (by omega) _ (getT _ _ (by omega) (by omega)) (evQ ?_)
 refine evQ ?_
 refine QL_nil (tN (W_le (Le.close (u := 100) 1100 rfl rfl rfl) (nY rfl (rT ?_))))
 refine EndsP_of (ks := [_]) (.inr rfl) (ret_okF rfl) (by decide) rfl (noR_spec rfl) (by repeat (first | exact trivial | refine ⟨rfl, rfl, ?_⟩)) ?_ ?_
 ·exact retPI (by rw [inS, if_pos (by omega), List.getElem?_eq_getElem (by omega)]; simp [show ((m.used : Int) + 1 - 1).toNat = m.used from by omega])
 ·(rw [inS, if_pos (by omega)]; rfl)

theorem recS_no {b : Option By} (h : ¬ byH b = 2) : recS b = (0, b) := by
 cases b with
 | none => rfl
 | some x => rw [recS]; exact if_neg h
theorem recS_yes {b : Option By} (h : byH b = 2) : (recS b).1 = byV b ∧ bS (recS b).2 = [.t (.int (byB b)), .t (.int 0), .t (.int (byB b))] := by
 cases b with
 | none => simp [byH] at h
 | some x =>
  have h' : x.how = 2 := h
  rw [recS, if_pos h']
  cases hx : x.exd <;> simp [bS, byH, byV, byB, hx, h']

theorem recoverS_fun (bb : Nat) (b : Option By) (rv : List Value) (rt : List T) : Proc Tryz.prog 256 [.t (.v (.pointer (some ⟨bb, 0, none⟩)))] (rv) (rt) [.obox (.pointer (some ⟨bb, 0, none⟩)) (bS b)] (.t (.int (recS b).1)) [.obox (.pointer (some ⟨bb, 0, none⟩)) (bS (recS b).2)] := by
 refine Proc.intro tys Tryz.func256 rfl rfl (N := 24) [100] 99 ([(0, .t (.v (.pointer (some ⟨bb, 0, none⟩))))]) ([(100, .obox (.pointer (some ⟨bb, 0, none⟩)) (bS b)), (99, .ro rv rt)]) rfl rfl rfl rfl (by decide) (by decide) rfl (fun w0 G F0 => ?_)
 refine nY rfl (W_le (Le.openNew (u := 100) 1100 rfl rfl rfl rfl rfl) (nY rfl (W_le (Le.named (t := 0) (u := 100) 1100 rfl rfl) (nY rfl (sQ (rG (eZ rfl (oN (tN (sQ (sQ (rG (eZ rfl (WO_nil' rfl rfl (lt_of rfl) rfl rfl rfl (eK 4 rfl ?_)))))))))))))))
 refine oN (tN ?_)
 refine W_cond rfl (fun h1 => ?_) (fun h1 => ?_)
 ·
  simp only [HS] at h1
  refine sQ (kY [0,2] rfl (rG (eZ rfl (oN (tN (W_le (Le.close (u := 100) 1100 rfl rfl rfl) (nY rfl (rT (tR ?_)))))))))
  refine EndsP_of (ks := [_]) (.inr rfl) (ret_okF rfl) (by decide) rfl (noR_spec rfl) (by repeat (first | exact trivial | refine ⟨rfl, rfl, ?_⟩)) ?_ ?_
  ·exact retPI (by rw [recS_no (by assumption)])
  ·(rw [recS_no (by assumption)]; rfl)
 simp only [HS] at h1
 refine W_skip (tN (sQ (kY [0,2] rfl (rG (eZ rfl (WO_nil' rfl rfl (lt_of rfl) rfl rfl rfl (eK 4 rfl (oN (tN (sQ (rG (eK 2 rfl (WO_nil' rfl rfl (lt_of rfl) rfl rfl rfl (kZ [2,3,15,17] rfl (eK 2 rfl ?_)))))))))))))))
 refine WO_struct tys rfl rfl (lt_of rfl) rfl rfl rfl (by kernel_rfl) rfl rfl rfl rfl rfl rfl (WO_nil' rfl rfl (lt_of rfl) rfl rfl rfl (eZ rfl (sT rfl (nZ rfl (oN (tN (sQ (rG (eK 2 rfl (oN (tN (W_le (Le.close (u := 100) 1100 rfl rfl rfl) (nY rfl (rT ?_))))))))))))))
 refine EndsP_of (ks := [_]) (.inr rfl) (ret_okF rfl) (by decide) rfl (noR_spec rfl) (by repeat (first | exact trivial | refine ⟨rfl, rfl, ?_⟩)) ?_ ?_
 ·exact retPI (by rw [(recS_yes (by assumption)).1])
 ·(have hq := (recS_yes (b := b) (by assumption)).2; rw [hq])

theorem l2Wrap_fun (n : Int) : Fun Tryz.prog 203 [.t (.int n)] (tupD [.t (.int (w32 n))]) := by
 refine Fun.begin tys Tryz.func203 rfl rfl (N := 6) [(0, .t (.int n))] rfl rfl (fun w0 G F0 => ?_)
 refine sQ (rG (eZ rfl (oN (tN (sQ (rG (eZ rfl (WO_conv (td := .int .i64) (k := .i32) rfl rfl (lt_of rfl) rfl (by kernel_rfl) (by kernel_rfl) rfl (WO_conv (td := .int .i32) (k := .i64) rfl rfl (lt_of rfl) rfl (by kernel_rfl) (by kernel_rfl) rfl (eZ rfl (oN (tN (rT (eR ?_))))))))))))))
 ·rfl

def reckV (op x y : Int) : Int := (reckS op x y).getD 0
theorem retII {a a' : Int} {b b' : Bool} (h : a = a') (h' : b = b') : [D.t (T.v (Value.int .i64 a)), D.t (T.v (Value.bool b))] = [D.t (T.int a'), D.t (T.bool b')] := by rw [h, h']

theorem l2Reckon_fun (op x y : Int) : Fun Tryz.prog 162 [.t (.int op), .t (.int x), .t (.int y)] (tupD [.t (.int (reckV op x y)), .t (.bool (reckS op x y).isSome)]) := by
 refine Fun.begin tys Tryz.func162 rfl rfl (N := 45) [(0, .t (.int op)), (1, .t (.int x)), (2, .t (.int y))] rfl rfl (fun w0 G F0 => ?_)
 refine sQ (rG (eK 2 rfl (oN (tN (sQ (rG (eZ rfl (oN (tN (sQ (sQ (rG (eZ rfl (oN (tN ?_)))))))))))))))
 refine W_block (sQ (rG (eK 2 rfl (oN (tN ?_)))))
 refine W_cond rfl (fun h1 => ?_) (fun h1 => ?_)
 ·
  simp only [HS] at h1
  refine sQ (rG (eK 3 rfl (kZ [6,7,8,17] rfl (callB ?_))))
  refine ⟨_, l2Wrap_fun _, rfl, ?_⟩
  refine eK 2 rfl (oN (tN (rT (bR (tR (eR ?_))))))
  ·exact retII (by grind [reckV, reckS, w64]) (by grind [reckS])
 simp only [HS] at h1
 refine sQ (rG (eK 2 rfl (oN (tN ?_))))
 refine W_cond rfl (fun h2 => ?_) (fun h2 => ?_)
 ·
  simp only [HS] at h2
  refine sQ (kY [1,2,6,7,8] rfl (rG (eK 3 rfl (callB ?_))))
  refine ⟨_, l2Wrap_fun _, rfl, ?_⟩
  refine eK 2 rfl (oN (tN (rT (bR (tR (eR ?_))))))
  ·exact retII (by grind [reckV, reckS, w64]) (by grind [reckS])
 simp only [HS] at h2
 refine sQ (kY [1,2,6,7,8,9] rfl (rG (eK 2 rfl (oN (tN ?_)))))
 refine W_cond rfl (fun h3 => ?_) (fun h3 => ?_)
 ·
  simp only [HS] at h3
  refine sQ (rG (eK 3 rfl (callB ?_)))
  refine ⟨_, l2Wrap_fun _, rfl, ?_⟩
  refine eK 2 rfl (oN (tN (rT (bR (tR (eR ?_))))))
  ·exact retII (by grind [reckV, reckS, w64]) (by grind [reckS])
 simp only [HS] at h3
 refine sQ (rG (eK 2 rfl (oN (tN ?_))))
 refine W_cond rfl (fun h4 => ?_) (fun h4 => ?_)
 ·
  simp only [HS] at h4
  refine sQ (sQ (rG (eK 2 rfl (oN (tN ?_)))))
  refine W_cond rfl (fun h5 => ?_) (fun h5 => ?_)
  ·
   simp only [HS] at h5
   refine sQ (rG (eK 2 rfl (oN (tN (rT (tR (bR (tR (eR ?_)))))))))
   ·exact retII (by grind [reckV, reckS, w64]) (by grind [reckS])
  simp only [HS] at h5
  refine W_skip (tN (sQ (rG (eK 2 rfl (WO_quo rfl rfl (lt_of rfl) rfl rfl rfl (by first | decide | omega) ?_)))))
  refine kZ [6,7,8,37] rfl (callB ?_)
  refine ⟨_, l2Wrap_fun _, rfl, ?_⟩
  refine eK 2 rfl (oN (tN (rT (bR (tR (eR ?_))))))
  ·exact retII (by grind [reckV, reckS, w64]) (by grind [reckS])
 simp only [HS] at h4
 refine sQ (rG (eK 2 rfl (oN (tN ?_))))
 refine W_cond rfl (fun h5 => ?_) (fun h5 => ?_)
 ·
  simp only [HS] at h5
  refine rG (eK 3 rfl (kZ [6,7,8,43] rfl (eZ rfl (oN (bN (tN (sQ (sQ (rG (eZ rfl (oN (tN ?_))))))))))))
  refine W_cond rfl (fun h6 => ?_) (fun h6 => ?_)
  ·
   simp only [HS] at h6
   refine sQ (rG (eK 2 rfl (oN (tN (rT (tR (eR ?_)))))))
   ·exact retII (by grind [reckV, reckS, w64]) (by grind [reckS])
  simp only [HS] at h6
  refine W_skip (tN (sQ (rG (eK 2 rfl (oN (tN (rT (eR ?_))))))))
  ·exact retII (by grind [reckV, reckS, w64]) (by grind [reckS])
 simp only [HS] at h5
 refine rG (eK 3 rfl (kZ [6,7,8,12] rfl (eZ rfl (oN (bN (tN (sQ (sQ (rG (eZ rfl (oN (tN ?_))))))))))))
 refine W_cond rfl (fun h6 => ?_) (fun h6 => ?_)
 ·
  simp only [HS] at h6
  refine sQ (rG (eK 2 rfl (oN (tN (rT (tR (eR ?_)))))))
  ·exact retII (by grind [reckV, reckS, w64]) (by grind [reckS])
 simp only [HS] at h6
 refine W_skip (tN (sQ (rG (eK 2 rfl (oN (tN (rT (eR ?_))))))))
 ·exact retII (by grind [reckV, reckS, w64]) (by grind [reckS])
end Go.Proofs.YtimpganophnehaaGreat
