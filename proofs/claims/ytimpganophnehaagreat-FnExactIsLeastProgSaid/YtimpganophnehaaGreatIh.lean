/- Walks of the program's machine: its small parts. -/
import Derived.Test.YtimpganophnehaaGreatIb
import Derived.Test.YtimpganophnehaaGreatMe
set_option linter.unusedVariables false
set_option linter.unusedSimpArgs false
set_option maxRecDepth 10000
set_option maxHeartbeats 1000000
namespace Go.Proofs.YtimpganophnehaaGreat
open Go.Eng

def rS (pv iv : Value) (most fu co : Int) (m : Ms) : List D := [.t (.v pv), .t (.v iv), .t (.int most), .t (.int fu), .t (.int m.deep), .t (.int co), .t (.int 0), .own (T.ints m.trace), .t (.int m.used)]
def gC (fn : Int) (vars off : List Int) (res e pan : Int) (exd : Bool) (bp : Value) : List D := [.t (.int fn), .own (T.ints vars), .t (.int res), .own (T.ints off), .t (.int e), .t (.int pan), .t (.bool exd), .t (.v bp)]
structure Kp where
 fn : Int
 vars : List Int
 off : List Int
 res : Int
 bp : Value
def byP (bb : Nat) : Option By → Value
 | none => .pointer none
 | some _ => .pointer (some ⟨bb, 0, none⟩)
def hH : Option By → Int
 | none => 0
 | some b => b.how
def nH : Option By → Int
 | none => 0
 | some b => b.pan
def xH : Option By → Bool
 | none => false
 | some b => b.exd
def byK (bb : Nat) (q : Kp) (b : Option By) : Blk := .obox (byP bb b) (gC q.fn q.vars q.off q.res (hH b) (nH b) (xH b) q.bp)
def fuH (h : Int) (m : Ms) : Int := if h = 4 then (m.fuel : Int) + 1 else m.fuel
def coH (h : Int) : Int := if 4 ≤ h then h else 0
def haH (h : Int) : Int := if 4 ≤ h then 4 else h
theorem retPBi {b b' : Bool} (h : b = b') : tupD [D.t (T.v (Value.bool b))] = D.t (T.bool b') := by rw [h]; rfl
theorem retPIi {b b' : Int} (h : b = b') : tupD [D.t (T.v (Value.int .i64 b))] = D.t (T.int b') := by rw [h]; rfl

theorem burnI_fun (bm : Nat) (pv iv : Value) (most : Int) (m : Ms) (rv : List Value) (rt : List T) (hm : m.fuel ≤ 1048576) : Proc Tryz.prog 175 [.t (.v (.pointer (some ⟨bm, 0, none⟩)))] (rv) (rt) [.obox (.pointer (some ⟨bm, 0, none⟩)) (rS pv iv most m.fuel 0 m)] (.t (.bool (decide (m.fuel ≠ 0)))) [.obox (.pointer (some ⟨bm, 0, none⟩)) (rS pv iv most (burnM m).fuel (if m.fuel = 0 then 5 else 0) (burnM m))] := by
 refine Proc.intro tys Tryz.func175 rfl rfl (N := 19) [100] 99 ([(0, .t (.v (.pointer (some ⟨bm, 0, none⟩))))]) ([(100, .obox (.pointer (some ⟨bm, 0, none⟩)) (rS pv iv most m.fuel 0 m)), (99, .ro rv rt)]) rfl rfl rfl rfl (by decide) (by decide) rfl (fun w0 G F0 => ?_)
 refine nY rfl (W_le (Le.openNew (u := 100) 1100 rfl rfl rfl rfl rfl) (nY rfl (W_le (Le.named (t := 0) (u := 100) 1100 rfl rfl) (nY rfl (sQ (rG (eZ rfl (oN (tN (sQ (sQ (rG (eZ rfl (WO_nil' rfl rfl (lt_of rfl) rfl rfl rfl (eK 3 rfl ?_)))))))))))))))
 refine oN (tN ?_)
 refine W_cond rfl (fun h1 => ?_) (fun h1 => ?_)
 ·
  simp only [HS] at h1
  refine sQ (rG (eZ rfl (WO_nil' rfl rfl (lt_of rfl) rfl rfl rfl (eZ rfl (kZ [0,2,10] rfl (eZ rfl (sT rfl (nZ rfl (oN (tN (sQ (rG (eZ rfl (oN (tN ?_)))))))))))))))
  refine W_le (Le.close (u := 100) 1100 rfl rfl rfl) (nY rfl (rT (tR ?_)))
  refine EndsP_of (ks := [_]) (.inr rfl) (ret_okF rfl) (by decide) rfl (noR_spec rfl) (by repeat (first | exact trivial | refine ⟨rfl, rfl, ?_⟩)) ?_ ?_
  ·exact retPBi (by simp; omega)
  ·(have h : (m.fuel : Int) = 0 := (by assumption); have hz : m.fuel = 0 := (by omega); simp only [rS, burnM, hz]; rfl)
 simp only [HS] at h1
 refine W_skip (tN (sQ (rG (eZ rfl (WO_nil' rfl rfl (lt_of rfl) rfl rfl rfl (eZ rfl (kZ [2,12,14] rfl (eZ rfl (evI ?_)))))))))
 refine WO_nil' rfl rfl (lt_of rfl) rfl rfl rfl (eZ rfl (sT rfl (nZ rfl (oN (tN (sQ (rG (eZ rfl (oN (tN (W_le (Le.close (u := 100) 1100 rfl rfl rfl) (nY rfl (rT ?_)))))))))))))
 refine EndsP_of (ks := [_]) (.inr rfl) (ret_okF rfl) (by decide) rfl (noR_spec rfl) (by repeat (first | exact trivial | refine ⟨rfl, rfl, ?_⟩)) ?_ ?_
 ·exact retPBi (by simp; omega)
 ·(have h : (m.fuel : Int) - 1 = ((m.fuel - 1 : Nat) : Int) := (by omega); rw [h, if_neg (by omega)]; rfl)

theorem recSn {b : By} (h : ¬ b.how = 2) : recS (some b) = (0, some b) := by rw [recS, if_neg h]
theorem recSy {b : By} (h : b.how = 2) : recS (some b) = (b.pan, some ⟨if b.exd = true then 3 else 1, b.pan, b.exd⟩) := by rw [recS, if_pos h]
theorem recI0_fun (bc bb : Nat) (q : Kp) (fn : Int) (vars off : List Int) (res e pan : Int) (exd : Bool) (rv : List Value) (rt : List T) : Proc Tryz.prog 240 [.t (.v (.pointer (some ⟨bc, 0, none⟩)))] (rv) (rt) [.obox (.pointer (some ⟨bc, 0, none⟩)) (gC fn vars off res e pan exd (byP bb none)), byK bb q none] (.t (.int 0)) [.obox (.pointer (some ⟨bc, 0, none⟩)) (gC fn vars off res e pan exd (byP bb none)), byK bb q none] := by
 refine Proc.intro tys Tryz.func240 rfl rfl (N := 44) [100, 101] 99 ([(0, .t (.v (.pointer (some ⟨bc, 0, none⟩))))]) ([(100, .obox (.pointer (some ⟨bc, 0, none⟩)) (gC fn vars off res e pan exd (byP bb none))), (101, byK bb q none), (99, .ro rv rt)]) rfl rfl rfl rfl (by decide) (by decide) rfl (fun w0 G F0 => ?_)
 refine nY rfl (W_le (Le.openNew (u := 100) 1100 rfl rfl rfl rfl rfl) (nY rfl (W_le (Le.named (t := 0) (u := 100) 1100 rfl rfl) (nY rfl (sQ (rG (eZ rfl (oN (tN (sQ (sQ (rG (eZ rfl (WO_nil' rfl rfl (lt_of rfl) rfl rfl rfl (eK 2 rfl ?_)))))))))))))))
 refine WO_ptrNil (e := 214) (b := true) rfl rfl (lt_of rfl) rfl (by kernel_rfl) rfl rfl (.inl ⟨rfl, rfl⟩) (WO_le (Le.known (t := 7) true rfl (by simp)) ?_)
 refine eZ rfl (gN rfl rfl (gN rfl rfl (kZ [0,2,8,10] rfl (gN rfl rfl (gN rfl rfl (gN rfl rfl (gN rfl rfl (gN rfl rfl (gN rfl rfl (eZ rfl (oN (tN (W_condT rfl (sQ (kY [0,2] rfl ?_)))))))))))))))
 refine rG (eZ rfl (oN (tN (W_le (Le.close (u := 100) 1100 rfl rfl rfl) (nY rfl (rT (tR ?_)))))))
 refine EndsP_of (ks := [_, _]) (.inr rfl) (ret_okF rfl) (by decide) rfl (noR_spec rfl) (by repeat (first | exact trivial | refine ⟨rfl, rfl, ?_⟩)) ?_ ?_
 ·rfl
 ·rfl

theorem recI1_fun (bc bb : Nat) (q : Kp) (b : By) (fn : Int) (vars off : List Int) (res e pan : Int) (exd : Bool) (rv : List Value) (rt : List T) : Proc Tryz.prog 240 [.t (.v (.pointer (some ⟨bc, 0, none⟩)))] (rv) (rt) [.obox (.pointer (some ⟨bc, 0, none⟩)) (gC fn vars off res e pan exd (byP bb (some b))), .obox (.pointer (some ⟨bb, 0, none⟩)) (gC q.fn q.vars q.off q.res b.how b.pan b.exd q.bp)] (.t (.int (recS (some b)).1)) [.obox (.pointer (some ⟨bc, 0, none⟩)) (gC fn vars off res e pan exd (byP bb (some b))), byK bb q (recS (some b)).2] := by
 refine Proc.intro tys Tryz.func240 rfl rfl (N := 44) [100, 101] 99 ([(0, .t (.v (.pointer (some ⟨bc, 0, none⟩))))]) ([(100, .obox (.pointer (some ⟨bc, 0, none⟩)) (gC fn vars off res e pan exd (byP bb (some b)))), (101, .obox (.pointer (some ⟨bb, 0, none⟩)) (gC q.fn q.vars q.off q.res b.how b.pan b.exd q.bp)), (99, .ro rv rt)]) rfl rfl rfl rfl (by decide) (by decide) rfl (fun w0 G F0 => ?_)
 refine nY rfl (W_le (Le.openNew (u := 100) 1100 rfl rfl rfl rfl rfl) (nY rfl (W_le (Le.named (t := 0) (u := 100) 1100 rfl rfl) (nY rfl (W_le (Le.openNew (u := 101) 1101 rfl rfl rfl rfl rfl) (nY rfl (sQ (rG (eZ rfl (oN (tN (sQ (sQ (rG (eZ rfl ?_)))))))))))))))
 refine WO_nil' rfl rfl (lt_of rfl) rfl rfl rfl (eK 2 rfl (WO_ptrNil (e := 214) (b := false) rfl rfl (lt_of rfl) rfl (by kernel_rfl) rfl rfl (.inl ⟨rfl, rfl⟩) (WO_le (Le.known (t := 7) false rfl (by simp)) ?_)))
 refine eZ rfl (gY rfl (eZ rfl (gY rfl (WO_nil' rfl rfl (lt_of rfl) rfl rfl rfl (kZ [0,2,8,10] rfl (gY rfl (eZ rfl (gY rfl (eZ rfl (WO_le (Le.named (t := 12) (u := 101) 1101 rfl rfl) (gY rfl (WO_nil' rfl rfl (lt_of rfl) rfl rfl rfl (gY rfl (eZ rfl (gY rfl ?_)))))))))))))))
 refine eZ rfl (gY rfl (eK 2 rfl (oN (tN ?_))))
 refine W_cond rfl (fun h1 => ?_) (fun h1 => ?_)
 ·
  simp only [HS] at h1
  refine sQ (kY [0,2] rfl (rG (eZ rfl (oN (tN (W_le (Le.close (u := 100) 1100 rfl rfl rfl) (nY rfl (W_le (Le.close (u := 101) 1101 rfl rfl rfl) (nY rfl (rT (tR ?_)))))))))))
  refine EndsP_of (ks := [_, _]) (.inr rfl) (ret_okF rfl) (by decide) rfl (noR_spec rfl) (by repeat (first | exact trivial | refine ⟨rfl, rfl, ?_⟩)) ?_ ?_
  ·exact retPIi (by rw [recSn (by assumption)])
  ·(rw [recSn (by assumption)]; rfl)
 simp only [HS] at h1
 refine W_skip (tN (sQ (kY [0,2] rfl (rG (eZ rfl (WO_nil' rfl rfl (lt_of rfl) rfl rfl rfl (eK 2 rfl (WO_le (Le.named (t := 21) (u := 101) 1101 rfl rfl) (WO_nil' rfl rfl (lt_of rfl) rfl rfl rfl (eZ rfl (sT rfl (nZ rfl (oN (tN (sQ ?_)))))))))))))))
 refine sQ (kY [0,2] rfl (rG (eZ rfl (WO_nil' rfl rfl (lt_of rfl) rfl rfl rfl (eK 2 rfl (WO_le (Le.named (t := 27) (u := 101) 1101 rfl rfl) (WO_nil' rfl rfl (lt_of rfl) rfl rfl rfl (eK 2 rfl (oN (tN ?_))))))))))
 refine W_cond rfl (fun h2 => ?_) (fun h2 => ?_)
 ·
  refine kY [0,2] rfl (rG (eZ rfl (WO_nil' rfl rfl (lt_of rfl) rfl rfl rfl (eK 2 rfl (WO_le (Le.named (t := 34) (u := 101) 1101 rfl rfl) (WO_nil' rfl rfl (lt_of rfl) rfl rfl rfl (eZ rfl (sT rfl (nZ rfl (oN (tN (sQ (kY [0,2] rfl (rG (eZ rfl ?_)))))))))))))))
  refine WO_nil' rfl rfl (lt_of rfl) rfl rfl rfl (eK 2 rfl (WO_le (Le.named (t := 40) (u := 101) 1101 rfl rfl) (WO_nil' rfl rfl (lt_of rfl) rfl rfl rfl (eK 3 rfl (oN (tN (W_le (Le.close (u := 100) 1100 rfl rfl rfl) (nY rfl (W_le (Le.close (u := 101) 1101 rfl rfl rfl) (nY rfl (rT ?_)))))))))))
  refine EndsP_of (ks := [_, _]) (.inr rfl) (ret_okF rfl) (by decide) rfl (noR_spec rfl) (by repeat (first | exact trivial | refine ⟨rfl, rfl, ?_⟩)) ?_ ?_
  ·exact retPIi (by rw [recSy (by omega)])
  ·(rw [recSy (by omega), if_pos (by assumption)]; rfl)
 refine W_skip (tN (sQ (kY [0,2] rfl (rG (eZ rfl (WO_nil' rfl rfl (lt_of rfl) rfl rfl rfl (eK 2 rfl (WO_le (Le.named (t := 40) (u := 101) 1101 rfl rfl) (WO_nil' rfl rfl (lt_of rfl) rfl rfl rfl (eK 3 rfl (oN (tN (W_le (Le.close (u := 100) 1100 rfl rfl rfl) (nY rfl (W_le (Le.close (u := 101) 1101 rfl rfl rfl) ?_)))))))))))))))
 refine nY rfl (rT ?_)
 refine EndsP_of (ks := [_, _]) (.inr rfl) (ret_okF rfl) (by decide) rfl (noR_spec rfl) (by repeat (first | exact trivial | refine ⟨rfl, rfl, ?_⟩)) ?_ ?_
 ·exact retPIi (by rw [recSy (by omega)])
 ·(rw [recSy (by omega), if_neg (by simp_all)]; rfl)

theorem recI_fun (bc bb : Nat) (q : Kp) (b : Option By) (fn : Int) (vars off : List Int) (res e pan : Int) (exd : Bool) (rv : List Value) (rt : List T) : Proc Tryz.prog 240 [.t (.v (.pointer (some ⟨bc, 0, none⟩)))] rv rt
  [.obox (.pointer (some ⟨bc, 0, none⟩)) (gC fn vars off res e pan exd (byP bb b)), byK bb q b] (.t (.int (recS b).1)) [.obox (.pointer (some ⟨bc, 0, none⟩)) (gC fn vars off res e pan exd (byP bb b)), byK bb q (recS b).2] := by
 cases b with
 | none => exact recI0_fun bc bb q fn vars off res e pan exd rv rt
 | some b => exact recI1_fun bc bb q b fn vars off res e pan exd rv rt
theorem byP_eq {bb : Nat} {a b : Option By} (h : a.isSome = b.isSome) : byP bb a = byP bb b := by
 cases a <;> cases b <;> first | rfl | cases h

theorem endI_fun (bc : Nat) (h v : Int) (fn : Int) (vars off : List Int) (res e pan : Int) (exd : Bool) (bp : Value) (rv : List Value) (rt : List T) : Proc Tryz.prog 177 [.t (.v (.pointer (some ⟨bc, 0, none⟩))), .t (.int h), .t (.int v)] (rv) (rt) [.obox (.pointer (some ⟨bc, 0, none⟩)) (gC fn vars off res e pan exd bp)] (.tup []) [.obox (.pointer (some ⟨bc, 0, none⟩)) (gC fn vars off res h (if h = 2 then v else pan) (or exd (decide (h = 3))) bp)] := by
 refine Proc.intro tys Tryz.func177 rfl rfl (N := 22) [100] 99 ([(0, .t (.v (.pointer (some ⟨bc, 0, none⟩)))), (1, .t (.int h)), (2, .t (.int v))]) ([(100, .obox (.pointer (some ⟨bc, 0, none⟩)) (gC fn vars off res e pan exd bp)), (99, .ro rv rt)]) rfl rfl rfl rfl (by decide) (by decide) rfl (fun w0 G F0 => ?_)
 refine nY rfl (W_le (Le.openNew (u := 100) 1100 rfl rfl rfl rfl rfl) (nY rfl (W_le (Le.named (t := 0) (u := 100) 1100 rfl rfl) (nY rfl (W_endLe (sQ (rG (eK 2 rfl (WO_nil' rfl rfl (lt_of rfl) rfl rfl rfl (eZ rfl (sT rfl (nZ rfl (oN (tN (sQ ?_)))))))))))))))
 refine rG (eZ rfl (oN (tN (W_block (sQ (rG (eK 2 rfl (oN (tN ?_)))))))))
 refine W_cond rfl (fun h1 => ?_) (fun h1 => ?_)
 ·
  simp only [HS] at h1
  refine kY [0,2] rfl (rG (eK 2 rfl (WO_nil' rfl rfl (lt_of rfl) rfl rfl rfl (eZ rfl (sT rfl (nZ rfl (oN (bN ?_))))))))
  refine ⟨_, Le.close (u := 100) 1100 rfl rfl rfl, ?_⟩
  refine EndsP_of (ks := [_]) (.inl rfl) (ret_okF rfl) (by decide) rfl (noR_spec rfl) (by repeat (first | exact trivial | refine ⟨rfl, rfl, ?_⟩)) ?_ ?_
  ·rfl
  ·simp_all [gC]
   done
 simp only [HS] at h1
 refine sQ (kY [0,10] rfl (rG (eK 2 rfl (oN (tN ?_)))))
 refine W_cond rfl (fun h2 => ?_) (fun h2 => ?_)
 ·
  simp only [HS] at h2
  refine rG (eZ rfl (WO_nil' rfl rfl (lt_of rfl) rfl rfl rfl (eZ rfl (sT rfl (nZ rfl (oN (bN ?_)))))))
  refine ⟨_, Le.close (u := 100) 1100 rfl rfl rfl, ?_⟩
  refine EndsP_of (ks := [_]) (.inl rfl) (ret_okF rfl) (by decide) rfl (noR_spec rfl) (by repeat (first | exact trivial | refine ⟨rfl, rfl, ?_⟩)) ?_ ?_
  ·rfl
  ·simp_all [gC]
   done
 simp only [HS] at h2
 refine W_skip (bN ?_)
 refine ⟨_, Le.close (u := 100) 1100 rfl rfl rfl, ?_⟩
 refine EndsP_of (ks := [_]) (.inl rfl) (ret_okF rfl) (by decide) rfl (noR_spec rfl) (by repeat (first | exact trivial | refine ⟨rfl, rfl, ?_⟩)) ?_ ?_
 ·rfl
 ·simp_all [gC]
  done

theorem wrapI_fun (n : Int) : Fun Tryz.prog 165 [.t (.int n)] (tupD [.t (.int (w32 n))]) := by
 refine Fun.begin tys Tryz.func165 rfl rfl (N := 6) [(0, .t (.int n))] rfl rfl (fun w0 G F0 => ?_)
 refine sQ (rG (eZ rfl (oN (tN (sQ (rG (eZ rfl (WO_conv (td := .int .i64) (k := .i32) rfl rfl (lt_of rfl) rfl (by kernel_rfl) (by kernel_rfl) rfl (WO_conv (td := .int .i32) (k := .i64) rfl rfl (lt_of rfl) rfl (by kernel_rfl) (by kernel_rfl) rfl (eZ rfl (oN (tN (rT (eR ?_))))))))))))))
 ·rfl

theorem retIIi {a a' : Int} {b b' : Bool} (h : a = a') (h' : b = b') : [D.t (T.v (Value.int .i64 a)), D.t (T.v (Value.bool b))] = [D.t (T.int a'), D.t (T.bool b')] := by rw [h, h']

theorem reckI_fun (op x y : Int) : Fun Tryz.prog 110 [.t (.int op), .t (.int x), .t (.int y)] (tupD [.t (.int (reckV op x y)), .t (.bool (reckS op x y).isSome)]) := by
 refine Fun.begin tys Tryz.func110 rfl rfl (N := 45) [(0, .t (.int op)), (1, .t (.int x)), (2, .t (.int y))] rfl rfl (fun w0 G F0 => ?_)
 refine sQ (rG (eK 2 rfl (oN (tN (sQ (rG (eZ rfl (oN (tN (sQ (sQ (rG (eZ rfl (oN (tN ?_)))))))))))))))
 refine W_block (sQ (rG (eK 2 rfl (oN (tN ?_)))))
 refine W_cond rfl (fun h1 => ?_) (fun h1 => ?_)
 ·
  simp only [HS] at h1
  refine sQ (rG (eK 3 rfl (kZ [6,7,8,17] rfl (callB ?_))))
  refine ⟨_, wrapI_fun _, rfl, ?_⟩
  refine eK 2 rfl (oN (tN (rT (bR (tR (eR ?_))))))
  ·exact retIIi (by grind [reckV, reckS, w64]) (by grind [reckS])
 simp only [HS] at h1
 refine sQ (rG (eK 2 rfl (oN (tN ?_))))
 refine W_cond rfl (fun h2 => ?_) (fun h2 => ?_)
 ·
  simp only [HS] at h2
  refine sQ (kY [1,2,6,7,8] rfl (rG (eK 3 rfl (callB ?_))))
  refine ⟨_, wrapI_fun _, rfl, ?_⟩
  refine eK 2 rfl (oN (tN (rT (bR (tR (eR ?_))))))
  ·exact retIIi (by grind [reckV, reckS, w64]) (by grind [reckS])
 simp only [HS] at h2
 refine sQ (kY [1,2,6,7,8,9] rfl (rG (eK 2 rfl (oN (tN ?_)))))
 refine W_cond rfl (fun h3 => ?_) (fun h3 => ?_)
 ·
  simp only [HS] at h3
  refine sQ (rG (eK 3 rfl (callB ?_)))
  refine ⟨_, wrapI_fun _, rfl, ?_⟩
  refine eK 2 rfl (oN (tN (rT (bR (tR (eR ?_))))))
  ·exact retIIi (by grind [reckV, reckS, w64]) (by grind [reckS])
 simp only [HS] at h3
 refine sQ (rG (eK 2 rfl (oN (tN ?_))))
 refine W_cond rfl (fun h4 => ?_) (fun h4 => ?_)
 ·
  simp only [HS] at h4
  refine sQ (sQ (rG (eK 2 rfl (oN (tN ?_)))))
  refine W_cond rfl (fun h5 => ?_) (fun h5 => ?_)
  ·
   simp only [HS] at h5
   refine sQ (rG (eK 2 rfl (oN (tN (rT (tR (bR (tR (eR ?_)))))))))
   ·exact retIIi (by grind [reckV, reckS, w64]) (by grind [reckS])
  simp only [HS] at h5
  refine W_skip (tN (sQ (rG (eK 2 rfl (WO_quo rfl rfl (lt_of rfl) rfl rfl rfl (by first | decide | omega) ?_)))))
  refine kZ [6,7,8,37] rfl (callB ?_)
  refine ⟨_, wrapI_fun _, rfl, ?_⟩
  refine eK 2 rfl (oN (tN (rT (bR (tR (eR ?_))))))
  ·exact retIIi (by grind [reckV, reckS, w64]) (by grind [reckS])
 simp only [HS] at h4
 refine sQ (rG (eK 2 rfl (oN (tN ?_))))
 refine W_cond rfl (fun h5 => ?_) (fun h5 => ?_)
 ·
  simp only [HS] at h5
  refine rG (eK 3 rfl (kZ [6,7,8,43] rfl (eZ rfl (oN (bN (tN (sQ (sQ (rG (eZ rfl (oN (tN ?_))))))))))))
  refine W_cond rfl (fun h6 => ?_) (fun h6 => ?_)
  ·
   simp only [HS] at h6
   refine sQ (rG (eK 2 rfl (oN (tN (rT (tR (eR ?_)))))))
   ·exact retIIi (by grind [reckV, reckS, w64]) (by grind [reckS])
  simp only [HS] at h6
  refine W_skip (tN (sQ (rG (eK 2 rfl (oN (tN (rT (eR ?_))))))))
  ·exact retIIi (by grind [reckV, reckS, w64]) (by grind [reckS])
 simp only [HS] at h5
 refine rG (eK 3 rfl (kZ [6,7,8,12] rfl (eZ rfl (oN (bN (tN (sQ (sQ (rG (eZ rfl (oN (tN ?_))))))))))))
 refine W_cond rfl (fun h6 => ?_) (fun h6 => ?_)
 ·
  simp only [HS] at h6
  refine sQ (rG (eK 2 rfl (oN (tN (rT (tR (eR ?_)))))))
  ·exact retIIi (by grind [reckV, reckS, w64]) (by grind [reckS])
 simp only [HS] at h6
 refine W_skip (tN (sQ (rG (eK 2 rfl (oN (tN (rT (eR ?_))))))))
 ·exact retIIi (by grind [reckV, reckS, w64]) (by grind [reckS])
end Go.Proofs.YtimpganophnehaaGreat
