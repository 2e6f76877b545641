/- Walks and laws of the claim. -/
import Derived.Test.YtafjkelehnpfcaaDoorKc
import Derived.Test.YtafjkelehnpfcaaDoorXlD
import Derived.Lib.AppendIntMem
import Derived.Lib.ItoaLen
import Derived.Lib.AtoiTie
import Derived.Test.YtafjkelehnpfcaaDoorMe
import Derived.Test.YtafjkelehnpfcaaDoorTy
import Derived.Shelf.Strings.Builder1
set_option linter.unusedVariables false
set_option linter.unusedSimpArgs false
set_option maxRecDepth 100000
set_option maxHeartbeats 4000000
namespace Go.Proofs.YtafjkelehnpfcaaDoor
open Go.Eng
open Go.Eng Go.RowKit

theorem var_below {P : Program} {w w' : World} {name : String} {arr : Array Value} (h : w.var? P name = some arr) (hb : Below w.heap.size w w') : w'.var? P name = some arr := by
  unfold World.var? at *
  cases hg : P.globalNamed name with
  | none => simp [hg] at h
  | some g =>
    simp only [hg, Option.bind_some] at h ⊢
    have hlt : g < w.heap.size := by
      by_cases hlt : g < w.heap.size
      · exact hlt
      · rw [Array.getElem?_eq_none (by omega)] at h; cases h
    rw [hb.block g hlt]
    exact h
def wordsV : List Value := wordsL.map fun l => .string ⟨⟨l⟩⟩
theorem gWords : Tryd.prog.globalNamed "loop.example/g00745/impl.insWords" = some 0 := by kernel_rfl
theorem below_drew {w : World} {n : Nat} : Below w.heap.size w (w.drewN n) := ⟨rfl, rfl, rfl, Nat.le_refl _, fun _ _ => rfl⟩
theorem below_grow {w : World} {os : Array Obj} : Below w.heap.size w (Sort.grow w os) := by
  refine ⟨rfl, rfl, rfl, ?_, fun k hk => ?_⟩
  · show w.heap.size ≤ (w.heap ++ os).size
    rw [Array.size_append]; omega
  · show (w.heap ++ os)[k]? = w.heap[k]?
    rw [Array.getElem?_append_left hk]

/-- What writing needs of them. -/
def LadC (w : World) (F : Nat → Prop) : Prop :=
  F 0 ∧ w.var? Tryd.prog "loop.example/g00745/impl.insWords" = some wordsV.toArray ∧ Lib.TabIs Tryd.prog w "internal/strconv.uint64pow10" .u64 Lib.pow10Tab
theorem LadCS : Stable LadC := by
  rintro w w' F F' ⟨h1, h2, h4⟩ hb hF
  exact ⟨hF _ h1, var_below h2 hb, Lib.tabBelow_of_tabIs h4 w' hb⟩
theorem wordsAt_of {w : World} {F : Nat → Prop} (h1 : F 0) (h2 : w.var? Tryd.prog "loop.example/g00745/impl.insWords" = some wordsV.toArray) : F 0 ∧ ∃ arr e fz, w.heap[0]? = some (.cells arr e fz) ∧ arr.toList = wordsV := by
  unfold World.var? at h2
  simp only [gWords, Option.bind_some] at h2
  refine ⟨h1, ?_⟩
  split at h2
  · rename_i cs e fz hh
    cases h2
    exact ⟨_, _, _, hh, rfl⟩
  · cases h2
theorem wordsAtC : LiesAt LadC 0 wordsV := fun w F h => wordsAt_of h.1 h.2.1
theorem itoaC_fun (n : Int) (h0 : -9223372036854775808 ≤ n) (h1 : n ≤ 9223372036854775807) : FunL Tryd.prog LadC 50 [.t (.int n)] (.t (T.str (Lib.itoa n))) := by
  refine FunL.plain (vs := [.int .i64 n]) (u := .string ⟨(Lib.itoa n).toArray⟩) ⟨_, Tryd.func50, rfl, rfl⟩ (fun w F h => ?_) (fun w F => .t (.v rfl .nil) .done)
  refine (Tryd.strconv_Itoa n h0 h1 w h.2.2).mono ?_
  rintro e w' ⟨rfl, k, os, rfl⟩
  exact ⟨rfl, below_drew.trans (below_grow (w := w.drewN k))⟩
open Go.Eng

def wordI (op : Int) : Tx := wordsL.getD op.toNat []
noncomputable def insTx (i : Ins) : Tx := if hasNB i.op then wordI i.op ++ [32] ++ Lib.itoa i.n else wordI i.op
theorem wordI_len {op : Int} : (wordI op).length ≤ 7 := by
  unfold wordI
  have h : ∀ w, w ∈ wordsL → w.length ≤ 7 := by decide
  rw [List.getD_eq_getElem?_getD]
  cases hh : wordsL[op.toNat]? with
  | none => simp
  | some w => exact h w (List.mem_of_getElem? hh)
theorem wordsV_at {k : Int} (h0 : 0 ≤ k) (h1 : k < 19) : wordsV[k.toNat * 1]? = some (.string ⟨⟨wordI k⟩⟩) := by
  have h2 : k.toNat < wordsL.length := by show k.toNat < 19; omega
  rw [Nat.mul_one]
  unfold wordsV wordI
  rw [List.getElem?_map, List.getElem?_eq_getElem h2, List.getD_eq_getElem?_getD, List.getElem?_eq_getElem h2]
  rfl

theorem insTextC_fun (i : Ins) (h0 : 0 ≤ i.op) (h1' : i.op < 19) (h2' : -9223372036854775808 ≤ i.n) (h3' : i.n ≤ 9223372036854775807) : FunL Tryd.prog LadC 52 [.t i.tt] (tupD [.t (T.str (insTx i))]) := by
  have hwl := wordI_len (op := i.op)
  have hil := Lib.itoa_length_le i.n h2' h3'
  refine FunL.begin LadCS tys Tryd.func52 rfl rfl (N := 20) [(0, .t i.tt)] rfl rfl (fun w0 G F0 hL => ?_)
  refine W_seq ?_
  refine W_region ?_
  refine WO_box rfl rfl (lt_of rfl) rfl rfl ?_
  refine WO_norm rfl ?_
  refine ev ?_
  refine WO_nil ?_
  refine thenQ_n ?_
  iterate 2 (refine W_seq ?_)
  refine W_region ?_
  refine ev ?_
  refine ev ?_
  refine callB ?_
  refine ⟨_, hasNI_fun _, rfl, ?_⟩
  refine ev ?_
  refine WO_nil ?_
  refine thenQ_n ?_
  refine W_cond rfl (fun h1 => ?_) (fun h1 => ?_)
  ·
    try simp only [HS] at h1
    refine W_seq ?_
    refine W_region ?_
    refine ev ?_
    refine ev ?_
    refine WO_gIdx (e := 9) (len := 19) tys rfl rfl (lt_of rfl) rfl (by kernel_rfl) rfl rfl (by omega) (by omega) ?_
    refine WO_keep [1, 2, 9] rfl ?_
    refine WO_gLoad hL tys (wordsAtC) rfl rfl (lt_of rfl) rfl rfl rfl rfl (wordsV_at (by omega) (by omega)) rfl ?_
    refine ev ?_
    refine WO_nil ?_
    refine thenQ_n ?_
    refine W_ret ?_
    refine thenQ_r ?_
    refine Ends_of (.inr rfl) (ret_okF rfl) (by decide) rfl ?_
    · simp_all [insTx]
  try simp only [HS] at h1
  refine W_skip ?_
  refine thenQ_n ?_
  refine W_seq ?_
  refine W_regionD mixed (by kernel_rfl) ?_
  refine evQ ?_
  refine QL_norm rfl ?_
  refine evQ ?_
  refine QL_gIdx (e := 9) (len := 19) tys rfl rfl (lt_of rfl) rfl (by kernel_rfl) rfl rfl (by omega) (by omega) ?_
  refine QL_gLoad hL tys (wordsAtC) rfl rfl (lt_of rfl) rfl rfl rfl rfl (wordsV_at (by omega) (by omega)) rfl ?_
  refine QL_binW rfl rfl (lt_of rfl) rfl rfl rfl (binStrAdd (by first | (simp; omega) | (simp only [List.length_append]; simp; omega))) rfl ?_
  refine evQ ?_
  refine evQ ?_
  refine QL_norm rfl ?_
  refine callLBQ hL ?_
  refine ⟨_, itoaC_fun _ (by omega) (by omega), rfl, ?_⟩
  refine QL_binW rfl rfl (lt_of rfl) rfl rfl rfl (binStrAdd (by first | (simp; omega) | (simp only [List.length_append]; simp; omega))) rfl ?_
  refine evQ ?_
  refine QL_nil ?_
  refine thenQ_n ?_
  refine W_ret ?_
  refine Ends_of (.inr rfl) (ret_okF rfl) (by decide) rfl ?_
  · simp_all [insTx]
open Go.Eng
open Go.Eng
open Go.Eng

theorem insB_more {i : Ins} (h : insB i = true) : 1 ≤ i.op ∧ i.op ≤ 18 ∧ -2147483648 ≤ i.n ∧ i.n ≤ 2147483647 ∧ (hasNB i.op = false → i.n = 0) := by
  unfold insB hasNB at *
  grind
open Go.Eng
open Go.Eng

/-- The low byte of a number. -/
def by8 (z : Int) : UInt8 := UInt8.ofNat (z % 256).toNat
theorem by8_nat (z : Int) : ((by8 z).toNat : Int) = z % 256 := by
  unfold by8
  rw [UInt8.toNat_ofNat']
  omega
def lebU (n : Int) : Tx := if n ≤ 127 then [by8 n] else by8 (n % 128 + 128) :: lebU (n / 128)
termination_by n.toNat
decreasing_by omega
def lebS (n : Int) : Tx := if -64 ≤ n ∧ n ≤ 63 then [by8 (n % 128)] else by8 (n % 128 + 128) :: lebS (n / 128)
termination_by n.natAbs
decreasing_by omega
theorem lebU_end {n : Int} (h : n ≤ 127) : lebU n = [by8 n] := by rw [lebU, if_pos h]
theorem lebU_go {n : Int} (h : 127 < n) : lebU n = by8 (n % 128 + 128) :: lebU (n / 128) := by rw [lebU, if_neg (by omega)]
theorem lebS_end {n : Int} (h : -64 ≤ n) (h2 : n ≤ 63) : lebS n = [by8 (n % 128)] := by rw [lebS, if_pos ⟨h, h2⟩]
theorem lebS_go {n : Int} (h : ¬ (-64 ≤ n ∧ n ≤ 63)) : lebS n = by8 (n % 128 + 128) :: lebS (n / 128) := by rw [lebS, if_neg h]
theorem lebU_bd : ∀ (k : Nat) {n : Int}, n < 2 ^ (7 * k) → (lebU n).length ≤ k + 1
  | 0, n, h => by rw [lebU_end (by simp at h; omega)]; simp
  | k + 1, n, h => by
    by_cases h1 : n ≤ 127
    · rw [lebU_end h1]; simp
    · rw [lebU_go (by omega)]
      have h2 : n / 128 < 2 ^ (7 * k) := by
        have h3 : (2 : Int) ^ (7 * (k + 1)) = 2 ^ (7 * k) * 128 := by rw [show 7 * (k + 1) = 7 * k + 7 by omega, Int.pow_add]; rfl
        rw [h3] at h
        omega
      have := lebU_bd k h2
      simp; omega
theorem lebU_len {n : Int} (h : n < 18446744073709551616) : (lebU n).length ≤ 11 := lebU_bd 10 (n := n) (Int.lt_of_lt_of_le h (by decide))
theorem lebS_bd : ∀ (k : Nat) {n : Int}, -(2 ^ (7 * k)) ≤ n → n < 2 ^ (7 * k) → (lebS n).length ≤ k + 1
  | 0, n, h, h' => by rw [lebS_end (by simp at h; omega) (by simp at h'; omega)]; simp
  | k + 1, n, h, h' => by
    by_cases h1 : -64 ≤ n ∧ n ≤ 63
    · rw [lebS_end h1.1 h1.2]; simp
    · rw [lebS_go h1]
      have h3 : (2 : Int) ^ (7 * (k + 1)) = 2 ^ (7 * k) * 128 := by rw [show 7 * (k + 1) = 7 * k + 7 by omega, Int.pow_add]; rfl
      rw [h3] at h h'
      have := lebS_bd k (n := n / 128) (by omega) (by omega)
      simp; omega
theorem lebS_len {n : Int} (h : -9223372036854775808 ≤ n) (h' : n ≤ 9223372036854775807) : (lebS n).length ≤ 11 := lebS_bd 10 (n := n) (Int.le_trans (by decide) h) (Int.lt_of_le_of_lt h' (by decide))

/-! The machine's words. -/
theorem wrapU8 (n : Int) : IntKind.u8.wrap n = ((by8 n).toNat : Int) := by
  rw [by8_nat]
  simp [IntKind.wrap, IntKind.bits, IntKind.signed]
theorem wrapU64 {n : Int} (h0 : 0 ≤ n) (h1 : n < 18446744073709551616) : IntKind.u64.wrap n = n := by
  have h : n % 18446744073709551616 = n := by omega
  simp [IntKind.wrap, IntKind.bits, IntKind.signed, h]
theorem wrapI64 {n : Int} (h0 : -9223372036854775808 ≤ n) (h1 : n < 9223372036854775808) : IntKind.i64.wrap n = n := wrap_id (by omega) (by omega)
theorem or128N : ∀ n, n < 256 → n ||| 128 = n % 128 + 128 := by decide +kernel
theorem by8_mod {a b : Int} (h : a % 256 = b % 256) : by8 a = by8 b := by unfold by8; rw [h]
section
variable {P : Program}
theorem binOr {k : IntKind} {a b : Int} : BinIs P .or (.int k a) (.int k b) (.int k (k.wrap ((BitVec.ofInt k.bits a ||| BitVec.ofInt k.bits b).toNat : Nat))) := fun ty ox oy w => by
  simp [eqGuard, binOp, Op.intBits]
theorem or128 (n : Int) : BinIs P .or (.int .u8 ((by8 n).toNat : Int)) (.int .u8 128) (.int .u8 ((by8 (n % 128 + 128)).toNat : Int)) := by
  have h := @binOr P .u8 ((by8 n).toNat : Int) 128
  have e : IntKind.u8.wrap (((BitVec.ofInt IntKind.u8.bits ((by8 n).toNat : Int) ||| BitVec.ofInt IntKind.u8.bits 128).toNat : Nat) : Int) = ((by8 (n % 128 + 128)).toNat : Int) := by
    rw [wrapU8, BitVec.toNat_or]
    have h1 := (by8 n).toNat_lt
    have e1 : (BitVec.ofInt IntKind.u8.bits ((by8 n).toNat : Int)).toNat = (by8 n).toNat := by
      rw [BitVec.toNat_ofInt]; simp only [IntKind.bits]; omega
    have e2 : (BitVec.ofInt IntKind.u8.bits 128).toNat = 128 := by decide
    rw [e1, e2, or128N _ h1, by8_mod]
    have := by8_nat n
    omega
  rw [e] at h
  exact h
theorem and127 (n : Int) : BinIs P .and (.int .u8 ((by8 n).toNat : Int)) (.int .u8 127) (.int .u8 ((by8 (n % 128)).toNat : Int)) := by
  have h := @binAnd P .u8 ((by8 n).toNat : Int) 127
  have e : IntKind.u8.wrap (((BitVec.ofInt IntKind.u8.bits ((by8 n).toNat : Int) &&& BitVec.ofInt IntKind.u8.bits 127).toNat : Nat) : Int) = ((by8 (n % 128)).toNat : Int) := by
    rw [wrapU8, BitVec.toNat_and]
    have h1 := (by8 n).toNat_lt
    have e1 : (BitVec.ofInt IntKind.u8.bits ((by8 n).toNat : Int)).toNat = (by8 n).toNat := by
      rw [BitVec.toNat_ofInt]; simp only [IntKind.bits]; omega
    have e2 : (BitVec.ofInt IntKind.u8.bits 127).toNat = 2 ^ 7 - 1 := by decide
    rw [e1, e2, Nat.and_two_pow_sub_one_eq_mod, by8_mod]
    have := by8_nat n
    omega
  rw [e] at h
  exact h
theorem and127I (n : Int) : BinIs P .and (.int .i64 n) (.int .i64 127) (.int .i64 (n % 128)) := by
  have h := @binAnd P .i64 n 127
  have e : IntKind.i64.wrap (((BitVec.ofInt IntKind.i64.bits n &&& BitVec.ofInt IntKind.i64.bits 127).toNat : Nat) : Int) = n % 128 := by
    rw [BitVec.toNat_and]
    have e1 : (BitVec.ofInt IntKind.i64.bits n).toNat = (n % 18446744073709551616).toNat := by
      rw [BitVec.toNat_ofInt]; rfl
    have e2 : (BitVec.ofInt IntKind.i64.bits 127).toNat = 2 ^ 7 - 1 := by decide
    rw [e1, e2, Nat.and_two_pow_sub_one_eq_mod, wrapI64 (by omega) (by omega)]
    omega
  rw [e] at h
  exact h
theorem add128 (n : Int) : BinIs P .add (.int .u8 ((by8 (n % 128)).toNat : Int)) (.int .u8 128) (.int .u8 ((by8 (n % 128 + 128)).toNat : Int)) := by
  have h := @binAdd P .u8 ((by8 (n % 128)).toNat : Int) 128
  rw [wrapU8, by8_mod (a := ((by8 (n % 128)).toNat : Int) + 128) (b := n % 128 + 128) (by have := by8_nat (n % 128); omega)] at h
  exact h
theorem shr7 {k : IntKind} (hk : k.bits = 64) (n : Int) : BinIs P .shr (.int k n) (.int .u64 7) (.int k (n / 128)) := by
  have h := @binShr P k .u64 n 7 (by decide)
  have e : n.fdiv (2 ^ min (7 : Int).toNat k.bits) = n / 128 := by
    rw [hk, show min (7 : Int).toNat 64 = 7 from rfl, Int.fdiv_eq_ediv_of_nonneg _ (by decide)]
    rfl
  rw [e] at h
  exact h
theorem remU {n : Int} (h0 : 0 ≤ n) (b : Int) (hb : 0 < b) : BinIs P .rem (.int .u64 n) (.int .u64 b) (.int .u64 (n % b)) := fun ty ox oy w => by
  have h1 : ¬ b = 0 := by omega
  have h2 : n.tmod b = n % b := Int.tmod_eq_emod_of_nonneg h0
  simp [eqGuard, binOp, Op.intDiv, h1, h2]
theorem quoU {n : Int} (h0 : 0 ≤ n) (hn : n < 18446744073709551616) (b : Int) (hb : 0 < b) : BinIs P .quo (.int .u64 n) (.int .u64 b) (.int .u64 (n / b)) := fun ty ox oy w => by
  have h1 : ¬ b = 0 := by omega
  have h2 : n.tdiv b = n / b := Int.tdiv_eq_ediv_of_nonneg h0
  have h3 : 0 ≤ n / b := Int.ediv_nonneg h0 (by omega)
  have h4 : n / b ≤ n := Int.ediv_le_self b h0
  have h5 := wrapU64 h3 (by omega)
  simp [eqGuard, binOp, Op.intDiv, h1, h2, h5]
theorem addU {a b : Int} (h0 : 0 ≤ a + b) (h1 : a + b < 18446744073709551616) : BinIs P .add (.int .u64 a) (.int .u64 b) (.int .u64 (a + b)) := by
  have h := @binAdd P .u64 a b
  rw [wrapU64 h0 h1] at h
  exact h
theorem binIGeq {k : IntKind} {a b : Int} : BinIs P .geq (.int k a) (.int k b) (.bool (decide (b ≤ a))) := fun ty ox oy w => by
  simp [eqGuard, binOp, Op.intCmp]
end
open Go.Eng

abbrev T.u64 (n : Int) : T := .v (.int .u64 n)
theorem retT {a b : Tx} (h : a = b) : [D.t (T.str a)] = [D.t (T.str b)] := by rw [h]

theorem textSl {s : St} {id len : Nat} {xs : List T} {l : Tx} (h : lookM s.M id = some (.L 1 xs)) (hl : xs.length = len) (hx : xs = l.map T.byte) : ResL s [.sl id 0 len] [.t (T.text l)] := by
  subst hx
  exact ResL.slA h hl .done

theorem putU_fun (n : Int) (h0 : 0 ≤ n) (hn : n < 18446744073709551616) : Fun Tryd.prog 44 [.t (T.u64 n)] (tupD [.t (T.str (lebU n))]) := by
  have hlen := lebU_len hn
  refine Fun.begin tys Tryd.func44 rfl rfl (N := 20) [(0, .t (T.u64 n))] rfl rfl (fun w0 G F0 => ?_)
  refine W_seq ?_
  refine W_region ?_
  refine ev ?_
  refine WO_nil ?_
  refine thenQ_n ?_
  refine W_seq ?_
  refine W_region ?_
  refine ev ?_
  refine WO_le (Le.nilOwn (u := 3) 1 rfl) ?_
  refine WO_le (Le.adoptE (u := 3) 3 rfl rfl) ?_
  refine WO_norm rfl ?_
  refine WO_nil ?_
  refine thenQ_n ?_
  refine W_seq ?_
  refine W_block ?_
  refine W_loopK (α := Int × Nat × List T) [] [] (fun (x : Int × Nat × List T) => [(0, .t (T.u64 (x.1))), (3, .sl 3 0 (x.2.1))]) (fun (x : Int × Nat × List T) => [(3, .L 1 (x.2.2))]) (fun (x : Int × Nat × List T) => 0 ≤ (x.1) ∧ (x.1) ≤ n ∧ (x.2.1) = (x.2.2).length ∧ ∃ done : Tx, (x.2.2) = done.map T.byte ∧ lebU n = done ++ lebU (x.1)) (fun (x : Int × Nat × List T) => Int.toNat ((x.1))) (n, 0, []) ?_ ?_ ?_ (fun x hx => ?_)
  · repeat (first | exact Sub.nil' | refine Sub.cons' rfl ?_ )
  · repeat (first | exact SubM.nil' | refine SubM.cons' rfl ?_ )
  · exact ⟨h0, Int.le_refl _, rfl, [], rfl, rfl⟩
  obtain ⟨m, j, xs⟩ := x
  obtain ⟨hm0, hm1, hj, done, hd, he⟩ := hx
  try dsimp only at hm0 hm1 hj hd he ⊢
  refine W_norm rfl ?_
  iterate 2 (refine W_seq ?_)
  refine W_region ?_
  refine ev ?_
  refine WO_binW rfl rfl (lt_of rfl) rfl rfl rfl binIGtr rfl ?_
  refine WO_nil ?_
  refine thenQ_n ?_
  refine W_cond rfl (fun h1 => ?_) (fun h1 => ?_)
  ·
    try simp only [HS] at h1
    refine W_skip ?_
    refine thenQ_n ?_
    refine W_seq ?_
    refine W_block ?_
    refine W_region ?_
    refine ev ?_
    refine ev ?_
    refine WO_convId (td := .int .u64) (k := .u8) rfl rfl (lt_of rfl) rfl (by kernel_rfl) (by kernel_rfl) rfl (wrapU8 _) ?_
    refine WO_binW rfl rfl (lt_of rfl) rfl rfl rfl (or128 _) rfl ?_
    refine WO_buildSlice tys [T.byte (by8 (m % 128 + 128))] rfl rfl (lt_of rfl) rfl rfl rfl rfl rfl (lt_of rfl) (by repeat (first | exact PartsOk.nil' | refine PartsOk.cons' rfl (by repeat (first | exact AbsL.nil' | refine AbsL.v' ?_ | refine AbsL.own' ?_ | refine AbsL.none' ?_)) rfl ?_)) (by first | exact List.nodup_nil | exact nodup1 _ | decide | exact nodupB_sound rfl) rfl (by decide) ?_
    refine WO_norm rfl ?_
    first | refine WO_append tys rfl rfl (lt_of rfl) rfl rfl rfl rfl rfl (.own rfl (by first | omega | (simp only [List.length_append]; omega))) rfl (.own rfl (by first | decide | omega)) (by decide) (by have h9 := congrArg List.length he; simp [hd] at h9 ⊢; omega) (by decide) rfl ?_ | refine WO_append tys rfl rfl (lt_of rfl) rfl rfl rfl rfl rfl .nil rfl (.own rfl (by first | decide | omega)) (by decide) (by have h9 := congrArg List.length he; simp [hd] at h9 ⊢; omega) (by decide) rfl ?_
    refine WO_norm rfl ?_
    refine ev ?_
    refine WO_keep [0, 3, 4, 5, 8, 9, 10, 11, 12, 13] rfl ?_
    refine WO_nil ?_
    refine inBlk_n ?_
    refine thenQ_n ?_
    refine W_region ?_
    refine ev ?_
    refine WO_binW rfl rfl (lt_of rfl) rfl rfl rfl (shr7 rfl _) rfl ?_
    refine ev ?_
    refine WO_nil ?_
    refine loopQ_n (_, _, _) (by (try dsimp only); repeat (first | exact Sub.nil' | refine Sub.cons' rfl ?_ )) (by (try dsimp only); repeat (first | exact SubM.nil' | refine SubM.cons' rfl ?_ )) ?_ ?_
    · try dsimp only
      rw [lebU_go (n := m) h1] at he
      exact ⟨by omega, by omega, by simp [hd], done ++ [by8 (m % 128 + 128)], (by subst hj; rw [List.take_length, hd]; simp), (by rw [he]; simp)⟩
    · (show Int.toNat _ < Int.toNat _); omega
  try simp only [HS] at h1
  refine W_exit ?_
  refine thenQ_e ?_
  refine loopQ_e ?_
  refine inBlk_y ?_
  refine thenQ_n ?_
  refine W_seq ?_
  refine W_region ?_
  refine ev ?_
  refine ev ?_
  refine WO_convId (td := .int .u64) (k := .u8) rfl rfl (lt_of rfl) rfl (by kernel_rfl) (by kernel_rfl) rfl (wrapU8 _) ?_
  refine WO_buildSlice tys [T.byte (by8 m)] rfl rfl (lt_of rfl) rfl rfl rfl rfl rfl (lt_of rfl) (by repeat (first | exact PartsOk.nil' | refine PartsOk.cons' rfl (by repeat (first | exact AbsL.nil' | refine AbsL.v' ?_ | refine AbsL.own' ?_ | refine AbsL.none' ?_)) rfl ?_)) (by first | exact List.nodup_nil | exact nodup1 _ | decide | exact nodupB_sound rfl) rfl (by decide) ?_
  refine WO_norm rfl ?_
  first | refine WO_append tys rfl rfl (lt_of rfl) rfl rfl rfl rfl rfl (.own rfl (by first | omega | (simp only [List.length_append]; omega))) rfl (.own rfl (by first | decide | omega)) (by decide) (by have h9 := congrArg List.length he; simp [hd] at h9 ⊢; omega) (by decide) rfl ?_ | refine WO_append tys rfl rfl (lt_of rfl) rfl rfl rfl rfl rfl .nil rfl (.own rfl (by first | decide | omega)) (by decide) (by have h9 := congrArg List.length he; simp [hd] at h9 ⊢; omega) (by decide) rfl ?_
  refine WO_norm rfl ?_
  refine WO_bytesText (e := 5) rfl rfl (lt_of rfl) rfl (by kernel_rfl) (by kernel_rfl) (by kernel_rfl) (textSl (l := done ++ [by8 m]) rfl (by simp) (by subst hj; rw [List.take_length, hd]; simp)) ?_
  refine ev ?_
  refine WO_keep [2] rfl ?_
  refine WO_nil ?_
  refine thenQ_n ?_
  refine W_ret ?_
  refine Ends_of (.inr rfl) (ret_okF rfl) (by decide) rfl ?_
  · rw [lebU_end (n := m) (by omega)] at he; rw [he]

theorem l1PutU_fun (n : Int) (h0 : 0 ≤ n) (hn : n < 18446744073709551616) : Fun Tryd.prog 82 [.t (T.u64 n)] (tupD [.t (T.str (lebU n))]) := by
  have hlen := lebU_len hn
  refine Fun.begin tys Tryd.func82 rfl rfl (N := 21) [(0, .t (T.u64 n))] rfl rfl (fun w0 G F0 => ?_)
  refine W_seq ?_
  refine W_region ?_
  refine ev ?_
  refine WO_nil ?_
  refine thenQ_n ?_
  refine W_seq ?_
  refine W_region ?_
  refine ev ?_
  refine WO_le (Le.nilOwn (u := 3) 1 rfl) ?_
  refine WO_le (Le.adoptE (u := 3) 3 rfl rfl) ?_
  refine WO_norm rfl ?_
  refine WO_nil ?_
  refine thenQ_n ?_
  refine W_seq ?_
  refine W_block ?_
  refine W_loopK (α := Int × Nat × List T) [] [] (fun (x : Int × Nat × List T) => [(0, .t (T.u64 (x.1))), (3, .sl 3 0 (x.2.1))]) (fun (x : Int × Nat × List T) => [(3, .L 1 (x.2.2))]) (fun (x : Int × Nat × List T) => 0 ≤ (x.1) ∧ (x.1) ≤ n ∧ (x.2.1) = (x.2.2).length ∧ ∃ done : Tx, (x.2.2) = done.map T.byte ∧ lebU n = done ++ lebU (x.1)) (fun (x : Int × Nat × List T) => Int.toNat ((x.1))) (n, 0, []) ?_ ?_ ?_ (fun x hx => ?_)
  · repeat (first | exact Sub.nil' | refine Sub.cons' rfl ?_ )
  · repeat (first | exact SubM.nil' | refine SubM.cons' rfl ?_ )
  · exact ⟨h0, Int.le_refl _, rfl, [], rfl, rfl⟩
  obtain ⟨m, j, xs⟩ := x
  obtain ⟨hm0, hm1, hj, done, hd, he⟩ := hx
  try dsimp only at hm0 hm1 hj hd he ⊢
  refine W_norm rfl ?_
  iterate 2 (refine W_seq ?_)
  refine W_region ?_
  refine ev ?_
  refine WO_binW rfl rfl (lt_of rfl) rfl rfl rfl binIGeq rfl ?_
  refine WO_nil ?_
  refine thenQ_n ?_
  refine W_cond rfl (fun h1 => ?_) (fun h1 => ?_)
  ·
    try simp only [HS] at h1
    refine W_skip ?_
    refine thenQ_n ?_
    refine W_block ?_
    refine W_seq ?_
    refine W_region ?_
    refine ev ?_
    refine ev ?_
    refine WO_binW rfl rfl (lt_of rfl) rfl rfl rfl (remU hm0 128 (by decide)) rfl ?_
    refine WO_binW rfl rfl (lt_of rfl) rfl rfl rfl (addU (by omega) (by omega)) rfl ?_
    refine WO_convId (td := .int .u64) (k := .u8) rfl rfl (lt_of rfl) rfl (by kernel_rfl) (by kernel_rfl) rfl (wrapU8 _) ?_
    refine WO_buildSlice tys [T.byte (by8 (m % 128 + 128))] rfl rfl (lt_of rfl) rfl rfl rfl rfl rfl (lt_of rfl) (by repeat (first | exact PartsOk.nil' | refine PartsOk.cons' rfl (by repeat (first | exact AbsL.nil' | refine AbsL.v' ?_ | refine AbsL.own' ?_ | refine AbsL.none' ?_)) rfl ?_)) (by first | exact List.nodup_nil | exact nodup1 _ | decide | exact nodupB_sound rfl) rfl (by decide) ?_
    refine WO_norm rfl ?_
    first | refine WO_append tys rfl rfl (lt_of rfl) rfl rfl rfl rfl rfl (.own rfl (by first | omega | (simp only [List.length_append]; omega))) rfl (.own rfl (by first | decide | omega)) (by decide) (by have h9 := congrArg List.length he; simp [hd] at h9 ⊢; omega) (by decide) rfl ?_ | refine WO_append tys rfl rfl (lt_of rfl) rfl rfl rfl rfl rfl .nil rfl (.own rfl (by first | decide | omega)) (by decide) (by have h9 := congrArg List.length he; simp [hd] at h9 ⊢; omega) (by decide) rfl ?_
    refine WO_norm rfl ?_
    refine WO_keep [0, 3, 4, 5, 6, 7, 8, 9, 10, 11, 12] rfl ?_
    refine ev ?_
    refine WO_nil ?_
    refine thenQ_n ?_
    refine W_region ?_
    refine ev ?_
    refine WO_binW rfl rfl (lt_of rfl) rfl rfl rfl (quoU hm0 (by omega) 128 (by decide)) rfl ?_
    refine ev ?_
    refine WO_nil ?_
    refine inBlk_n ?_
    refine loopQ_n (_, _, _) (by (try dsimp only); repeat (first | exact Sub.nil' | refine Sub.cons' rfl ?_ )) (by (try dsimp only); repeat (first | exact SubM.nil' | refine SubM.cons' rfl ?_ )) ?_ ?_
    · try dsimp only
      rw [lebU_go (n := m) (by omega)] at he
      exact ⟨by omega, by omega, by simp [hd], done ++ [by8 (m % 128 + 128)], (by subst hj; rw [List.take_length, hd]; simp), (by rw [he]; simp)⟩
    · (show Int.toNat _ < Int.toNat _); omega
  try simp only [HS] at h1
  refine W_exit ?_
  refine thenQ_e ?_
  refine loopQ_e ?_
  refine inBlk_y ?_
  refine thenQ_n ?_
  refine W_seq ?_
  refine W_region ?_
  refine ev ?_
  refine ev ?_
  refine WO_convId (td := .int .u64) (k := .u8) rfl rfl (lt_of rfl) rfl (by kernel_rfl) (by kernel_rfl) rfl (wrapU8 _) ?_
  refine WO_buildSlice tys [T.byte (by8 m)] rfl rfl (lt_of rfl) rfl rfl rfl rfl rfl (lt_of rfl) (by repeat (first | exact PartsOk.nil' | refine PartsOk.cons' rfl (by repeat (first | exact AbsL.nil' | refine AbsL.v' ?_ | refine AbsL.own' ?_ | refine AbsL.none' ?_)) rfl ?_)) (by first | exact List.nodup_nil | exact nodup1 _ | decide | exact nodupB_sound rfl) rfl (by decide) ?_
  refine WO_norm rfl ?_
  first | refine WO_append tys rfl rfl (lt_of rfl) rfl rfl rfl rfl rfl (.own rfl (by first | omega | (simp only [List.length_append]; omega))) rfl (.own rfl (by first | decide | omega)) (by decide) (by have h9 := congrArg List.length he; simp [hd] at h9 ⊢; omega) (by decide) rfl ?_ | refine WO_append tys rfl rfl (lt_of rfl) rfl rfl rfl rfl rfl .nil rfl (.own rfl (by first | decide | omega)) (by decide) (by have h9 := congrArg List.length he; simp [hd] at h9 ⊢; omega) (by decide) rfl ?_
  refine WO_norm rfl ?_
  refine WO_bytesText (e := 5) rfl rfl (lt_of rfl) rfl (by kernel_rfl) (by kernel_rfl) (by kernel_rfl) (textSl (l := done ++ [by8 m]) rfl (by simp) (by subst hj; rw [List.take_length, hd]; simp)) ?_
  refine ev ?_
  refine WO_keep [2] rfl ?_
  refine WO_nil ?_
  refine thenQ_n ?_
  refine W_ret ?_
  refine Ends_of (.inr rfl) (ret_okF rfl) (by decide) rfl ?_
  · rw [lebU_end (n := m) (by omega)] at he; rw [he]

theorem PutU_fun (n : Int) (h0 : 0 ≤ n) (hn : n < 18446744073709551616) : Fun Tryd.prog 64 [.t (T.u64 n)] (tupD [.t (T.str (lebU n))]) := by
  refine Fun.begin tys Tryd.func64 rfl rfl (N := 5) [(0, .t (T.u64 n))] rfl rfl (fun w0 G F0 => ?_)
  refine W_seq ?_
  refine W_region ?_
  refine ev ?_
  refine WO_nil ?_
  refine thenQ_n ?_
  refine W_seq ?_
  refine W_region ?_
  refine ev ?_
  refine callB ?_
  refine ⟨_, l1PutU_fun n h0 hn, rfl, ?_⟩
  refine ev ?_
  refine WO_nil ?_
  refine thenQ_n ?_
  refine W_ret ?_
  refine Ends_of (.inr rfl) (ret_okF rfl) (by decide) rfl ?_
  · first | rfl | (simp_all; done)

theorem putS_fun (n : Int) (h0 : -9223372036854775808 ≤ n) (hn : n ≤ 9223372036854775807) : Fun Tryd.prog 46 [.t (.int n)] (tupD [.t (T.str (lebS n))]) := by
  have hlen := lebS_len h0 hn
  refine Fun.begin tys Tryd.func46 rfl rfl (N := 25) [(0, .t (.int n))] rfl rfl (fun w0 G F0 => ?_)
  refine W_seq ?_
  refine W_region ?_
  refine ev ?_
  refine WO_nil ?_
  refine thenQ_n ?_
  refine W_seq ?_
  refine W_region ?_
  refine ev ?_
  refine WO_le (Le.nilOwn (u := 3) 1 rfl) ?_
  refine WO_le (Le.adoptE (u := 3) 3 rfl rfl) ?_
  refine WO_norm rfl ?_
  refine WO_nil ?_
  refine thenQ_n ?_
  refine W_seq ?_
  refine W_block ?_
  refine W_loopK (α := Int × Nat × List T) [] [] (fun (x : Int × Nat × List T) => [(0, .t (.int (x.1))), (3, .sl 3 0 (x.2.1))]) (fun (x : Int × Nat × List T) => [(3, .L 1 (x.2.2))]) (fun (x : Int × Nat × List T) => (-9223372036854775808 ≤ (x.1) ∧ (x.1) ≤ 9223372036854775807) ∧ (x.2.1) = (x.2.2).length ∧ ∃ done : Tx, (x.2.2) = done.map T.byte ∧ lebS n = done ++ lebS (x.1)) (fun (x : Int × Nat × List T) => Int.toNat (((x.1).natAbs : Int))) (n, 0, []) ?_ ?_ ?_ (fun x hx => ?_)
  · repeat (first | exact Sub.nil' | refine Sub.cons' rfl ?_ )
  · repeat (first | exact SubM.nil' | refine SubM.cons' rfl ?_ )
  · exact ⟨⟨h0, hn⟩, rfl, [], rfl, rfl⟩
  obtain ⟨m, j, xs⟩ := x
  obtain ⟨hm0, hj, done, hd, he⟩ := hx
  try dsimp only at hm0 hj hd he ⊢
  refine W_norm rfl ?_
  iterate 2 (refine W_seq ?_)
  refine W_region ?_
  iterate 3 (refine ev ?_)
  refine WO_guard rfl rfl rfl rfl (lt_of rfl) (fun h1 => ?_) (fun h1 => ?_)
  rotate_left
  ·
    try simp only [HS] at h1
    refine WO_guardN rfl rfl rfl rfl rfl (lt_of rfl) ?_
    refine ev ?_
    refine WO_nil ?_
    refine thenQ_n ?_
    refine W_condT rfl ?_
    refine W_skip ?_
    refine thenQ_n ?_
    refine W_seq ?_
    refine W_block ?_
    refine W_region ?_
    refine ev ?_
    refine ev ?_
    refine WO_convId (td := .int .i64) (k := .u8) rfl rfl (lt_of rfl) rfl (by kernel_rfl) (by kernel_rfl) rfl (wrapU8 _) ?_
    refine WO_binW rfl rfl (lt_of rfl) rfl rfl rfl (or128 _) rfl ?_
    refine WO_keep [0, 3, 4, 5, 6, 7, 8, 9, 12, 13, 14, 15] rfl ?_
    refine WO_buildSlice tys [T.byte (by8 (m % 128 + 128))] rfl rfl (lt_of rfl) rfl rfl rfl rfl rfl (lt_of rfl) (by repeat (first | exact PartsOk.nil' | refine PartsOk.cons' rfl (by repeat (first | exact AbsL.nil' | refine AbsL.v' ?_ | refine AbsL.own' ?_ | refine AbsL.none' ?_)) rfl ?_)) (by first | exact List.nodup_nil | exact nodup1 _ | decide | exact nodupB_sound rfl) rfl (by decide) ?_
    refine WO_norm rfl ?_
    first | refine WO_append tys rfl rfl (lt_of rfl) rfl rfl rfl rfl rfl (.own rfl (by first | omega | (simp only [List.length_append]; omega))) rfl (.own rfl (by first | decide | omega)) (by decide) (by have h9 := congrArg List.length he; simp [hd] at h9 ⊢; omega) (by decide) rfl ?_ | refine WO_append tys rfl rfl (lt_of rfl) rfl rfl rfl rfl rfl .nil rfl (.own rfl (by first | decide | omega)) (by decide) (by have h9 := congrArg List.length he; simp [hd] at h9 ⊢; omega) (by decide) rfl ?_
    refine WO_norm rfl ?_
    refine ev ?_
    refine WO_nil ?_
    refine inBlk_n ?_
    refine thenQ_n ?_
    refine W_region ?_
    refine ev ?_
    refine WO_binW rfl rfl (lt_of rfl) rfl rfl rfl (shr7 rfl _) rfl ?_
    refine ev ?_
    refine WO_nil ?_
    refine loopQ_n (_, _, _) (by (try dsimp only); repeat (first | exact Sub.nil' | refine Sub.cons' rfl ?_ )) (by (try dsimp only); repeat (first | exact SubM.nil' | refine SubM.cons' rfl ?_ )) ?_ ?_
    · try dsimp only
      rw [lebS_go (n := m) (by omega)] at he
      exact ⟨by omega, by simp [hd], done ++ [by8 (m % 128 + 128)], (by subst hj; rw [List.take_length, hd]; simp), (by rw [he]; simp)⟩
    · (show Int.toNat _ < Int.toNat _); omega
  try simp only [HS] at h1
  refine ev ?_
  refine WO_guardY rfl rfl rfl rfl (lt_of rfl) ?_
  refine ev ?_
  refine ev ?_
  refine WO_nil ?_
  refine thenQ_n ?_
  refine W_cond rfl (fun h2 => ?_) (fun h2 => ?_)
  ·
    try simp only [HS] at h2
    refine W_skip ?_
    refine thenQ_n ?_
    refine W_seq ?_
    refine W_block ?_
    refine W_region ?_
    refine ev ?_
    refine ev ?_
    refine WO_convId (td := .int .i64) (k := .u8) rfl rfl (lt_of rfl) rfl (by kernel_rfl) (by kernel_rfl) rfl (wrapU8 _) ?_
    refine WO_keep [0, 3, 4, 5, 6, 7, 8, 9, 12, 13, 14] rfl ?_
    refine WO_binW rfl rfl (lt_of rfl) rfl rfl rfl (or128 _) rfl ?_
    refine WO_buildSlice tys [T.byte (by8 (m % 128 + 128))] rfl rfl (lt_of rfl) rfl rfl rfl rfl rfl (lt_of rfl) (by repeat (first | exact PartsOk.nil' | refine PartsOk.cons' rfl (by repeat (first | exact AbsL.nil' | refine AbsL.v' ?_ | refine AbsL.own' ?_ | refine AbsL.none' ?_)) rfl ?_)) (by first | exact List.nodup_nil | exact nodup1 _ | decide | exact nodupB_sound rfl) rfl (by decide) ?_
    refine WO_norm rfl ?_
    first | refine WO_append tys rfl rfl (lt_of rfl) rfl rfl rfl rfl rfl (.own rfl (by first | omega | (simp only [List.length_append]; omega))) rfl (.own rfl (by first | decide | omega)) (by decide) (by have h9 := congrArg List.length he; simp [hd] at h9 ⊢; omega) (by decide) rfl ?_ | refine WO_append tys rfl rfl (lt_of rfl) rfl rfl rfl rfl rfl .nil rfl (.own rfl (by first | decide | omega)) (by decide) (by have h9 := congrArg List.length he; simp [hd] at h9 ⊢; omega) (by decide) rfl ?_
    refine WO_norm rfl ?_
    refine ev ?_
    refine WO_nil ?_
    refine inBlk_n ?_
    refine thenQ_n ?_
    refine W_region ?_
    refine ev ?_
    refine WO_binW rfl rfl (lt_of rfl) rfl rfl rfl (shr7 rfl _) rfl ?_
    refine ev ?_
    refine WO_nil ?_
    refine loopQ_n (_, _, _) (by (try dsimp only); repeat (first | exact Sub.nil' | refine Sub.cons' rfl ?_ )) (by (try dsimp only); repeat (first | exact SubM.nil' | refine SubM.cons' rfl ?_ )) ?_ ?_
    · try dsimp only
      rw [lebS_go (n := m) (by omega)] at he
      exact ⟨by omega, by simp [hd], done ++ [by8 (m % 128 + 128)], (by subst hj; rw [List.take_length, hd]; simp), (by rw [he]; simp)⟩
    · (show Int.toNat _ < Int.toNat _); omega
  try simp only [HS] at h2
  refine W_exit ?_
  refine thenQ_e ?_
  refine loopQ_e ?_
  refine inBlk_y ?_
  refine thenQ_n ?_
  refine W_seq ?_
  refine W_region ?_
  refine ev ?_
  refine ev ?_
  refine WO_convId (td := .int .i64) (k := .u8) rfl rfl (lt_of rfl) rfl (by kernel_rfl) (by kernel_rfl) rfl (wrapU8 _) ?_
  refine WO_keep [18, 20] rfl ?_
  refine WO_binW rfl rfl (lt_of rfl) rfl rfl rfl (and127 _) rfl ?_
  refine WO_buildSlice tys [T.byte (by8 (m % 128))] rfl rfl (lt_of rfl) rfl rfl rfl rfl rfl (lt_of rfl) (by repeat (first | exact PartsOk.nil' | refine PartsOk.cons' rfl (by repeat (first | exact AbsL.nil' | refine AbsL.v' ?_ | refine AbsL.own' ?_ | refine AbsL.none' ?_)) rfl ?_)) (by first | exact List.nodup_nil | exact nodup1 _ | decide | exact nodupB_sound rfl) rfl (by decide) ?_
  refine WO_norm rfl ?_
  first | refine WO_append tys rfl rfl (lt_of rfl) rfl rfl rfl rfl rfl (.own rfl (by first | omega | (simp only [List.length_append]; omega))) rfl (.own rfl (by first | decide | omega)) (by decide) (by have h9 := congrArg List.length he; simp [hd] at h9 ⊢; omega) (by decide) rfl ?_ | refine WO_append tys rfl rfl (lt_of rfl) rfl rfl rfl rfl rfl .nil rfl (.own rfl (by first | decide | omega)) (by decide) (by have h9 := congrArg List.length he; simp [hd] at h9 ⊢; omega) (by decide) rfl ?_
  refine WO_norm rfl ?_
  refine WO_bytesText (e := 5) rfl rfl (lt_of rfl) rfl (by kernel_rfl) (by kernel_rfl) (by kernel_rfl) (textSl (l := done ++ [by8 (m % 128)]) rfl (by simp) (by subst hj; rw [List.take_length, hd]; simp)) ?_
  refine ev ?_
  refine WO_nil ?_
  refine thenQ_n ?_
  refine W_ret ?_
  refine Ends_of (.inr rfl) (ret_okF rfl) (by decide) rfl ?_
  · rw [lebS_end (n := m) (by omega) (by omega)] at he; rw [he]

theorem PutS_fun (n : Int) (h0 : -9223372036854775808 ≤ n) (hn : n ≤ 9223372036854775807) : Fun Tryd.prog 65 [.t (.int n)] (tupD [.t (T.str (lebS n))]) := by
  have hlen := lebS_len h0 hn
  refine Fun.begin tys Tryd.func65 rfl rfl (N := 34) [(0, .t (.int n))] rfl rfl (fun w0 G F0 => ?_)
  refine W_seq ?_
  refine W_region ?_
  refine ev ?_
  refine WO_nil ?_
  refine thenQ_n ?_
  refine W_seq ?_
  refine W_region ?_
  refine ev ?_
  refine WO_le (Le.nilOwn (u := 3) 1 rfl) ?_
  refine WO_le (Le.adoptE (u := 3) 3 rfl rfl) ?_
  refine WO_norm rfl ?_
  refine WO_nil ?_
  refine thenQ_n ?_
  refine W_block ?_
  refine W_loopK (α := Int × Nat × List T) [] [] (fun (x : Int × Nat × List T) => [(0, .t (.int (x.1))), (3, .sl 3 0 (x.2.1))]) (fun (x : Int × Nat × List T) => [(3, .L 1 (x.2.2))]) (fun (x : Int × Nat × List T) => (-9223372036854775808 ≤ (x.1) ∧ (x.1) ≤ 9223372036854775807) ∧ (x.2.1) = (x.2.2).length ∧ ∃ done : Tx, (x.2.2) = done.map T.byte ∧ lebS n = done ++ lebS (x.1)) (fun (x : Int × Nat × List T) => Int.toNat (((x.1).natAbs : Int))) (n, 0, []) ?_ ?_ ?_ (fun x hx => ?_)
  · repeat (first | exact Sub.nil' | refine Sub.cons' rfl ?_ )
  · repeat (first | exact SubM.nil' | refine SubM.cons' rfl ?_ )
  · exact ⟨⟨h0, hn⟩, rfl, [], rfl, rfl⟩
  obtain ⟨m, j, xs⟩ := x
  obtain ⟨hm0, hj, done, hd, he⟩ := hx
  try dsimp only at hm0 hj hd he ⊢
  refine W_norm rfl ?_
  refine W_block ?_
  refine W_seq ?_
  refine W_region ?_
  refine ev ?_
  refine WO_binW rfl rfl (lt_of rfl) rfl rfl rfl (and127I _) rfl ?_
  refine WO_convId (td := .int .i64) (k := .u8) rfl rfl (lt_of rfl) rfl (by kernel_rfl) (by kernel_rfl) rfl (wrapU8 _) ?_
  refine ev ?_
  refine WO_nil ?_
  refine thenQ_n ?_
  refine W_seq ?_
  refine W_region ?_
  refine ev ?_
  have hb := by8_nat (m % 128)
  refine WO_binW rfl rfl (lt_of rfl) rfl rfl rfl (shr7 rfl _) rfl ?_
  refine ev ?_
  refine WO_nil ?_
  refine thenQ_n ?_
  iterate 2 (refine W_seq ?_)
  refine W_keep [0, 3, 4, 5, 6, 7, 8, 9] rfl ?_
  refine W_region ?_
  iterate 3 (refine ev ?_)
  refine WO_guard rfl rfl rfl rfl (lt_of rfl) (fun h1 => ?_) (fun h1 => ?_)
  rotate_left
  ·
    try simp only [HS] at h1
    refine WO_guardN rfl rfl rfl rfl rfl (lt_of rfl) ?_
    refine ev ?_
    refine ev ?_
    refine WO_guardY rfl rfl rfl rfl (lt_of rfl) ?_
    refine ev ?_
    refine WO_guardY rfl rfl rfl rfl (lt_of rfl) ?_
    refine ev ?_
    refine WO_guardY rfl rfl rfl rfl (lt_of rfl) ?_
    refine ev ?_
    refine WO_keep [0, 3, 4, 5, 6, 7, 8, 9, 10, 11, 12, 13, 14, 15, 16, 17, 18, 19] rfl ?_
    refine WO_guard rfl rfl rfl rfl (lt_of rfl) (fun h2 => ?_) (fun h2 => ?_)
    rotate_left
    ·
      try simp only [HS] at h2
      refine WO_guardN rfl rfl rfl rfl rfl (lt_of rfl) ?_
      refine WO_guardY rfl rfl rfl rfl (lt_of rfl) ?_
      refine ev ?_
      refine ev ?_
      refine WO_nil ?_
      refine thenQ_n ?_
      refine W_condF rfl ?_
      refine W_skip ?_
      refine thenQ_n ?_
      refine W_region ?_
      refine ev ?_
      refine ev ?_
      refine WO_binW rfl rfl (lt_of rfl) rfl rfl rfl (add128 _) rfl ?_
      refine WO_buildSlice tys [T.byte (by8 (m % 128 + 128))] rfl rfl (lt_of rfl) rfl rfl rfl rfl rfl (lt_of rfl) (by repeat (first | exact PartsOk.nil' | refine PartsOk.cons' rfl (by repeat (first | exact AbsL.nil' | refine AbsL.v' ?_ | refine AbsL.own' ?_ | refine AbsL.none' ?_)) rfl ?_)) (by first | exact List.nodup_nil | exact nodup1 _ | decide | exact nodupB_sound rfl) rfl (by decide) ?_
      refine WO_norm rfl ?_
      first | refine WO_append tys rfl rfl (lt_of rfl) rfl rfl rfl rfl rfl (.own rfl (by first | omega | (simp only [List.length_append]; omega))) rfl (.own rfl (by first | decide | omega)) (by decide) (by have h9 := congrArg List.length he; simp [hd] at h9 ⊢; omega) (by decide) rfl ?_ | refine WO_append tys rfl rfl (lt_of rfl) rfl rfl rfl rfl rfl .nil rfl (.own rfl (by first | decide | omega)) (by decide) (by have h9 := congrArg List.length he; simp [hd] at h9 ⊢; omega) (by decide) rfl ?_
      refine WO_norm rfl ?_
      refine ev ?_
      refine WO_keep [0, 3, 4, 5, 6, 7, 8, 9, 10, 11, 12, 13, 14, 15, 16, 17, 18, 19, 20, 21, 22, 23, 29, 30, 31, 32, 33] rfl ?_
      refine WO_nil ?_
      refine inBlk_n ?_
      refine loopQ_n (_, _, _) (by (try dsimp only); repeat (first | exact Sub.nil' | refine Sub.cons' rfl ?_ )) (by (try dsimp only); repeat (first | exact SubM.nil' | refine SubM.cons' rfl ?_ )) ?_ ?_
      · try dsimp only
        have hgo : ¬ (-64 ≤ m ∧ m ≤ 63) := by omega
        rw [lebS_go (n := m) hgo] at he
        exact ⟨by omega, by simp [hd], done ++ [by8 (m % 128 + 128)], (by subst hj; rw [List.take_length, hd]; simp), (by rw [he]; simp)⟩
      · (show Int.toNat _ < Int.toNat _); omega
    try simp only [HS] at h2
    refine ev ?_
    refine WO_guardY rfl rfl rfl rfl (lt_of rfl) ?_
    refine WO_binW rfl rfl (lt_of rfl) rfl rfl rfl binIGeq rfl ?_
    refine WO_guardY rfl rfl rfl rfl (lt_of rfl) ?_
    refine ev ?_
    refine ev ?_
    refine WO_nil ?_
    refine thenQ_n ?_
    refine W_cond rfl (fun h3 => ?_) (fun h3 => ?_)
    ·
      try simp only [HS] at h3
      refine W_seq ?_
      refine W_region ?_
      refine ev ?_
      refine ev ?_
      refine WO_buildSlice tys [T.byte (by8 (m % 128))] rfl rfl (lt_of rfl) rfl rfl rfl rfl rfl (lt_of rfl) (by repeat (first | exact PartsOk.nil' | refine PartsOk.cons' rfl (by repeat (first | exact AbsL.nil' | refine AbsL.v' ?_ | refine AbsL.own' ?_ | refine AbsL.none' ?_)) rfl ?_)) (by first | exact List.nodup_nil | exact nodup1 _ | decide | exact nodupB_sound rfl) rfl (by decide) ?_
      refine WO_norm rfl ?_
      first | refine WO_append tys rfl rfl (lt_of rfl) rfl rfl rfl rfl rfl (.own rfl (by first | omega | (simp only [List.length_append]; omega))) rfl (.own rfl (by first | decide | omega)) (by decide) (by have h9 := congrArg List.length he; simp [hd] at h9 ⊢; omega) (by decide) rfl ?_ | refine WO_append tys rfl rfl (lt_of rfl) rfl rfl rfl rfl rfl .nil rfl (.own rfl (by first | decide | omega)) (by decide) (by have h9 := congrArg List.length he; simp [hd] at h9 ⊢; omega) (by decide) rfl ?_
      refine WO_norm rfl ?_
      refine WO_bytesText (e := 5) rfl rfl (lt_of rfl) rfl (by kernel_rfl) (by kernel_rfl) (by kernel_rfl) (textSl (l := done ++ [by8 (m % 128)]) rfl (by simp) (by subst hj; rw [List.take_length, hd]; simp)) ?_
      refine WO_keep [0, 3, 4, 5, 6, 7, 8, 9, 10, 11, 12, 13, 14, 15, 16, 17, 18, 19, 20, 21, 22, 23, 24, 25, 26, 27, 28] rfl ?_
      refine ev ?_
      refine WO_nil ?_
      refine thenQ_n ?_
      refine W_ret ?_
      refine thenQ_r ?_
      refine inBlk_r ?_
      refine loopQ_r ?_
      refine inBlk_r ?_
      refine Ends_of (.inr rfl) (ret_okF rfl) (by decide) rfl ?_
      · rw [lebS_end (n := m) (by omega) (by omega)] at he; rw [he]
    try simp only [HS] at h3
    refine W_skip ?_
    refine thenQ_n ?_
    refine W_region ?_
    refine ev ?_
    refine ev ?_
    refine WO_binW rfl rfl (lt_of rfl) rfl rfl rfl (add128 _) rfl ?_
    refine WO_buildSlice tys [T.byte (by8 (m % 128 + 128))] rfl rfl (lt_of rfl) rfl rfl rfl rfl rfl (lt_of rfl) (by repeat (first | exact PartsOk.nil' | refine PartsOk.cons' rfl (by repeat (first | exact AbsL.nil' | refine AbsL.v' ?_ | refine AbsL.own' ?_ | refine AbsL.none' ?_)) rfl ?_)) (by first | exact List.nodup_nil | exact nodup1 _ | decide | exact nodupB_sound rfl) rfl (by decide) ?_
    refine WO_norm rfl ?_
    first | refine WO_append tys rfl rfl (lt_of rfl) rfl rfl rfl rfl rfl (.own rfl (by first | omega | (simp only [List.length_append]; omega))) rfl (.own rfl (by first | decide | omega)) (by decide) (by have h9 := congrArg List.length he; simp [hd] at h9 ⊢; omega) (by decide) rfl ?_ | refine WO_append tys rfl rfl (lt_of rfl) rfl rfl rfl rfl rfl .nil rfl (.own rfl (by first | decide | omega)) (by decide) (by have h9 := congrArg List.length he; simp [hd] at h9 ⊢; omega) (by decide) rfl ?_
    refine WO_norm rfl ?_
    refine WO_keep [0, 3, 4, 5, 6, 7, 8, 9, 10, 11, 12, 13, 14, 15, 16, 17, 18, 19, 20, 21, 22, 23, 29, 30, 31, 32, 33] rfl ?_
    refine ev ?_
    refine WO_nil ?_
    refine inBlk_n ?_
    refine loopQ_n (_, _, _) (by (try dsimp only); repeat (first | exact Sub.nil' | refine Sub.cons' rfl ?_ )) (by (try dsimp only); repeat (first | exact SubM.nil' | refine SubM.cons' rfl ?_ )) ?_ ?_
    · try dsimp only
      have hgo : ¬ (-64 ≤ m ∧ m ≤ 63) := by omega
      rw [lebS_go (n := m) hgo] at he
      exact ⟨by omega, by simp [hd], done ++ [by8 (m % 128 + 128)], (by subst hj; rw [List.take_length, hd]; simp), (by rw [he]; simp)⟩
    · (show Int.toNat _ < Int.toNat _); omega
  try simp only [HS] at h1
  refine ev ?_
  refine WO_guardY rfl rfl rfl rfl (lt_of rfl) ?_
  refine WO_binW rfl rfl (lt_of rfl) rfl rfl rfl binILss rfl ?_
  refine ev ?_
  refine ev ?_
  refine WO_guard rfl rfl rfl rfl (lt_of rfl) (fun h2 => ?_) (fun h2 => ?_)
  rotate_left
  ·
    try simp only [HS] at h2
    iterate 2 (refine WO_guardN rfl rfl rfl rfl rfl (lt_of rfl) ?_)
    refine WO_keep [0, 3, 4, 5, 6, 7, 8, 9, 10, 11, 12, 13, 14, 15, 16, 17, 18, 19] rfl ?_
    iterate 2 (refine WO_guardS rfl rfl rfl rfl (lt_of rfl) ?_)
    refine WO_guardN rfl rfl rfl rfl rfl (lt_of rfl) ?_
    refine ev ?_
    refine WO_nil ?_
    refine thenQ_n ?_
    refine W_condT rfl ?_
    refine W_seq ?_
    refine W_region ?_
    refine ev ?_
    refine ev ?_
    refine WO_buildSlice tys [T.byte (by8 (m % 128))] rfl rfl (lt_of rfl) rfl rfl rfl rfl rfl (lt_of rfl) (by repeat (first | exact PartsOk.nil' | refine PartsOk.cons' rfl (by repeat (first | exact AbsL.nil' | refine AbsL.v' ?_ | refine AbsL.own' ?_ | refine AbsL.none' ?_)) rfl ?_)) (by first | exact List.nodup_nil | exact nodup1 _ | decide | exact nodupB_sound rfl) rfl (by decide) ?_
    refine WO_norm rfl ?_
    first | refine WO_append tys rfl rfl (lt_of rfl) rfl rfl rfl rfl rfl (.own rfl (by first | omega | (simp only [List.length_append]; omega))) rfl (.own rfl (by first | decide | omega)) (by decide) (by have h9 := congrArg List.length he; simp [hd] at h9 ⊢; omega) (by decide) rfl ?_ | refine WO_append tys rfl rfl (lt_of rfl) rfl rfl rfl rfl rfl .nil rfl (.own rfl (by first | decide | omega)) (by decide) (by have h9 := congrArg List.length he; simp [hd] at h9 ⊢; omega) (by decide) rfl ?_
    refine WO_norm rfl ?_
    refine WO_bytesText (e := 5) rfl rfl (lt_of rfl) rfl (by kernel_rfl) (by kernel_rfl) (by kernel_rfl) (textSl (l := done ++ [by8 (m % 128)]) rfl (by simp) (by subst hj; rw [List.take_length, hd]; simp)) ?_
    refine WO_keep [0, 3, 4, 5, 6, 7, 8, 9, 10, 11, 12, 13, 14, 15, 16, 17, 18, 19, 20, 21, 22, 23, 24, 25, 26, 27, 28] rfl ?_
    refine ev ?_
    refine WO_nil ?_
    refine thenQ_n ?_
    refine W_ret ?_
    refine thenQ_r ?_
    refine inBlk_r ?_
    refine loopQ_r ?_
    refine inBlk_r ?_
    refine Ends_of (.inr rfl) (ret_okF rfl) (by decide) rfl ?_
    · rw [lebS_end (n := m) (by omega) (by omega)] at he; rw [he]
  try simp only [HS] at h2
  refine ev ?_
  refine WO_guardY rfl rfl rfl rfl (lt_of rfl) ?_
  refine ev ?_
  refine WO_keep [0, 3, 4, 5, 6, 7, 8, 9, 10, 11, 12, 13, 14, 15, 16, 17, 18] rfl ?_
  refine WO_guardY rfl rfl rfl rfl (lt_of rfl) ?_
  refine ev ?_
  refine WO_guard rfl rfl rfl rfl (lt_of rfl) (fun h3 => ?_) (fun h3 => ?_)
  rotate_left
  ·
    try simp only [HS] at h3
    refine WO_guardN rfl rfl rfl rfl rfl (lt_of rfl) ?_
    refine WO_guardY rfl rfl rfl rfl (lt_of rfl) ?_
    refine ev ?_
    refine ev ?_
    refine WO_nil ?_
    refine thenQ_n ?_
    refine W_condF rfl ?_
    refine W_skip ?_
    refine thenQ_n ?_
    refine W_region ?_
    refine ev ?_
    refine ev ?_
    refine WO_binW rfl rfl (lt_of rfl) rfl rfl rfl (add128 _) rfl ?_
    refine WO_buildSlice tys [T.byte (by8 (m % 128 + 128))] rfl rfl (lt_of rfl) rfl rfl rfl rfl rfl (lt_of rfl) (by repeat (first | exact PartsOk.nil' | refine PartsOk.cons' rfl (by repeat (first | exact AbsL.nil' | refine AbsL.v' ?_ | refine AbsL.own' ?_ | refine AbsL.none' ?_)) rfl ?_)) (by first | exact List.nodup_nil | exact nodup1 _ | decide | exact nodupB_sound rfl) rfl (by decide) ?_
    refine WO_norm rfl ?_
    first | refine WO_append tys rfl rfl (lt_of rfl) rfl rfl rfl rfl rfl (.own rfl (by first | omega | (simp only [List.length_append]; omega))) rfl (.own rfl (by first | decide | omega)) (by decide) (by have h9 := congrArg List.length he; simp [hd] at h9 ⊢; omega) (by decide) rfl ?_ | refine WO_append tys rfl rfl (lt_of rfl) rfl rfl rfl rfl rfl .nil rfl (.own rfl (by first | decide | omega)) (by decide) (by have h9 := congrArg List.length he; simp [hd] at h9 ⊢; omega) (by decide) rfl ?_
    refine WO_norm rfl ?_
    refine WO_keep [0, 3, 4, 5, 6, 7, 8, 9, 10, 11, 12, 13, 14, 15, 16, 17, 18, 19, 20, 21, 22, 23, 29, 30, 31, 32, 33] rfl ?_
    refine ev ?_
    refine WO_nil ?_
    refine inBlk_n ?_
    refine loopQ_n (_, _, _) (by (try dsimp only); repeat (first | exact Sub.nil' | refine Sub.cons' rfl ?_ )) (by (try dsimp only); repeat (first | exact SubM.nil' | refine SubM.cons' rfl ?_ )) ?_ ?_
    · try dsimp only
      have hgo : ¬ (-64 ≤ m ∧ m ≤ 63) := by omega
      rw [lebS_go (n := m) hgo] at he
      exact ⟨by omega, by simp [hd], done ++ [by8 (m % 128 + 128)], (by subst hj; rw [List.take_length, hd]; simp), (by rw [he]; simp)⟩
    · (show Int.toNat _ < Int.toNat _); omega
  try simp only [HS] at h3
  refine ev ?_
  refine WO_guardY rfl rfl rfl rfl (lt_of rfl) ?_
  refine WO_binW rfl rfl (lt_of rfl) rfl rfl rfl binIGeq rfl ?_
  refine WO_guardY rfl rfl rfl rfl (lt_of rfl) ?_
  refine ev ?_
  refine ev ?_
  refine WO_nil ?_
  refine thenQ_n ?_
  refine W_cond rfl (fun h4 => ?_) (fun h4 => ?_)
  ·
    try simp only [HS] at h4
    refine W_seq ?_
    refine W_region ?_
    refine ev ?_
    refine ev ?_
    refine WO_buildSlice tys [T.byte (by8 (m % 128))] rfl rfl (lt_of rfl) rfl rfl rfl rfl rfl (lt_of rfl) (by repeat (first | exact PartsOk.nil' | refine PartsOk.cons' rfl (by repeat (first | exact AbsL.nil' | refine AbsL.v' ?_ | refine AbsL.own' ?_ | refine AbsL.none' ?_)) rfl ?_)) (by first | exact List.nodup_nil | exact nodup1 _ | decide | exact nodupB_sound rfl) rfl (by decide) ?_
    refine WO_norm rfl ?_
    first | refine WO_append tys rfl rfl (lt_of rfl) rfl rfl rfl rfl rfl (.own rfl (by first | omega | (simp only [List.length_append]; omega))) rfl (.own rfl (by first | decide | omega)) (by decide) (by have h9 := congrArg List.length he; simp [hd] at h9 ⊢; omega) (by decide) rfl ?_ | refine WO_append tys rfl rfl (lt_of rfl) rfl rfl rfl rfl rfl .nil rfl (.own rfl (by first | decide | omega)) (by decide) (by have h9 := congrArg List.length he; simp [hd] at h9 ⊢; omega) (by decide) rfl ?_
    refine WO_norm rfl ?_
    refine WO_keep [0, 3, 4, 5, 6, 7, 8, 9, 10, 11, 12, 13, 14, 15, 16, 17, 18, 19, 20, 21, 22, 23, 24, 25, 26, 27] rfl ?_
    refine WO_bytesText (e := 5) rfl rfl (lt_of rfl) rfl (by kernel_rfl) (by kernel_rfl) (by kernel_rfl) (textSl (l := done ++ [by8 (m % 128)]) rfl (by simp) (by subst hj; rw [List.take_length, hd]; simp)) ?_
    refine ev ?_
    refine WO_nil ?_
    refine thenQ_n ?_
    refine W_ret ?_
    refine thenQ_r ?_
    refine inBlk_r ?_
    refine loopQ_r ?_
    refine inBlk_r ?_
    refine Ends_of (.inr rfl) (ret_okF rfl) (by decide) rfl ?_
    · rw [lebS_end (n := m) (by omega) (by omega)] at he; rw [he]
  try simp only [HS] at h4
  refine W_skip ?_
  refine thenQ_n ?_
  refine W_region ?_
  refine ev ?_
  refine ev ?_
  refine WO_binW rfl rfl (lt_of rfl) rfl rfl rfl (add128 _) rfl ?_
  refine WO_buildSlice tys [T.byte (by8 (m % 128 + 128))] rfl rfl (lt_of rfl) rfl rfl rfl rfl rfl (lt_of rfl) (by repeat (first | exact PartsOk.nil' | refine PartsOk.cons' rfl (by repeat (first | exact AbsL.nil' | refine AbsL.v' ?_ | refine AbsL.own' ?_ | refine AbsL.none' ?_)) rfl ?_)) (by first | exact List.nodup_nil | exact nodup1 _ | decide | exact nodupB_sound rfl) rfl (by decide) ?_
  refine WO_norm rfl ?_
  refine WO_keep [0, 3, 4, 5, 6, 7, 8, 9, 10, 11, 12, 13, 14, 15, 16, 17, 18, 19, 20, 21, 22, 23, 29, 30, 31, 32] rfl ?_
  first | refine WO_append tys rfl rfl (lt_of rfl) rfl rfl rfl rfl rfl (.own rfl (by first | omega | (simp only [List.length_append]; omega))) rfl (.own rfl (by first | decide | omega)) (by decide) (by have h9 := congrArg List.length he; simp [hd] at h9 ⊢; omega) (by decide) rfl ?_ | refine WO_append tys rfl rfl (lt_of rfl) rfl rfl rfl rfl rfl .nil rfl (.own rfl (by first | decide | omega)) (by decide) (by have h9 := congrArg List.length he; simp [hd] at h9 ⊢; omega) (by decide) rfl ?_
  refine WO_norm rfl ?_
  refine ev ?_
  refine WO_nil ?_
  refine inBlk_n ?_
  refine loopQ_n (_, _, _) (by (try dsimp only); repeat (first | exact Sub.nil' | refine Sub.cons' rfl ?_ )) (by (try dsimp only); repeat (first | exact SubM.nil' | refine SubM.cons' rfl ?_ )) ?_ ?_
  · try dsimp only
    have hgo : ¬ (-64 ≤ m ∧ m ≤ 63) := by omega
    rw [lebS_go (n := m) hgo] at he
    exact ⟨by omega, by simp [hd], done ++ [by8 (m % 128 + 128)], (by subst hj; rw [List.take_length, hd]; simp), (by rw [he]; simp)⟩
  · (show Int.toNat _ < Int.toNat _); omega

theorem itoa_nn {n : Int} (h : 0 ≤ n) : Lib.itoa n = Lib.decDigits n.toNat := by unfold Lib.itoa; rw [if_neg (by omega)]
theorem itoa_low {n : Int} (h : 0 ≤ n) (h1 : n < 10) : Lib.itoa n = [by8 (48 + n)] := by
  rw [itoa_nn h, Lib.decDigits, dif_pos (by omega)]
  unfold by8
  congr 2
  omega
theorem itoa_high {n : Int} (h : 0 ≤ n) (h1 : ¬ n < 10) : Lib.itoa n = Lib.itoa (n / 10) ++ [by8 (48 + n % 10)] := by
  rw [itoa_nn h, itoa_nn (by omega), Lib.decDigits, dif_neg (by omega)]
  have e : n.toNat / 10 = (n / 10).toNat := by omega
  rw [e]
  unfold by8
  congr 3
  omega
theorem itoa_neg {n : Int} (h : n < 0) : Lib.itoa n = 45 :: Lib.itoa (-n) := by
  rw [itoa_nn (n := -n) (by omega)]; unfold Lib.itoa; rw [if_pos h]; congr 2; omega

theorem l1Num_fun0 (n : Int) (h0 : 0 ≤ n) (hn : n ≤ 9223372036854775807) (ih : ∀ m : Int, 0 ≤ m → m < n → Fun Tryd.prog 34 [.t (.int m)] (.t (T.str (Lib.itoa m)))) : Fun Tryd.prog 34 [.t (.int n)] (tupD [.t (T.str (Lib.itoa n))]) := by
  have hlen := Lib.itoa_length_le (n / 10) (by omega) (by omega)
  have hq : n.tdiv 10 = n / 10 := Int.tdiv_eq_ediv_of_nonneg h0
  have hr : n.tmod 10 = n % 10 := Int.tmod_eq_emod_of_nonneg h0
  refine Fun.begin tys Tryd.func34 rfl rfl (N := 20) [(0, .t (.int n))] rfl rfl (fun w0 G F0 => ?_)
  refine W_seq ?_
  refine W_region ?_
  refine ev ?_
  refine WO_nil ?_
  refine thenQ_n ?_
  iterate 2 (refine W_seq ?_)
  refine W_region ?_
  refine ev ?_
  refine ev ?_
  refine WO_nil ?_
  refine thenQ_n ?_
  refine W_cond rfl (fun h1 => ?_) (fun h1 => ?_)
  ·
    try simp only [HS] at h1
    refine W_seq ?_
    refine W_region ?_
    refine ev ?_
    refine evI ?_
    refine WO_convId (td := .int .i64) (k := .u8) rfl rfl (lt_of rfl) rfl (by kernel_rfl) (by kernel_rfl) rfl (wrapU8 _) ?_
    refine WO_buildSlice tys [T.byte (by8 (48 + n))] rfl rfl (lt_of rfl) rfl rfl rfl rfl rfl (lt_of rfl) (by repeat (first | exact PartsOk.nil' | refine PartsOk.cons' rfl (by repeat (first | exact AbsL.nil' | refine AbsL.v' ?_ | refine AbsL.own' ?_ | refine AbsL.none' ?_)) rfl ?_)) (by first | exact List.nodup_nil | exact nodup1 _ | decide | exact nodupB_sound rfl) rfl (by decide) ?_
    refine WO_norm rfl ?_
    refine WO_bytesText (e := 5) rfl rfl (lt_of rfl) rfl (by kernel_rfl) (by kernel_rfl) (by kernel_rfl) (textSl (l := [by8 (48 + n)]) rfl rfl rfl) ?_
    refine ev ?_
    refine WO_keep [0, 2] rfl ?_
    refine WO_nil ?_
    refine thenQ_n ?_
    refine W_ret ?_
    refine thenQ_r ?_
    refine Ends_of (.inr rfl) (ret_okF rfl) (by decide) rfl ?_
    · first
      | exact retT (itoa_low h0 (by assumption)).symm
      | exact retT (itoa_high h0 (by omega)).symm
  try simp only [HS] at h1
  refine W_skip ?_
  refine thenQ_n ?_
  refine W_seq ?_
  refine W_regionG0 mixed (by kernel_rfl) ?_
  refine QG_ev tys rfl rfl (lt_of rfl) rfl ?_
  refine QG_quoN (m := n / 10) rfl rfl (lt_of rfl) rfl rfl rfl (by decide) (by rw [hq]; exact wrapI64 (by omega) (by omega)) ?_
  refine callBG ?_
  refine ⟨_, ih (n / 10) (by omega) (by omega), rfl, ?_⟩
  refine QG_norm rfl ?_
  refine QG_ev tys rfl rfl (lt_of rfl) rfl ?_
  refine QG_rem rfl rfl (lt_of rfl) rfl rfl rfl (by decide) ?_
  rw [hr]
  refine QG_int tys rfl rfl (lt_of rfl) rfl (wrap_id (by omega) (by omega)) ?_
  refine QG_convId (td := .int .i64) (k := .u8) rfl rfl (lt_of rfl) rfl (by kernel_rfl) (by kernel_rfl) rfl (wrapU8 _) ?_
  refine QG_buildS tys [T.byte (by8 (48 + n % 10))] rfl rfl (lt_of rfl) rfl rfl rfl rfl rfl (lt_of rfl) (by repeat (first | exact PartsOk.nil' | refine PartsOk.cons' rfl (by repeat (first | exact AbsL.nil' | refine AbsL.v' ?_ | refine AbsL.own' ?_ | refine AbsL.none' ?_)) rfl ?_)) rfl rfl rfl (by decide) ?_
  refine QG_bytesText (e := 5) rfl rfl (lt_of rfl) rfl (by kernel_rfl) (by kernel_rfl) (by kernel_rfl) (l := [by8 (48 + n % 10)]) (ResL.own .done) ?_
  refine QG_norm rfl ?_
  refine QG_binW rfl rfl (lt_of rfl) rfl rfl rfl (binStrAdd (by first | omega | (simp; omega))) rfl ?_
  refine QG_ev tys rfl rfl (lt_of rfl) rfl ?_
  refine QG_nil ?_
  refine ⟨by kernel_rfl, ?_⟩
  refine WO_norm rfl ?_
  refine WO_nil ?_
  refine thenQ_n ?_
  refine W_ret ?_
  refine Ends_of (.inr rfl) (ret_okF rfl) (by decide) rfl ?_
  · first
    | exact retT (itoa_low h0 (by assumption)).symm
    | exact retT (itoa_high h0 (by omega)).symm
theorem l1Num_fun (n : Int) (h0 : 0 ≤ n) (hn : n ≤ 9223372036854775807) : Fun Tryd.prog 34 [.t (.int n)] (.t (T.str (Lib.itoa n))) := by
  have key : ∀ (k : Nat) (n : Int), n.toNat = k → 0 ≤ n → n ≤ 9223372036854775807 → Fun Tryd.prog 34 [.t (.int n)] (.t (T.str (Lib.itoa n))) := fun k => by
    induction k using Nat.strongRecOn with
    | _ k ih => exact fun n hk h0 hn => l1Num_fun0 n h0 hn fun m hm hm2 => ih m.toNat (by omega) m rfl hm (by omega)
  exact key _ n rfl h0 hn

theorem l2Int_fun (n : Int) (h0 : -9223372036854775807 ≤ n) (hn : n ≤ 9223372036854775807) : Fun Tryd.prog 67 [.t (.int n)] (tupD [.t (T.str (Lib.itoa n))]) := by
  have hlen := Lib.itoa_length_le (-n) (by omega) (by omega)
  refine Fun.begin tys Tryd.func67 rfl rfl (N := 11) [(0, .t (.int n))] rfl rfl (fun w0 G F0 => ?_)
  refine W_seq ?_
  refine W_region ?_
  refine ev ?_
  refine WO_nil ?_
  refine thenQ_n ?_
  iterate 2 (refine W_seq ?_)
  refine W_region ?_
  refine ev ?_
  refine ev ?_
  refine WO_nil ?_
  refine thenQ_n ?_
  refine W_cond rfl (fun h1 => ?_) (fun h1 => ?_)
  ·
    try simp only [HS] at h1
    refine W_seq ?_
    refine W_region ?_
    refine ev ?_
    refine ev ?_
    rw [show IntKind.i64.wrap (0 - n) = -n from by rw [wrapI64 (by omega) (by omega)]; omega]
    refine callB ?_
    refine ⟨_, l1Num_fun _ (by omega) (by omega), rfl, ?_⟩
    refine WO_binW rfl rfl (lt_of rfl) rfl rfl rfl (binStrAdd (by first | omega | (simp; omega))) rfl ?_
    refine ev ?_
    refine WO_nil ?_
    refine thenQ_n ?_
    refine W_ret ?_
    refine thenQ_r ?_
    refine Ends_of (.inr rfl) (ret_okF rfl) (by decide) rfl ?_
    · first
      | exact retT (itoa_neg (by assumption)).symm
      | rfl
  try simp only [HS] at h1
  refine W_skip ?_
  refine thenQ_n ?_
  refine W_seq ?_
  refine W_region ?_
  refine ev ?_
  refine callB ?_
  refine ⟨_, l1Num_fun _ (by omega) (by omega), rfl, ?_⟩
  refine ev ?_
  refine WO_nil ?_
  refine thenQ_n ?_
  refine W_ret ?_
  refine Ends_of (.inr rfl) (ret_okF rfl) (by decide) rfl ?_
  · first
    | exact retT (itoa_neg (by assumption)).symm
    | rfl
open Go.Eng Go.RowKit

theorem check_fresh (b : Nat) (w : World) (h0 : w.cell? ⟨b, 0, none⟩ = some (.pointer none)) (hsh : w.shape? b = some (75, 2)) (hfz : w.frozen? ⟨b, 0, none⟩ = false) :
    Calls Tryd.prog 71 #[.pointer (some ⟨b, 0, none⟩)] w fun e w' => e = .returned (.tuple #[]) ∧ w' = w.setCell ⟨b, 0, none⟩ (.pointer (some ⟨b, 0, none⟩)) := by
  obtain ⟨j, hj, hjs⟩ := Option.map_eq_some_iff.1 (show (Tryd.prog.info? 75).map (·.size) = some 2 by kernel_rfl)
  have t70 : Tryd.prog.underlying 72 = some (.pointer 75) := by kernel_rfl
  have t164 : Tryd.prog.underlying 108 = some .unsafePointer := by kernel_rfl
  go_enter Tryd.func71, Tryd.ntmps71
  go_wp2
  rw [Lib.run_to_unsafe w ⟨b, 0, none⟩ t70 t164 hj (by rw [hjs]; decide) hsh (Nat.zero_lt_succ 1)]
  simp only [Result.andThen]
  rw [Oper.upon_value]
  go_wp2
  rw [run_callFunc_extern Tryd.func84 (by kernel_rfl) (by kernel_rfl) (by kernel_rfl) (e := Extern.AbiNoEscape.same) (by kernel_rfl)]
  rw [Lib.run_noEscape]
  simp only [Result.andThen]
  rw [Oper.upon_value]
  go_wp2
  rw [Lib.run_from_unsafe w ⟨b, 0, none⟩ t164 t70 hj hsh (show liesAt Tryd.prog Tryd.prog.depth 75 (2 / Tryd.prog.cellsOf 75) 0 75 1 = true by kernel_rfl)]
  simp only [Result.andThen]
  rw [Oper.upon_value]
  go_wp2
  go_end0
  exact ⟨rfl, rfl⟩
theorem check_used (b : Nat) (w : World) (h0 : w.cell? ⟨b, 0, none⟩ = some (.pointer (some ⟨b, 0, none⟩))) :
    Calls Tryd.prog 71 #[.pointer (some ⟨b, 0, none⟩)] w fun e w' => e = .returned (.tuple #[]) ∧ w' = w := by
  obtain ⟨j, hj, _⟩ := Option.map_eq_some_iff.1 (show (Tryd.prog.info? 75).map (·.size) = some 2 by kernel_rfl)
  have t70 : Tryd.prog.underlying 72 = some (.pointer 75) := by kernel_rfl
  go_enter Tryd.func71, Tryd.ntmps71
  go_wp2
  rw [Lib.run_neq_ptr_same w _ t70 hj]
  go_wp2
  go_end0
  exact ⟨rfl, rfl⟩
open Go.RowKit Go.Lib Go.Shelf

theorem bldP_check (b : Nat) (p v : Value) (l : List UInt8) (w : World) (h : Go.Proofs.BldAt 75 5 b p v l w) :
    Calls Tryd.prog 71 #[.pointer (some ⟨b, 0, none⟩)] w fun e w' => e = .returned (.tuple #[]) ∧ Go.Proofs.BldAt 75 5 b (.pointer (some ⟨b, 0, none⟩)) v l w' ∧ (w' = w ∨ w' = w.setCell ⟨b, 0, none⟩ (.pointer (some ⟨b, 0, none⟩))) := by
  obtain ⟨h1, h2, h3, h4⟩ := h
  have c0 : w.cell? ⟨b, 0, none⟩ = some p := by rw [Lib.cell_of_heap h1]; rfl
  rcases h2 with rfl | rfl
  · refine (check_fresh b w c0 (by simp [World.shape?, h1]) (Lib.frozen_of_heap h1 0)).mono ?_
    rintro e w' ⟨rfl, rfl⟩
    refine ⟨rfl, ⟨?_, .inr rfl, ?_, h4⟩, .inr rfl⟩
    · simp [World.setCell, Array.getElem?_modify, h1]
    · exact h3.kept (row := some b) ⟨rfl, rfl, rfl, by simp [World.setCell], fun k _ hk => Below.heap_setCell _ _ _ _ (fun e => hk (by simp [e]))⟩ (Or.inr h4)
  · refine (check_used b w c0).mono ?_
    rintro e w' ⟨rfl, rfl⟩
    exact ⟨rfl, ⟨h1, .inr rfl, h3, h4⟩, .inl rfl⟩


theorem bldP_WriteString (b : Nat) (p v : Value) (l : List UInt8) (s : ByteArray) (w : World) (h : Go.Proofs.BldAt 75 5 b p v l w) (hlen : l.length + s.size ≤ 140737488355328) :
    Calls Tryd.prog 43 #[.pointer (some ⟨b, 0, none⟩), .string s] w fun e w' => e = .returned (.tuple #[.int .i64 s.size, .nilIface]) ∧ ∃ v', Go.Proofs.BldAt 75 5 b (.pointer (some ⟨b, 0, none⟩)) v' (l ++ s.data.toList) w' ∧ Go.Proofs.BldKept b v v' w w' := by
  obtain ⟨i0, hi, hz0, hz1, hz2⟩ := info_parts (show (Tryd.prog.info? 5).map (fun i => (i.zero, i.size, i.bytes)) = some (some (.int .u8 0), 1, 1) by kernel_rfl)
  go_enter Tryd.func43, Tryd.ntmps43
  go_wp2_with (go_at_call 71; refine (bldP_check b p v l _ h).mono ?_)
  rintro e w1 ⟨rfl, h1, hw1⟩
  obtain ⟨hbk, _, hown, hne⟩ := h1
  have c0 : w1.cell? ⟨b, 0, none⟩ = some (.pointer (some ⟨b, 0, none⟩)) := by rw [Lib.cell_of_heap hbk]; rfl
  have c1 : w1.cell? ⟨b, 1, none⟩ = some v := by rw [Lib.cell_of_heap hbk]; rfl
  go_wp2_with (at_builtin; refine Go.Eng.wpList_append_exact rfl _ _ 73 9 rfl 5 i0 (show Tryd.prog.underlying 73 = some (.slice 5) by kernel_rfl) (show Tryd.prog.underlying 9 = some .string by kernel_rfl) hi hz0 hz1 hz2 _ _ _ rfl hown s rfl ?c3 ?c4 ?_)
  case c3 => unfold maxLen; omega
  case c4 => omega
  intro v' w2 hown' hgrow hrow
  have hlt : b < w1.heap.size := by
    rcases Nat.lt_or_ge b w1.heap.size with h' | h'
    · exact h'
    · simp [Array.getElem?_eq_none h'] at hbk
  have hb2 : w2.heap[b]? = some (.cells #[.pointer (some ⟨b, 0, none⟩), v] 75 (0, 0)) := by
    rw [hgrow.block b hlt (fun e => hne e.symm)]
    exact hbk
  have d0 : w2.cell? ⟨b, 0, none⟩ = some (.pointer (some ⟨b, 0, none⟩)) := by rw [Lib.cell_of_heap hb2]; rfl
  have d1 : w2.cell? ⟨b, 1, none⟩ = some v := by rw [Lib.cell_of_heap hb2]; rfl
  have f1 : w2.frozen? ⟨b, 1, none⟩ = false := Lib.frozen_of_heap hb2 1
  obtain ⟨ao, n', cap, rfl⟩ : ∃ ao n' cap, v' = .slice ao n' cap := by
    rcases hown'.2 with ⟨hv, _⟩ | ⟨g, cap, cur, hv, _⟩
    · exact ⟨_, _, _, hv⟩
    · exact ⟨_, _, _, hv⟩
  go_wp2
  go_ret2
  have hne' : (Value.slice ao n' cap).ownBlock ≠ some b := Lib.ownBlock_neF (World.ownsRowF_of hown') hb2 (by decide)
  have e1 : byteCells (l ++ s.data.toList) = byteCells l ++ strCells s := by simp [byteCells, strCells]
  have e2 : (l ++ s.data.toList).length = l.length + s.size := by rw [List.length_append]; rfl
  refine ⟨rfl, .slice ao n' cap, ⟨?_, .inr rfl, ?_, hne'⟩, ?_⟩
  · simp [World.setCell, Array.getElem?_modify, hb2]
  · rw [e1, e2]
    exact hown'.kept (row := some b) ⟨rfl, rfl, rfl, by simp [World.setCell], fun k _ hk => Below.heap_setCell _ _ _ _ (fun e => hk (by simp [e]))⟩ (Or.inr hne')
  · have hs1 : w1.heap.size = w.heap.size := by rcases hw1 with rfl | rfl <;> simp [World.setCell]
    have hk1 : ∀ k, k ≠ b → w1.heap[k]? = w.heap[k]? := by
      intro k hk
      rcases hw1 with rfl | rfl
      · rfl
      · exact Below.heap_setCell _ _ _ _ hk
    have ho1 : w1.os = w.os ∧ w1.tape = w.tape ∧ w1.output = w.output := by rcases hw1 with rfl | rfl <;> exact ⟨rfl, rfl, rfl⟩
    refine ⟨hgrow.os.trans ho1.1, hgrow.tape.trans ho1.2.1, hgrow.output.trans ho1.2.2, ?_, fun k hk hkb hkv => ?_, fun g hg => ?_⟩
    · have := hgrow.size
      simp [World.setCell]; omega
    · rw [Below.heap_setCell _ _ _ _ hkb, hgrow.block k (by omega) (fun e => hkv e.symm), hk1 k hkb]
    · rcases hrow g hg with h5 | h5
      · exact .inl h5
      · refine .inr ⟨by omega, ?_⟩
        rcases hown'.2 with ⟨h6, _⟩ | ⟨g2, c2, cur2, h6, _, h7, _⟩
        · rw [h6] at hg; cases hg
        · rw [h6] at hg
          have hg2 : g2 = g := Option.some.inj hg
          subst hg2
          have := (Array.getElem?_eq_some_iff.1 h7).1
          simpa [World.setCell] using this

section
open Go.Eng
theorem writeString_fun (b : Nat) (l s : List UInt8) (hlen : l.length + s.length ≤ 140737488355328) :
    Go.Eng.Proc Tryd.prog 43 [.t (.v (.pointer (some ⟨b, 0, none⟩))), .t (T.str s)] [] [] [.bld 75 5 b l] (.tup [.t (.int s.length), .t (.v .nilIface)]) [.bld 75 5 b (l ++ s)] := by
  refine ⟨⟨_, Tryd.func43, rfl, rfl⟩, fun w F args bs hF hargs _ hms hnd hbs => ?_⟩
  have he := relD_plain (vs := [.pointer (some ⟨b, 0, none⟩), .string ⟨⟨s⟩⟩]) hargs
  have ha : args = #[.pointer (some ⟨b, 0, none⟩), .string ⟨⟨s⟩⟩] := by rw [← Array.toArray_toList (xs := args), he]
  subst ha
  obtain ⟨b1, b2, hm, h0, rfl⟩ := hms
  have h0' : b2 = [] := h0
  subst h0'
  rw [List.append_nil] at hnd hbs ⊢
  obtain ⟨p, v, hb, rfl⟩ := bld_of hm hnd
  refine (bldP_WriteString b p v l ⟨⟨s⟩⟩ w hb hlen).mono ?_
  rintro e w' ⟨rfl, v', hb', k⟩
  have hbw := (hbs b (by simp)).1
  refine ⟨_, [], b :: v'.ownBlock.toList, rfl, RelD.tup (bs := []) (bs' := []) (.t (.v rfl .nil) (.t (.v rfl .nil) .done)) .done, ⟨_, [], bld_to hb', rfl, by simp⟩, ?_, fun x hx => ?_, k.os, k.tape, k.output, k.size, fun x hx hn => k.block x hx (fun e => hn (by simp [e])) (fun e => hn (by simp [e]))⟩
  · rw [List.nil_append, List.nodup_cons]
    refine ⟨fun h => hb'.2.2.2 (by simpa using h), by cases v'.ownBlock <;> simp⟩
  · rw [List.nil_append] at hx
    rcases List.mem_cons.1 hx with rfl | hx
    · exact .inl (by simp)
    · rcases k.row x (by simpa using hx) with h5 | h5
      · exact .inl (by simp [h5])
      · exact .inr h5
end
end Go.Proofs.YtafjkelehnpfcaaDoor
