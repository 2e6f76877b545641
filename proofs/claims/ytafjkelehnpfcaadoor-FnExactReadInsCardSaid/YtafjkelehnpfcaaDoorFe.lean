/- Walks of what good expressions are. -/
import Derived.Test.YtafjkelehnpfcaaDoorFp
import Derived.Test.YtafjkelehnpfcaaDoorMc
set_option linter.unusedVariables false
set_option linter.unusedSimpArgs false
set_option maxRecDepth 10000
set_option maxHeartbeats 1000000
namespace Go.Proofs.YtafjkelehnpfcaaDoor
open Go.Eng

theorem retB {b b' : Bool} (h : b = b') : [D.t (T.v (Value.bool b))] = [D.t (T.bool b')] := by rw [h]
theorem retI {b b' : Int} (h : b = b') : [D.t (T.v (Value.int .i64 b))] = [D.t (T.int b')] := by rw [h]

/-- What a function takes, by its number. -/
def atI (l : List Int) (n : Int) : Int := (l[n.toNat]?).getD 0
def paramsB (ps : List Int) : Bool := decide ((ps.length : Int) ≤ 5) && allIn ps 0 2
def knownT (vars m : Int) (t : Tok) : Bool :=
  if t.op = 1 then decide (-2147483648 ≤ t.n ∧ t.n ≤ 2147483647) else if t.op = 2 then decide (0 ≤ t.n ∧ t.n < vars) else if t.op = 11 then decide (0 ≤ t.n ∧ t.n < m) else decide (3 ≤ t.op ∧ t.op ≤ 10) && decide (t.n = 0)
def needsT (ps : List Int) (t : Tok) : Int := if 3 ≤ t.op ∧ t.op ≤ 8 then 2 else if t.op = 11 then atI ps t.n else 0
theorem l2Bound_fun (n : Int) : Fun Tryd.prog 55 [.t (.int n)] (tupD [.t (.bool (decide (-2147483648 ≤ n ∧ n ≤ 2147483647)))]) := by
  refine Fun.begin tys Tryd.func55 rfl rfl (N := 5) [(0, .t (.int n))] rfl rfl (fun w0 G F0 => ?_)
  refine W_seq ?_
  refine W_region ?_
  refine ev ?_
  refine WO_nil ?_
  refine thenQ_n ?_
  refine W_seq ?_
  refine W_region ?_
  refine ev ?_
  refine callB ?_
  refine ⟨_, l1In_fun _ _ _, rfl, ?_⟩
  refine ev ?_
  refine WO_nil ?_
  refine thenQ_n ?_
  refine W_ret ?_
  refine Ends_of (.inr rfl) (ret_okF rfl) (by decide) rfl ?_
  · rfl

def tokB (t : Tok) : Bool := if t.op = 1 then decide (-2147483648 ≤ t.n ∧ t.n ≤ 2147483647) else if t.op = 2 ∨ t.op = 11 then decide (0 ≤ t.n ∧ t.n ≤ 99) else decide (3 ≤ t.op ∧ t.op ≤ 10) && decide (t.n = 0)

theorem l2Token_fun (t : Tok) : Fun Tryd.prog 75 [.t t.tt] (tupD [.t (.bool (tokB t))]) := by
  refine Fun.begin tys Tryd.func75 rfl rfl (N := 24) [(0, .t t.tt)] rfl rfl (fun w0 G F0 => ?_)
  refine W_seq ?_
  refine W_region ?_
  refine WO_box rfl rfl (lt_of rfl) rfl rfl ?_
  refine WO_norm rfl ?_
  refine ev ?_
  refine WO_nil ?_
  refine thenQ_n ?_
  iterate 2 (refine W_seq ?_)
  refine W_region ?_
  refine ev ?_
  refine ev ?_
  refine WO_nil ?_
  refine thenQ_n ?_
  refine W_block ?_
  refine W_seq ?_
  refine W_region ?_
  refine ev ?_
  refine ev ?_
  refine WO_nil ?_
  refine thenQ_n ?_
  refine W_cond rfl (fun h1 => ?_) (fun h1 => ?_)
  ·
    try simp only [HS] at h1
    refine W_seq ?_
    refine W_region ?_
    refine ev ?_
    refine ev ?_
    refine callB ?_
    refine ⟨_, l2Bound_fun _, rfl, ?_⟩
    refine WO_keep [1, 2, 9] rfl ?_
    refine ev ?_
    refine WO_nil ?_
    refine thenQ_n ?_
    refine W_ret ?_
    refine inBlk_r ?_
    refine thenQ_r ?_
    refine Ends_of (.inr rfl) (ret_okF rfl) (by decide) rfl ?_
    · exact retB (by grind [tokB])
  try simp only [HS] at h1
  iterate 2 (refine W_seq ?_)
  refine W_region ?_
  refine ev ?_
  refine ev ?_
  refine WO_nil ?_
  refine thenQ_n ?_
  refine W_cond rfl (fun h2 => ?_) (fun h2 => ?_)
  ·
    try simp only [HS] at h2
    refine W_skip ?_
    refine thenQ_n ?_
    refine W_cond rfl (fun h3 => ?_) (fun h3 => ?_)
    ·
      try simp only [HS] at h3
      refine W_seq ?_
      refine W_keep [1, 2] rfl ?_
      refine W_region ?_
      refine ev ?_
      refine ev ?_
      refine callB ?_
      refine ⟨_, l1In_fun _ _ _, rfl, ?_⟩
      refine ev ?_
      refine WO_nil ?_
      refine thenQ_n ?_
      refine W_ret ?_
      refine inBlk_r ?_
      refine thenQ_r ?_
      refine Ends_of (.inr rfl) (ret_okF rfl) (by decide) rfl ?_
      · exact retB (by grind [tokB])
    try simp only [HS] at h3
    refine W_skip ?_
    refine inBlk_n ?_
    refine thenQ_n ?_
    refine W_seq ?_
    refine W_keep [1, 2] rfl ?_
    refine W_region ?_
    refine ev ?_
    refine ev ?_
    refine callB ?_
    refine ⟨_, l1In_fun _ _ _, rfl, ?_⟩
    refine ev ?_
    refine WO_guard rfl rfl rfl rfl (lt_of rfl) (fun h4 => ?_) (fun h4 => ?_)
    rotate_left
    ·
      try simp only [HS] at h4
      iterate 2 (refine WO_guardN rfl rfl rfl rfl rfl (lt_of rfl) ?_)
      refine ev ?_
      refine ev ?_
      refine WO_nil ?_
      refine thenQ_n ?_
      refine W_ret ?_
      refine Ends_of (.inr rfl) (ret_okF rfl) (by decide) rfl ?_
      · exact retB (by grind [tokB])
    try simp only [HS] at h4
    refine ev ?_
    refine WO_guardY rfl rfl rfl rfl (lt_of rfl) ?_
    refine ev ?_
    refine WO_guardY rfl rfl rfl rfl (lt_of rfl) ?_
    iterate 3 (refine ev ?_)
    refine WO_keep [2] rfl ?_
    refine WO_nil ?_
    refine thenQ_n ?_
    refine W_ret ?_
    refine Ends_of (.inr rfl) (ret_okF rfl) (by decide) rfl ?_
    · exact retB (by grind [tokB])
  try simp only [HS] at h2
  refine W_keep [1, 2, 4, 10] rfl ?_
  refine W_region ?_
  refine ev ?_
  refine ev ?_
  refine WO_nil ?_
  refine thenQ_n ?_
  refine W_cond rfl (fun h3 => ?_) (fun h3 => ?_)
  ·
    try simp only [HS] at h3
    refine W_seq ?_
    refine W_region ?_
    refine ev ?_
    refine ev ?_
    refine callB ?_
    refine ⟨_, l1In_fun _ _ _, rfl, ?_⟩
    refine ev ?_
    refine WO_nil ?_
    refine thenQ_n ?_
    refine W_ret ?_
    refine inBlk_r ?_
    refine thenQ_r ?_
    refine Ends_of (.inr rfl) (ret_okF rfl) (by decide) rfl ?_
    · exact retB (by grind [tokB])
  try simp only [HS] at h3
  refine W_skip ?_
  refine inBlk_n ?_
  refine thenQ_n ?_
  refine W_seq ?_
  refine W_region ?_
  refine ev ?_
  refine ev ?_
  refine callB ?_
  refine ⟨_, l1In_fun _ _ _, rfl, ?_⟩
  refine ev ?_
  refine WO_guard rfl rfl rfl rfl (lt_of rfl) (fun h4 => ?_) (fun h4 => ?_)
  rotate_left
  ·
    try simp only [HS] at h4
    iterate 2 (refine WO_guardN rfl rfl rfl rfl rfl (lt_of rfl) ?_)
    refine ev ?_
    refine WO_keep [2, 23] rfl ?_
    refine ev ?_
    refine WO_nil ?_
    refine thenQ_n ?_
    refine W_ret ?_
    refine Ends_of (.inr rfl) (ret_okF rfl) (by decide) rfl ?_
    · exact retB (by grind [tokB])
  try simp only [HS] at h4
  refine ev ?_
  refine WO_guardY rfl rfl rfl rfl (lt_of rfl) ?_
  refine ev ?_
  refine WO_guardY rfl rfl rfl rfl (lt_of rfl) ?_
  refine ev ?_
  refine WO_keep [2, 19, 22] rfl ?_
  refine ev ?_
  refine ev ?_
  refine WO_nil ?_
  refine thenQ_n ?_
  refine W_ret ?_
  refine Ends_of (.inr rfl) (ret_okF rfl) (by decide) rfl ?_
  · exact retB (by grind [tokB])




/-- How many values there are behind a list of tokens, and how many there were at most. -/
def runE (vars : Int) (ps : List Int) : List Tok → Int → Int → Option (Int × Int)
  | [], h, m => some (h, m)
  | t :: l, h, m => if knownT vars ps.length t && decide (needsT ps t ≤ h) then runE vars ps l (h + (1 - needsT ps t)) (max m (h + (1 - needsT ps t))) else none
def goodE (vars : Int) (ps : List Int) (l : List Tok) : Bool := match runE vars ps l 0 0 with
  | some (h, m) => decide (h = 1) && decide ((l.length : Int) ≤ 12)
  | none => false
theorem i32_small (n : Int) : (n = IntKind.i64.wrap (IntKind.i32.wrap n)) ↔ (-2147483648 ≤ n ∧ n ≤ 2147483647) := by
  have h1 : -2147483648 ≤ IntKind.i32.wrap n ∧ IntKind.i32.wrap n ≤ 2147483647 := by
    unfold IntKind.wrap; simp [IntKind.bits, IntKind.signed]; split <;> omega
  rw [wrap_id (by omega) (by omega)]
  constructor
  · intro h; omega
  · intro h; unfold IntKind.wrap; simp [IntKind.bits, IntKind.signed]; split <;> omega

theorem isSmall_fun (n : Int) : Fun Tryd.prog 79 [.t (.int n)] (tupD [.t (.bool (decide (-2147483648 ≤ n ∧ n ≤ 2147483647)))]) := by
  refine Fun.begin tys Tryd.func79 rfl rfl (N := 8) [(0, .t (.int n))] rfl rfl (fun w0 G F0 => ?_)
  refine W_seq ?_
  refine W_region ?_
  refine ev ?_
  refine WO_nil ?_
  refine thenQ_n ?_
  refine W_seq ?_
  refine W_region ?_
  refine ev ?_
  refine ev ?_
  refine WO_conv (td := .int .i64) (k := .i32) rfl rfl (lt_of rfl) rfl (by kernel_rfl) (by kernel_rfl) rfl ?_
  refine WO_conv (td := .int .i32) (k := .i64) rfl rfl (lt_of rfl) rfl (by kernel_rfl) (by kernel_rfl) rfl ?_
  refine ev ?_
  refine ev ?_
  refine WO_nil ?_
  refine thenQ_n ?_
  refine W_ret ?_
  refine Ends_of (.inr rfl) (ret_okF rfl) (by decide) rfl ?_
  · exact retB (by rw [Bool.eq_iff_iff, decide_eq_true_iff, decide_eq_true_iff, i32_small])


theorem isReckoned_fun (n : Int) : Fun Tryd.prog 80 [.t (.int n)] (tupD [.t (.bool (decide (3 ≤ n ∧ n ≤ 8)))]) := by
  refine Fun.begin tys Tryd.func80 rfl rfl (N := 5) [(0, .t (.int n))] rfl rfl (fun w0 G F0 => ?_)
  refine W_seq ?_
  refine W_region ?_
  refine ev ?_
  refine WO_nil ?_
  refine thenQ_n ?_
  refine W_seq ?_
  refine W_region ?_
  refine ev ?_
  refine callB ?_
  refine ⟨_, within_fun _ _ _, rfl, ?_⟩
  refine ev ?_
  refine WO_nil ?_
  refine thenQ_n ?_
  refine W_ret ?_
  refine Ends_of (.inr rfl) (ret_okF rfl) (by decide) rfl ?_
  · rfl


end Go.Proofs.YtafjkelehnpfcaaDoor
