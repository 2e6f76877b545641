/- Walks: an instruction's text; an instruction read from a text, the program's way. -/
import Derived.Test.YtafjkelehnpfcaaDoorXe
import Derived.Lib.ItoaLen
set_option linter.unusedVariables false
set_option linter.unusedSimpArgs false
set_option maxRecDepth 10000
set_option maxHeartbeats 1000000
namespace Go.Proofs.YtafjkelehnpfcaaDoor
open Go.Eng

def wordI (op : Int) : Tx := wordsL.getD op.toNat []
noncomputable def insTx (i : Ins) : Tx := if hasNB i.op then wordI i.op ++ [32] ++ Lib.itoa i.n else wordI i.op
theorem wordI_len {op : Int} : (wordI op).length ≤ 7 := by
  unfold wordI
  have h : ∀ w, w ∈ wordsL → w.length ≤ 7 := by decide
  rw [List.getD_eq_getElem?_getD]
  cases hh : wordsL[op.toNat]? with
  | none => simp
  | some w => exact h w (List.mem_of_getElem? hh)
theorem wordsV_at {k : Int} (h0 : 0 ≤ k) (h1 : k < 19) : wordsV[k.toNat * 1]? = some (.string ⟨⟨wordI k⟩⟩) := by
  have h2 : k.toNat < wordsL.length := by show k.toNat < 19; omega
  rw [Nat.mul_one]
  unfold wordsV wordI
  rw [List.getElem?_map, List.getElem?_eq_getElem h2, List.getD_eq_getElem?_getD, List.getElem?_eq_getElem h2]
  rfl

theorem insText_fun (i : Ins) (h0 : 0 ≤ i.op) (h1' : i.op < 19) (h2' : -9223372036854775808 ≤ i.n) (h3' : i.n ≤ 9223372036854775807) : FunL Tryd.prog Lad 52 [.t i.tt] (tupD [.t (T.str (insTx i))]) := by
  have hwl := wordI_len (op := i.op)
  have hil := Lib.itoa_length_le i.n h2' h3'
  refine FunL.begin LadS tys Tryd.func52 rfl rfl (N := 20) [(0, .t i.tt)] rfl rfl (fun w0 G F0 hL => ?_)
  refine W_seq ?_
  refine W_region ?_
  refine WO_box rfl rfl (lt_of rfl) rfl rfl ?_
  refine WO_norm rfl ?_
  refine ev ?_
  refine WO_nil ?_
  refine thenQ_n ?_
  iterate 2 (refine W_seq ?_)
  refine W_region ?_
  refine ev ?_
  refine ev ?_
  refine callB ?_
  refine ⟨_, hasNI_fun _, rfl, ?_⟩
  refine ev ?_
  refine WO_nil ?_
  refine thenQ_n ?_
  refine W_cond rfl (fun h1 => ?_) (fun h1 => ?_)
  ·
    try simp only [HS] at h1
    refine W_seq ?_
    refine W_region ?_
    refine ev ?_
    refine ev ?_
    refine WO_gIdx (e := 9) (len := 19) tys rfl rfl (lt_of rfl) rfl (by kernel_rfl) rfl rfl (by omega) (by omega) ?_
    refine WO_keep [1, 2, 9] rfl ?_
    refine WO_gLoad hL tys (wordsAt) rfl rfl (lt_of rfl) rfl rfl rfl rfl (wordsV_at (by omega) (by omega)) rfl ?_
    refine ev ?_
    refine WO_nil ?_
    refine thenQ_n ?_
    refine W_ret ?_
    refine thenQ_r ?_
    refine Ends_of (.inr rfl) (ret_okF rfl) (by decide) rfl ?_
    · simp_all [insTx]
  try simp only [HS] at h1
  refine W_skip ?_
  refine thenQ_n ?_
  refine W_seq ?_
  refine W_regionD mixed (by kernel_rfl) ?_
  refine evQ ?_
  refine QL_norm rfl ?_
  refine evQ ?_
  refine QL_gIdx (e := 9) (len := 19) tys rfl rfl (lt_of rfl) rfl (by kernel_rfl) rfl rfl (by omega) (by omega) ?_
  refine QL_gLoad hL tys (wordsAt) rfl rfl (lt_of rfl) rfl rfl rfl rfl (wordsV_at (by omega) (by omega)) rfl ?_
  refine QL_binW rfl rfl (lt_of rfl) rfl rfl rfl (binStrAdd (by first | (simp; omega) | (simp only [List.length_append]; simp; omega))) rfl ?_
  refine evQ ?_
  refine evQ ?_
  refine QL_norm rfl ?_
  refine callLBQ hL ?_
  refine ⟨_, itoa_fun _ (by omega) (by omega), rfl, ?_⟩
  refine QL_binW rfl rfl (lt_of rfl) rfl rfl rfl (binStrAdd (by first | (simp; omega) | (simp only [List.length_append]; simp; omega))) rfl ?_
  refine evQ ?_
  refine QL_nil ?_
  refine thenQ_n ?_
  refine W_ret ?_
  refine Ends_of (.inr rfl) (ret_okF rfl) (by decide) rfl ?_
  · simp_all [insTx]

theorem idxT_bd {w : Tx} : ∀ {l : List Tx} {k : Int}, idxT w l k = -1 ∨ (k ≤ idxT w l k ∧ idxT w l k < k + l.length)
  | [], k => .inl rfl
  | x :: l, k => by
    rw [idxT]
    split
    · right; simp; omega
    · rcases idxT_bd (w := w) (l := l) (k := k + 1) with h | h
      · exact .inl h
      · right; simp; omega
theorem cut_len {s sep : Tx} : (Lib.cut s sep).2.1.length ≤ s.length := by
  unfold Lib.cut
  split
  · simp
  · simp
noncomputable def isErr (s : Tx) : Bool := match Lib.atoiAll s with
  | .ok _ => false
  | _ => true
theorem atoiIs_err {s : Tx} {x : Int × Value} (h : AtoiIs s x) : (x.2 = .nilIface ∧ isErr s = false) ∨ (∃ u q, x.2 = .iface u q) ∧ isErr s = true := by
  rcases h with ⟨h1, h2⟩ | ⟨h1, h2⟩
  · exact .inl ⟨h1, by unfold isErr; rw [h2]⟩
  · refine .inr ⟨h1, ?_⟩
    unfold isErr
    cases ha : Lib.atoiAll s with
    | ok v => exact absurd ha (h2 v)
    | _ => rfl
theorem insB_bd {i : Ins} (h : insB i = true) : 0 ≤ i.op ∧ i.op < 19 ∧ -9223372036854775808 ≤ i.n ∧ i.n ≤ 9223372036854775807 := by
  unfold insB hasNB at h
  grind
def numA (c : Tx × Tx × Bool) : Option Int := if c.2.2 then (match Lib.atoiAll c.2.1 with
  | .ok n => some n
  | _ => none) else some 0
noncomputable def insA (s : Tx) : Ins × Bool := match numA (Lib.cut s [32]) with
  | none => (⟨0, 0⟩, false)
  | some n => if insB ⟨idxT (Lib.cut s [32]).1 (wordsL.drop 1) 0 + 1, n⟩ && decide (insTx ⟨idxT (Lib.cut s [32]).1 (wordsL.drop 1) 0 + 1, n⟩ = s) then (⟨idxT (Lib.cut s [32]).1 (wordsL.drop 1) 0 + 1, n⟩, true) else (⟨0, 0⟩, false)
theorem numA_ok {c : Tx × Tx × Bool} {n : Int} (h : c.2.2 = true) (h2 : Lib.atoiAll c.2.1 = .ok n) : numA c = some n := by
  unfold numA; rw [if_pos h, h2]
theorem numA_no {c : Tx × Tx × Bool} (h : c.2.2 = false) : numA c = some 0 := by
  unfold numA; rw [if_neg (by rw [h]; decide)]
theorem numA_err {c : Tx × Tx × Bool} (h : c.2.2 = true) (h2 : isErr c.2.1 = true) : numA c = none := by
  unfold numA isErr at *
  rw [if_pos h]
  split at h2
  · cases h2
  · rfl
theorem wordsRel (w : World) (F : Nat → Prop) : RelL w F (wordsV.drop (1 : Int).toNat) ((wordsL.drop 1).map T.str) := by
  unfold wordsV
  show RelL w F ((wordsL.map _).drop 1) _
  rw [← List.map_drop]
  generalize wordsL.drop 1 = l
  induction l with
  | nil => exact .nil
  | cons x l ih => exact .v rfl ih
theorem strs_cells {l : List Tx} : ∀ x, x ∈ l.map T.str → T.cells x = [x] := by
  intro x h
  obtain ⟨y, _, rfl⟩ := List.mem_map.1 h
  rfl

theorem implReadIns_fun (s : Tx) (hs : s.length ≤ 1048576) : FunL Tryd.prog Lad 31 [.t (T.str s)] (tupD [.agg [.t (T.int (insA s).1.op), .t (T.int (insA s).1.n)], .t (.bool (insA s).2)]) := by
  have hib := idxT_bd (w := (Lib.cut s [32]).1) (l := wordsL.drop 1) (k := 0)
  have hw18 : (wordsL.drop 1).length = 18 := rfl
  have hcl := cut_len (s := s) (sep := [32])
  refine FunL.begin LadS tys Tryd.func31 rfl rfl (N := 43) [(0, .t (T.str s))] rfl rfl (fun w0 G F0 hL => ?_)
  refine W_seq ?_
  refine W_region ?_
  refine WO_alloc tys rfl rfl (lt_of rfl) rfl rfl rfl ?_
  refine WO_norm rfl ?_
  refine ev ?_
  refine WO_nil ?_
  refine thenQ_n ?_
  refine W_seq ?_
  refine W_region ?_
  refine ev ?_
  refine callLB hL ?_
  refine ⟨_, cut_fun s [32] hs, rfl, ?_⟩
  refine WO_norm rfl ?_
  refine ev ?_
  first | refine WO_evF tys rfl rfl (lt_of rfl) (d := .t _) rfl ?_ | (refine WO_extract rfl rfl (lt_of rfl) rfl rfl rfl rfl ?_; first | refine WO_le (Le.adoptE (u := 13) 13 rfl (by first | exact lenN | exact rfl)) ?_ | skip)
  refine WO_norm rfl ?_
  first | refine WO_evF tys rfl rfl (lt_of rfl) (d := .t _) rfl ?_ | (refine WO_extract rfl rfl (lt_of rfl) rfl rfl rfl rfl ?_; first | refine WO_le (Le.adoptE (u := 14) 14 rfl (by first | exact lenN | exact rfl)) ?_ | skip)
  refine WO_norm rfl ?_
  first | refine WO_evF tys rfl rfl (lt_of rfl) (d := .t _) rfl ?_ | (refine WO_extract rfl rfl (lt_of rfl) rfl rfl rfl rfl ?_; first | refine WO_le (Le.adoptE (u := 15) 15 rfl (by first | exact lenN | exact rfl)) ?_ | skip)
  refine WO_norm rfl ?_
  refine ev ?_
  refine WO_keep [0, 2, 3, 4, 14, 15] rfl ?_
  refine ev ?_
  refine ev ?_
  refine WO_nil ?_
  refine thenQ_n ?_
  refine W_seq ?_
  refine W_region ?_
  refine WO_gSlice (e := 9) (len := 19) hL tys (wordsAt) rfl rfl (lt_of rfl) rfl (by kernel_rfl) rfl rfl rfl (by omega) (by omega) rfl rfl (wordsRel) (strs_cells) ?_
  refine ev ?_
  refine callB ?_
  refine ⟨_, idxT_fun (wordsL.drop 1) (Lib.cut s [32]).1 (by decide), rfl, ?_⟩
  refine evI ?_
  refine WO_struct tys rfl rfl (lt_of rfl) rfl rfl rfl (by kernel_rfl) rfl rfl rfl rfl rfl rfl ?_
  refine WO_alloc tys rfl rfl (lt_of rfl) rfl rfl rfl ?_
  refine WO_norm rfl ?_
  refine WO_store tys rfl rfl rfl rfl rfl rfl rfl rfl (lt_of rfl) ?_
  refine WO_norm rfl ?_
  refine WO_keep [0, 2, 3, 5, 6, 7] rfl ?_
  refine WO_nil ?_
  refine thenQ_n ?_
  iterate 2 (refine W_seq ?_)
  refine W_region ?_
  refine ev ?_
  refine WO_nil ?_
  refine thenQ_n ?_
  refine W_joinN (α := Int) [0, 2, 3, 7] [2] (fun (x : Int) => []) (fun (x : Int) => [(7, .box [.t (.int (idxT (Lib.cut s [32]).1 (wordsL.drop 1) 0 + 1)), .t (.int x)])]) (fun (x : Int) => numA (Lib.cut s [32]) = some x) ?_ (fun n hx => ?_)
  ·
    refine W_cond rfl (fun h1 => ?_) (fun h1 => ?_)
    ·
      try simp only [HS] at h1
      refine W_seq ?_
      refine W_region ?_
      refine ev ?_
      refine WO_callLX rfl rfl (lt_of rfl) rfl rfl (by repeat (first | exact ResL.done | exact ResL.imms (by first | rfl | assumption) | refine ResL.t ?_ | refine ResL.own ?_ | refine ResL.slA rfl (by first | rfl | (simp; done) | (simp; omega)) ?_ | refine ResL.sl rfl (by first | omega | (simp; done) | (simp; omega)) ?_ | refine ResL.rp ?_ | refine ResL.clo ?_ ?_ | refine ResL.aggT ?_ ?_ | refine ResL.ref rfl ?_ ?_ | refine ResL.nil' ?_ | refine ResL.nil 1 ?_)) hL (atoi_fun (Lib.cut s [32]).2.1 (by omega)) (fun _ => rfl) (fun ⟨n, er⟩ hat => ?_)
      refine WO_norm rfl ?_
      refine ev ?_
      first | refine WO_evF tys rfl rfl (lt_of rfl) (d := .t _) rfl ?_ | (refine WO_extract rfl rfl (lt_of rfl) rfl rfl rfl rfl ?_; first | refine WO_le (Le.adoptE (u := 25) 25 rfl (by first | exact lenN | exact rfl)) ?_ | skip)
      refine WO_norm rfl ?_
      first | refine WO_evF tys rfl rfl (lt_of rfl) (d := .t _) rfl ?_ | (refine WO_extract rfl rfl (lt_of rfl) rfl rfl rfl rfl ?_; first | refine WO_le (Le.adoptE (u := 26) 26 rfl (by first | exact lenN | exact rfl)) ?_ | skip)
      refine WO_norm rfl ?_
      refine ev ?_
      refine ev ?_
      refine WO_nil ?_
      refine thenQ_n ?_
      iterate 2 (refine W_seq ?_)
      refine W_keep [0, 2, 3, 7, 8, 9] rfl ?_
      refine W_region ?_
      refine ev ?_
      refine WO_neqNil rfl rfl (lt_of rfl) rfl (by kernel_rfl) rfl (atoiIs_err hat) ?_
      refine WO_nil ?_
      refine thenQ_n ?_
      refine W_cond rfl (fun h2 => ?_) (fun h2 => ?_)
      ·
        try simp only [HS] at h2
        refine W_seq ?_
        refine W_region ?_
        refine WO_struct tys rfl rfl (lt_of rfl) rfl rfl rfl (by kernel_rfl) rfl rfl rfl rfl rfl rfl ?_
        refine WO_store tys rfl rfl rfl rfl rfl rfl rfl rfl (lt_of rfl) ?_
        refine WO_norm rfl ?_
        refine ev ?_
        refine WO_nil ?_
        refine thenQ_n ?_
        refine W_ret ?_
        refine thenQ_r ?_
        refine joinQ_r ?_
        refine thenQ_r ?_
        refine Ends_of (.inr rfl) (ret_okF rfl) (by decide) rfl ?_
        · first
          | (simp only [insA, numA_err (c := Lib.cut s [32]) (by assumption) (by assumption)]; done)
          | (simp only [insA, hnum]; simp_all; done)
      try simp only [HS] at h2
      refine W_skip ?_
      refine thenQ_n ?_
      refine W_region ?_
      refine ev ?_
      refine ev ?_
      refine WO_store tys rfl rfl rfl rfl rfl rfl rfl rfl (lt_of rfl) ?_
      refine WO_norm rfl ?_
      refine WO_nil ?_
      refine joinQ_n _ (by (try dsimp only); repeat (first | exact Sub.nil' | refine Sub.cons' rfl ?_)) (by (try dsimp only); repeat (first | exact SubM.nil' | refine SubM.cons' rfl ?_)) ?_
      try dsimp only
      first
      | (rcases hat with ⟨h8, h9⟩ | ⟨⟨u, q, h8⟩, h9⟩; exact numA_ok (by assumption) h9; exfalso; have hz := atoiIs_err (s := (Lib.cut s [32]).2.1) (x := (n, er)) (.inr ⟨⟨u, q, h8⟩, h9⟩); simp_all)
      | exact numA_no (by assumption)
    try simp only [HS] at h1
    refine W_skip ?_
    refine joinQ_n _ (by (try dsimp only); repeat (first | exact Sub.nil' | refine Sub.cons' rfl ?_)) (by (try dsimp only); repeat (first | exact SubM.nil' | refine SubM.cons' rfl ?_)) ?_
    try dsimp only
    first
    | (rcases hat with ⟨h8, h9⟩ | ⟨⟨u, q, h8⟩, h9⟩; exact numA_ok (by assumption) h9; exfalso; have hz := atoiIs_err (s := (Lib.cut s [32]).2.1) (x := (n, er)) (.inr ⟨⟨u, q, h8⟩, h9⟩); simp_all)
    | exact numA_no (by assumption)
  have hnum := hx
  refine thenQ_n ?_
  iterate 2 (refine W_seq ?_)
  refine W_keep [0, 2, 3, 7] rfl ?_
  refine W_region ?_
  first | (refine ev ?_; try refine WO_le (Le.freeze (u := 32) rfl) ?_) | refine WO_loadMove tys rfl rfl (lt_of rfl) rfl rfl rfl rfl rfl rfl ?_
  refine WO_norm rfl ?_
  refine callB ?_
  refine ⟨_, isIns_fun ⟨_, _⟩, rfl, ?_⟩
  refine ev ?_
  refine ev ?_
  refine WO_guard rfl rfl rfl rfl (lt_of rfl) (fun h1 => ?_) (fun h1 => ?_)
  rotate_left
  ·
    try simp only [HS] at h1
    iterate 3 (refine WO_guardN rfl rfl rfl rfl rfl (lt_of rfl) ?_)
    refine ev ?_
    refine WO_nil ?_
    refine thenQ_n ?_
    refine W_condT rfl ?_
    refine W_seq ?_
    refine W_keep [2, 3, 7] rfl ?_
    refine W_region ?_
    refine WO_struct tys rfl rfl (lt_of rfl) rfl rfl rfl (by kernel_rfl) rfl rfl rfl rfl rfl rfl ?_
    refine WO_store tys rfl rfl rfl rfl rfl rfl rfl rfl (lt_of rfl) ?_
    refine WO_norm rfl ?_
    refine ev ?_
    refine WO_nil ?_
    refine thenQ_n ?_
    refine W_ret ?_
    refine thenQ_r ?_
    refine Ends_of (.inr rfl) (ret_okF rfl) (by decide) rfl ?_
    · first
      | (simp only [insA, numA_err (c := Lib.cut s [32]) (by assumption) (by assumption)]; done)
      | (simp only [insA, hnum]; simp_all; done)
  try simp only [HS] at h1
  first | (refine ev ?_; try refine WO_le (Le.freeze (u := 36) rfl) ?_) | refine WO_loadMove tys rfl rfl (lt_of rfl) rfl rfl rfl rfl rfl rfl ?_
  refine WO_norm rfl ?_
  refine WO_guardY rfl rfl rfl rfl (lt_of rfl) ?_
  refine callLB hL ?_
  refine ⟨_, insText_fun ⟨_, _⟩ (insB_bd (by assumption)).1 (insB_bd (by assumption)).2.1 (insB_bd (by assumption)).2.2.1 (insB_bd (by assumption)).2.2.2, rfl, ?_⟩
  refine WO_norm rfl ?_
  refine WO_guardY rfl rfl rfl rfl (lt_of rfl) ?_
  refine ev ?_
  refine WO_guardY rfl rfl rfl rfl (lt_of rfl) ?_
  refine WO_binW rfl rfl (lt_of rfl) rfl rfl rfl binStrNe rfl ?_
  refine ev ?_
  refine WO_keep [2, 3, 7, 40] rfl ?_
  refine WO_nil ?_
  refine thenQ_n ?_
  refine W_cond rfl (fun h2 => ?_) (fun h2 => ?_)
  ·
    try simp only [HS] at h2
    refine W_seq ?_
    refine W_region ?_
    refine WO_struct tys rfl rfl (lt_of rfl) rfl rfl rfl (by kernel_rfl) rfl rfl rfl rfl rfl rfl ?_
    refine WO_store tys rfl rfl rfl rfl rfl rfl rfl rfl (lt_of rfl) ?_
    refine WO_norm rfl ?_
    refine ev ?_
    refine WO_nil ?_
    refine thenQ_n ?_
    refine W_ret ?_
    refine thenQ_r ?_
    refine Ends_of (.inr rfl) (ret_okF rfl) (by decide) rfl ?_
    · first
      | (simp only [insA, numA_err (c := Lib.cut s [32]) (by assumption) (by assumption)]; done)
      | (simp only [insA, hnum]; simp_all; done)
  try simp only [HS] at h2
  refine W_skip ?_
  refine thenQ_n ?_
  refine W_seq ?_
  refine W_region ?_
  first | (refine ev ?_; try refine WO_le (Le.freeze (u := 42) rfl) ?_) | refine WO_loadMove tys rfl rfl (lt_of rfl) rfl rfl rfl rfl rfl rfl ?_
  refine WO_norm rfl ?_
  refine WO_store tys rfl rfl rfl rfl rfl rfl rfl rfl (lt_of rfl) ?_
  refine WO_norm rfl ?_
  refine ev ?_
  refine WO_nil ?_
  refine thenQ_n ?_
  refine W_ret ?_
  refine Ends_of (.inr rfl) (ret_okF rfl) (by decide) rfl ?_
  · first
    | (simp only [insA, numA_err (c := Lib.cut s [32]) (by assumption) (by assumption)]; done)
    | (simp only [insA, hnum]; simp_all; done)
end Go.Proofs.YtafjkelehnpfcaaDoor
