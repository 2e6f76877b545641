/- Walks of how programs are copied, and their functions given other numbers. -/
import Derived.Test.YtiigmjlmhmgebaaGhc
import Derived.Test.YtiigmjlmhmgebaaFt
import Derived.Test.YtiigmjlmhmgebaaMc
set_option linter.unusedVariables false
set_option linter.unusedSimpArgs false
set_option maxRecDepth 10000
set_option maxHeartbeats 1000000
namespace Go.Proofs.Ytiigmjlmhmgebaa
open Go.Eng

theorem l1Own_fun (l : List Int) (hl : l.length ≤ 1073741824) : Fun Try.prog 49 [.t (T.ints l)] (tupD [.own (T.ints l)]) := by
  refine Fun.begin tys Try.func49 rfl rfl (N := 6) [(0, .t (T.ints l))] rfl rfl (fun w0 G F0 => ?_)
  refine W_seq ?_
  refine W_region ?_
  refine ev ?_
  refine WO_nil ?_
  refine thenQ_n ?_
  refine W_seq ?_
  refine W_region ?_
  refine WO_buildSlice tys [] rfl rfl (lt_of rfl) rfl rfl rfl rfl rfl (by decide) (by repeat (first | exact PartsOk.nil' | refine PartsOk.cons' rfl (by repeat (first | exact AbsL.nil' | refine AbsL.v' ?_ | refine AbsL.own' ?_ | refine AbsL.none' ?_)) rfl ?_)) (by first | exact List.nodup_nil | exact nodup1 _ | decide | exact nodupB_sound rfl) rfl (by decide) ?_
  refine WO_norm rfl ?_
  refine ev ?_
  first | refine WO_append tys rfl rfl (lt_of rfl) rfl rfl rfl rfl rfl (.own rfl (by first | omega | (simp only [List.length_append]; omega))) rfl (.read (readI l)) (by decide) (by simp; omega) (by decide) rfl ?_ | refine WO_append tys rfl rfl (lt_of rfl) rfl rfl rfl rfl rfl .nil rfl (.read (readI l)) (by decide) (by simp; omega) (by decide) rfl ?_
  refine WO_norm rfl ?_
  refine ev ?_
  refine WO_nil ?_
  refine thenQ_n ?_
  refine W_le (Le.gather (u := 2) (id := 3) rfl rfl (by simp)) ?_
  refine W_ret ?_
  refine Ends_of (.inr rfl) (ret_okF rfl) (by decide) rfl ?_
  · (simp only [take_app, List.take_length, List.nil_append, List.length_nil, Nat.zero_add, List.take_nil]; rfl)

def movT (to : List Int) (t : Tok) : Tok := if t.op = 11 then ⟨t.op, atI to t.n⟩ else t
def movN (to : List Int) (s : Stmt) : Int := if s.kind = 3 then atI to s.n else s.n
def movS (to : List Int) (s : Stmt) : Stmt := ⟨s.kind, movN to s, s.ex.map (movT to), s.thn, s.els⟩
def movF (to : List Int) (f : Func) : Func := ⟨f.params, f.vars, f.body, f.stmts.map (movS to)⟩

theorem l21Moved_fun (f : Func) (to : List Int) (hf : f.ok 1048576) (hs : ∀ x, x ∈ seqL f.stmts → 0 ≤ x ∧ x < to.length) (ht : to.length ≤ 1048576) : Fun Try.prog 22 [.t f.tt, .t (T.ints to)] (tupD [.agg [.t (T.int f.params), .t (T.int f.vars), .own (T.ints f.body), .own (T.Stmts (f.stmts.map (movS to)))]]) := by
  have hl : f.stmts.length ≤ 1048576 := hf.2.1.1
  have hbl : f.body.length ≤ 1048576 := hf.1
  refine Fun.begin tys Try.func22 rfl rfl (N := 77) [(0, .t f.tt), (1, .t (T.ints to))] rfl rfl (fun w0 G F0 => ?_)
  refine W_seq ?_
  refine W_region ?_
  refine WO_box rfl rfl (lt_of rfl) rfl rfl ?_
  refine WO_norm rfl ?_
  refine WO_alloc tys rfl rfl (lt_of rfl) rfl rfl rfl ?_
  refine WO_norm rfl ?_
  refine WO_nil ?_
  refine thenQ_n ?_
  refine W_seq ?_
  refine W_regionGm 9 mixed rfl (by kernel_rfl) (by kernel_rfl) ?_
  iterate 4 (refine QG_ev tys rfl rfl (lt_of rfl) rfl ?_)
  refine QG_norm rfl ?_
  iterate 2 (refine QG_ev tys rfl rfl (lt_of rfl) rfl ?_)
  refine callBG ?_
  refine ⟨_, l1Own_fun _ (by omega), rfl, ?_⟩
  refine QG_struct tys rfl rfl (lt_of rfl) rfl rfl rfl (by kernel_rfl) rfl rfl rfl rfl rfl rfl ?_
  refine QG_alloc tys rfl rfl (lt_of rfl) rfl rfl rfl rfl ?_
  refine QG_nil ?_
  refine ⟨by kernel_rfl, ?_⟩
  refine WO_norm rfl ?_
  refine WO_store tys rfl rfl rfl rfl rfl rfl rfl rfl (lt_of rfl) ?_
  refine WO_norm rfl ?_
  refine WO_nil ?_
  refine thenQ_n ?_
  iterate 2 (refine W_seq ?_)
  refine W_region ?_
  refine WO_norm rfl ?_
  refine WO_le (Le.nilBox (u := 5) (j := 3) 5 rfl rfl) ?_
  refine WO_norm rfl ?_
  refine WO_le (Le.adoptBox (u := 5) (j := 3) (id := 170) rfl rfl rfl) ?_
  refine WO_norm rfl ?_
  refine ev ?_
  refine ev ?_
  refine evE ?_
  refine ev ?_
  refine WO_nil ?_
  refine thenQ_n ?_
  refine W_block ?_
  refine W_loopK (α := Int × Nat × List T) [1, 4, 5, 20, 21] [4] (fun (x : Int × Nat × List T) => [(22, .t (.int (x.1)))]) (fun (x : Int × Nat × List T) => [(5, .box [.t (T.int f.params), .t (T.int f.vars), .own (T.ints f.body), .sl 170 0 (x.2.1)]), (170, .L 5 (x.2.2))]) (fun (x : Int × Nat × List T) => 0 ≤ (x.1) ∧ (x.1) ≤ f.stmts.length ∧ (x.2.1) = (x.2.2).length ∧ (x.2.2) = (f.stmts.take (x.1).toNat).map (fun s => (movS to s).tt)) (fun (x : Int × Nat × List T) => Int.toNat (f.stmts.length - (x.1))) (0, 0, []) ?_ ?_ ?_ (fun x hx => ?_)
  · repeat (first | exact Sub.nil' | refine Sub.cons' rfl ?_ )
  · repeat (first | exact SubM.nil' | refine SubM.cons' rfl ?_ )
  · exact ⟨by omega, by omega, rfl, rfl⟩
  obtain ⟨k, m, xs⟩ := x
  obtain ⟨hk0, hk1, hm, hxs⟩ := hx
  try dsimp only at hk0 hk1 hm hxs ⊢
  refine W_norm rfl ?_
  refine W_seq ?_
  refine W_region ?_
  refine ev ?_
  refine WO_nil ?_
  refine thenQ_n ?_
  refine W_seq ?_
  refine W_cond rfl (fun h1 => ?_) (fun h1 => ?_)
  ·
    try simp only [HS] at h1
    refine W_skip ?_
    refine thenQ_n ?_
    refine W_seq ?_
    refine W_block ?_
    refine W_seq ?_
    refine W_region ?_
    have hso := stmt_ok hf (n := k.toNat) (by omega)
    first | refine WO_idxT tys rfl rfl (lt_of rfl) rfl rfl rfl rfl rfl rfl rfl (by omega) _ (getT _ _ (by omega) (by omega)) ?_ | refine WO_idxS tys rfl rfl (lt_of rfl) rfl rfl rfl rfl rfl rfl rfl rfl (by omega) (by omega) ?_
    first | (refine ev ?_; try refine WO_le (Le.freeze (u := 25) rfl) ?_) | refine WO_loadL tys rfl rfl (lt_of rfl) rfl rfl rfl rfl (getT _ _ (by omega) (by omega)) rfl ?_ | refine WO_loadL tys rfl rfl (lt_of rfl) rfl rfl rfl rfl (getT0 _ _ (by omega) (by omega)) rfl ?_
    refine WO_norm rfl ?_
    refine WO_alloc tys rfl rfl (lt_of rfl) rfl rfl rfl ?_
    refine WO_norm rfl ?_
    refine WO_store tys rfl rfl rfl rfl rfl rfl rfl rfl (lt_of rfl) ?_
    refine WO_norm rfl ?_
    refine WO_nil ?_
    refine thenQ_n ?_
    refine W_seq ?_
    refine W_regionGm 12 mixed rfl (by kernel_rfl) (by kernel_rfl) ?_
    refine QG_ev tys rfl rfl (lt_of rfl) rfl ?_
    refine QG_norm rfl ?_
    iterate 5 (refine QG_ev tys rfl rfl (lt_of rfl) rfl ?_)
    refine callBG ?_
    refine ⟨_, l1Own_fun _ (by omega), rfl, ?_⟩
    refine QG_norm rfl ?_
    iterate 2 (refine QG_ev tys rfl rfl (lt_of rfl) rfl ?_)
    refine callBG ?_
    refine ⟨_, l1Own_fun _ (by omega), rfl, ?_⟩
    refine QG_struct tys rfl rfl (lt_of rfl) rfl rfl rfl (by kernel_rfl) rfl rfl rfl rfl rfl rfl ?_
    refine QG_alloc tys rfl rfl (lt_of rfl) rfl rfl rfl rfl ?_
    refine QG_nil ?_
    refine ⟨by kernel_rfl, ?_⟩
    refine WO_norm rfl ?_
    refine WO_store tys rfl rfl rfl rfl rfl rfl rfl rfl (lt_of rfl) ?_
    refine WO_norm rfl ?_
    refine WO_nil ?_
    refine thenQ_n ?_
    iterate 2 (refine W_seq ?_)
    refine W_region ?_
    iterate 3 (refine ev ?_)
    refine WO_nil ?_
    refine thenQ_n ?_
    refine W_joinN (α := Int) [1, 4, 5, 7, 8, 20, 21, 22, 23, 24, 25, 26, 27, 28, 29, 30, 31, 32, 33, 34, 35, 36, 37, 38, 39] [4, 5, 7, 170] (fun (x : Int) => []) (fun (x : Int) => [(8, .box [.t (T.int (f.stmts[k.toNat]'(by omega)).kind), .t (.int x), .nil, .own (T.ints (f.stmts[k.toNat]'(by omega)).thn), .own (T.ints (f.stmts[k.toNat]'(by omega)).els)])]) (fun (x : Int) => x = movN to (f.stmts[k.toNat]'(by omega))) ?_ (fun nn hx => ?_)
    ·
      refine W_cond rfl (fun h2 => ?_) (fun h2 => ?_)
      ·
        try simp only [HS] at h2
        refine W_region ?_
        have hn := seq_def hs (n := k.toNat) (by omega) h2
        iterate 3 (refine ev ?_)
        first | refine WO_idxT tys rfl rfl (lt_of rfl) rfl rfl rfl rfl rfl rfl rfl (by omega) _ (getT _ _ (by omega) (by omega)) ?_ | refine WO_idxS tys rfl rfl (lt_of rfl) rfl rfl rfl rfl rfl rfl rfl rfl (by omega) (by omega) ?_
        first | refine ev ?_ | refine WO_loadL tys rfl rfl (lt_of rfl) rfl rfl rfl rfl (getT _ _ (by omega) (by omega)) rfl ?_ | refine WO_loadL tys rfl rfl (lt_of rfl) rfl rfl rfl rfl (getT0 _ _ (by omega) (by omega)) rfl ?_
        refine WO_keep [1, 4, 5, 7, 8, 20, 21, 22, 23, 24, 25, 26, 27, 28, 29, 30, 31, 32, 33, 34, 35, 36, 37, 38, 39, 40, 41, 42, 43, 44] rfl ?_
        refine ev ?_
        refine WO_store tys rfl rfl rfl rfl rfl rfl rfl rfl (lt_of rfl) ?_
        refine WO_norm rfl ?_
        refine WO_nil ?_
        refine joinQ_n _ (by (try dsimp only); repeat (first | exact Sub.nil' | refine Sub.cons' rfl ?_)) (by (try dsimp only); repeat (first | exact SubM.nil' | refine SubM.cons' rfl ?_)) ?_
        try dsimp only
        first
        | (rw [movN, if_pos h2, atI_at hn.1 hn.2]; done)
        | (rw [movN, if_neg h2]; done)
      try simp only [HS] at h2
      refine W_skip ?_
      refine joinQ_n _ (by (try dsimp only); repeat (first | exact Sub.nil' | refine Sub.cons' rfl ?_)) (by (try dsimp only); repeat (first | exact SubM.nil' | refine SubM.cons' rfl ?_)) ?_
      try dsimp only
      first
      | (rw [movN, if_pos h2, atI_at hn.1 hn.2]; done)
      | (rw [movN, if_neg h2]; done)
    have hnn := hx
    refine thenQ_n ?_
    iterate 2 (refine W_seq ?_)
    refine W_keep [1, 4, 5, 7, 8, 20, 21, 22, 23, 24, 25, 26, 27, 28, 29, 30, 31, 32, 33, 34, 35, 36, 37, 38, 39] rfl ?_
    refine W_region ?_
    refine WO_norm rfl ?_
    refine WO_le (Le.nilBox (u := 8) (j := 2) 2 rfl rfl) ?_
    refine WO_norm rfl ?_
    refine WO_le (Le.adoptBox (u := 8) (j := 2) (id := 171) rfl rfl rfl) ?_
    refine WO_norm rfl ?_
    refine ev ?_
    refine ev ?_
    refine evE ?_
    refine ev ?_
    refine WO_nil ?_
    refine thenQ_n ?_
    refine W_block ?_
    refine W_loopK (α := Int × Nat × List T) [1, 4, 5, 8, 20, 21, 22, 47, 48] [4, 5, 170] (fun (x : Int × Nat × List T) => [(49, .t (.int (x.1)))]) (fun (x : Int × Nat × List T) => [(8, .box [.t (T.int (f.stmts[k.toNat]'(by omega)).kind), .t (.int nn), .sl 171 0 (x.2.1), .own (T.ints (f.stmts[k.toNat]'(by omega)).thn), .own (T.ints (f.stmts[k.toNat]'(by omega)).els)]), (171, .L 2 (x.2.2))]) (fun (x : Int × Nat × List T) => 0 ≤ (x.1) ∧ (x.1) ≤ (f.stmts[k.toNat]'(by omega)).ex.length ∧ (x.2.1) = (x.2.2).length ∧ (x.2.2) = ((f.stmts[k.toNat]'(by omega)).ex.take (x.1).toNat).map (fun t => (movT to t).tt)) (fun (x : Int × Nat × List T) => Int.toNat ((f.stmts[k.toNat]'(by omega)).ex.length - (x.1))) (0, 0, []) ?_ ?_ ?_ (fun x hx => ?_)
    · repeat (first | exact Sub.nil' | refine Sub.cons' rfl ?_ )
    · repeat (first | exact SubM.nil' | refine SubM.cons' rfl ?_ )
    · exact ⟨by omega, by omega, rfl, rfl⟩
    obtain ⟨j, m2, ys⟩ := x
    obtain ⟨hj0, hj1, hm2, hys⟩ := hx
    try dsimp only at hj0 hj1 hm2 hys ⊢
    refine W_norm rfl ?_
    refine W_seq ?_
    refine W_region ?_
    refine ev ?_
    refine WO_nil ?_
    refine thenQ_n ?_
    refine W_seq ?_
    refine W_cond rfl (fun h2 => ?_) (fun h2 => ?_)
    ·
      try simp only [HS] at h2
      refine W_skip ?_
      refine thenQ_n ?_
      refine W_seq ?_
      refine W_block ?_
      refine W_seq ?_
      refine W_region ?_
      first | refine WO_idxT tys rfl rfl (lt_of rfl) rfl rfl rfl rfl rfl rfl rfl (by omega) _ (getT _ _ (by omega) (by omega)) ?_ | refine WO_idxS tys rfl rfl (lt_of rfl) rfl rfl rfl rfl rfl rfl rfl rfl (by omega) (by omega) ?_
      first | (refine ev ?_; try refine WO_le (Le.freeze (u := 52) rfl) ?_) | refine WO_loadL tys rfl rfl (lt_of rfl) rfl rfl rfl rfl (getT _ _ (by omega) (by omega)) rfl ?_ | refine WO_loadL tys rfl rfl (lt_of rfl) rfl rfl rfl rfl (getT0 _ _ (by omega) (by omega)) rfl ?_
      refine WO_norm rfl ?_
      refine WO_alloc tys rfl rfl (lt_of rfl) rfl rfl rfl ?_
      refine WO_norm rfl ?_
      refine WO_store tys rfl rfl rfl rfl rfl rfl rfl rfl (lt_of rfl) ?_
      refine WO_norm rfl ?_
      refine WO_nil ?_
      refine thenQ_n ?_
      iterate 2 (refine W_seq ?_)
      refine W_region ?_
      iterate 3 (refine ev ?_)
      refine WO_nil ?_
      refine thenQ_n ?_
      refine W_joinN (α := Int) [1, 4, 5, 8, 10, 20, 21, 22, 47, 48, 49, 50, 51, 52, 53, 54, 55] [4, 5, 8, 170, 171] (fun (x : Int) => []) (fun (x : Int) => [(10, .box [.t (T.int ((f.stmts[k.toNat]'(by omega)).ex[j.toNat]'(by omega)).op), .t (.int x)])]) (fun (x : Int) => x = (movT to ((f.stmts[k.toNat]'(by omega)).ex[j.toNat]'(by omega))).n) ?_ (fun tn hx => ?_)
      ·
        refine W_cond rfl (fun h3 => ?_) (fun h3 => ?_)
        ·
          try simp only [HS] at h3
          refine W_keep [1, 4, 5, 8, 10, 20, 21, 22, 47, 48, 49, 50, 51, 52, 53, 54, 55] rfl ?_
          refine W_region ?_
          have hn := seq_tok hs (n := k.toNat) (by omega) (j := j.toNat) (by omega) h3
          iterate 3 (refine ev ?_)
          first | refine WO_idxT tys rfl rfl (lt_of rfl) rfl rfl rfl rfl rfl rfl rfl (by omega) _ (getT _ _ (by omega) (by omega)) ?_ | refine WO_idxS tys rfl rfl (lt_of rfl) rfl rfl rfl rfl rfl rfl rfl rfl (by omega) (by omega) ?_
          first | refine ev ?_ | refine WO_loadL tys rfl rfl (lt_of rfl) rfl rfl rfl rfl (getT _ _ (by omega) (by omega)) rfl ?_ | refine WO_loadL tys rfl rfl (lt_of rfl) rfl rfl rfl rfl (getT0 _ _ (by omega) (by omega)) rfl ?_
          refine ev ?_
          refine WO_store tys rfl rfl rfl rfl rfl rfl rfl rfl (lt_of rfl) ?_
          refine WO_norm rfl ?_
          refine WO_nil ?_
          refine joinQ_n _ (by (try dsimp only); repeat (first | exact Sub.nil' | refine Sub.cons' rfl ?_)) (by (try dsimp only); repeat (first | exact SubM.nil' | refine SubM.cons' rfl ?_)) ?_
          try dsimp only
          first
          | (rw [movT, if_pos h3, atI_at hn.1 hn.2]; done)
          | (rw [movT, if_neg h3]; done)
        try simp only [HS] at h3
        refine W_skip ?_
        refine joinQ_n _ (by (try dsimp only); repeat (first | exact Sub.nil' | refine Sub.cons' rfl ?_)) (by (try dsimp only); repeat (first | exact SubM.nil' | refine SubM.cons' rfl ?_)) ?_
        try dsimp only
        first
        | (rw [movT, if_pos h3, atI_at hn.1 hn.2]; done)
        | (rw [movT, if_neg h3]; done)
      have htn := hx
      refine thenQ_n ?_
      refine W_keep [1, 4, 5, 8, 10, 20, 21, 22, 47, 48, 49, 50, 51, 52, 53, 54, 55] rfl ?_
      refine W_region ?_
      refine ev ?_
      refine ev ?_
      first | (refine ev ?_; try refine WO_le (Le.freeze (u := 64) rfl) ?_) | refine WO_loadMove tys rfl rfl (lt_of rfl) rfl rfl rfl rfl rfl rfl ?_
      refine WO_norm rfl ?_
      refine WO_buildSlice tys [.agg [T.int ((f.stmts[k.toNat]'(by omega)).ex[j.toNat]'(by omega)).op, T.int tn]] rfl rfl (lt_of rfl) rfl rfl rfl rfl rfl (lt_of rfl) (by repeat (first | exact PartsOk.nil' | refine PartsOk.cons' rfl (by repeat (first | exact AbsL.nil' | refine AbsL.v' ?_ | refine AbsL.own' ?_ | refine AbsL.none' ?_)) rfl ?_)) (by first | exact List.nodup_nil | exact nodup1 _ | decide | exact nodupB_sound rfl) rfl (by decide) ?_
      refine WO_norm rfl ?_
      first | refine WO_append tys rfl rfl (lt_of rfl) rfl rfl rfl rfl rfl (.own rfl (by first | omega | (simp only [List.length_append]; omega))) rfl (.own rfl (by first | decide | omega)) (by decide) (by simp only [List.length_take, List.length_cons, List.length_nil]; rw [hys, List.length_map, List.length_take]; omega) (by decide) rfl ?_ | refine WO_append tys rfl rfl (lt_of rfl) rfl rfl rfl rfl rfl .nil rfl (.own rfl (by first | decide | omega)) (by decide) (by simp only [List.length_take, List.length_cons, List.length_nil]; rw [hys, List.length_map, List.length_take]; omega) (by decide) rfl ?_
      refine WO_norm rfl ?_
      refine ev ?_
      refine WO_store tys rfl rfl rfl rfl rfl rfl rfl rfl (lt_of rfl) ?_
      refine WO_norm rfl ?_
      refine WO_nil ?_
      refine inBlk_n ?_
      refine thenQ_n ?_
      refine W_keep [1, 4, 5, 8, 10, 20, 21, 22, 47, 48, 49, 50, 51, 52, 53, 54, 55, 62, 63, 64, 65, 66, 67] rfl ?_
      refine W_region ?_
      refine evI ?_
      refine ev ?_
      refine WO_nil ?_
      refine loopQ_n (_, _, _) (by (try dsimp only); repeat (first | exact Sub.nil' | refine Sub.cons' rfl ?_ )) (by (try dsimp only); repeat (first | exact SubM.nil' | refine SubM.cons' rfl ?_ )) ?_ ?_
      · try dsimp only
        have e : (movT to ((f.stmts[k.toNat]'(by omega)).ex[j.toNat]'(by omega))).tt = .agg [T.int ((f.stmts[k.toNat]'(by omega)).ex[j.toNat]'(by omega)).op, T.int tn] := by
         rw [htn]
         unfold movT
         split <;> rfl
        subst hm2
        refine ⟨by omega, by omega, by simp, ?_⟩
        rw [List.take_length, hys, take_at hj0 (by omega), List.map_append, List.map_cons, List.map_nil, e]
        rfl
      · (show Int.toNat _ < Int.toNat _); omega
    try simp only [HS] at h2
    refine W_exit ?_
    refine thenQ_e ?_
    refine loopQ_e ?_
    refine inBlk_y ?_
    refine thenQ_n ?_
    refine W_region ?_
    refine ev ?_
    refine ev ?_
    refine WO_norm rfl ?_
    refine WO_le (Le.gatherBox (u := 8) (j := 2) (id := 171) rfl rfl rfl (by omega) rfl) ?_
    refine WO_norm rfl ?_
    first | (refine ev ?_; try refine WO_le (Le.freeze (u := 71) rfl) ?_) | refine WO_loadMove tys rfl rfl (lt_of rfl) rfl rfl rfl rfl rfl rfl ?_
    refine WO_norm rfl ?_
    refine WO_buildSlice tys [.agg [T.int (f.stmts[k.toNat]'(by omega)).kind, T.int nn, .list 2 (ys.take m2), T.ints (f.stmts[k.toNat]'(by omega)).thn, T.ints (f.stmts[k.toNat]'(by omega)).els]] rfl rfl (lt_of rfl) rfl rfl rfl rfl rfl (lt_of rfl) (by repeat (first | exact PartsOk.nil' | refine PartsOk.cons' rfl (by repeat (first | exact AbsL.nil' | refine AbsL.v' ?_ | refine AbsL.own' ?_ | refine AbsL.none' ?_)) rfl ?_)) (by first | exact List.nodup_nil | exact nodup1 _ | decide | exact nodupB_sound rfl) rfl (by decide) ?_
    refine WO_norm rfl ?_
    first | refine WO_append tys rfl rfl (lt_of rfl) rfl rfl rfl rfl rfl (.own rfl (by first | omega | (simp only [List.length_append]; omega))) rfl (.own rfl (by first | decide | omega)) (by decide) (by simp only [List.length_take, List.length_cons, List.length_nil]; rw [hxs, List.length_map, List.length_take]; omega) (by decide) rfl ?_ | refine WO_append tys rfl rfl (lt_of rfl) rfl rfl rfl rfl rfl .nil rfl (.own rfl (by first | decide | omega)) (by decide) (by simp only [List.length_take, List.length_cons, List.length_nil]; rw [hxs, List.length_map, List.length_take]; omega) (by decide) rfl ?_
    refine WO_norm rfl ?_
    refine ev ?_
    refine WO_store tys rfl rfl rfl rfl rfl rfl rfl rfl (lt_of rfl) ?_
    refine WO_norm rfl ?_
    refine WO_nil ?_
    refine inBlk_n ?_
    refine thenQ_n ?_
    refine W_keep [1, 4, 5, 8, 20, 21, 22, 47, 48, 49, 50, 69, 70, 71, 72, 73, 74] rfl ?_
    refine W_region ?_
    refine evI ?_
    refine ev ?_
    refine WO_nil ?_
    refine loopQ_n (_, _, _) (by (try dsimp only); repeat (first | exact Sub.nil' | refine Sub.cons' rfl ?_ )) (by (try dsimp only); repeat (first | exact SubM.nil' | refine SubM.cons' rfl ?_ )) ?_ ?_
    · try dsimp only
      have e : (movS to (f.stmts[k.toNat]'(by omega))).tt = .agg [T.int (f.stmts[k.toNat]'(by omega)).kind, T.int nn, .list 2 (ys.take m2), T.ints (f.stmts[k.toNat]'(by omega)).thn, T.ints (f.stmts[k.toNat]'(by omega)).els] := by
       rw [hm2, List.take_length, hys, take_end (l := (f.stmts[k.toNat]'(by omega)).ex) (k := j) (by omega), hnn]
       show T.agg [_, _, T.list 2 (List.map Tok.tt (List.map (movT to) _)), _, _] = _
       rw [List.map_map]
       rfl
      subst hm
      refine ⟨by omega, by omega, by simp, ?_⟩
      rw [List.take_length, hxs, take_at hk0 (by omega), List.map_append, List.map_cons, List.map_nil, e]
      rfl
    · (show Int.toNat _ < Int.toNat _); omega
  try simp only [HS] at h1
  refine W_exit ?_
  refine thenQ_e ?_
  refine loopQ_e ?_
  refine inBlk_y ?_
  refine thenQ_n ?_
  refine W_seq ?_
  refine W_region ?_
  refine WO_norm rfl ?_
  refine WO_le (Le.gatherBox (u := 5) (j := 3) (id := 170) rfl rfl rfl (by omega) rfl) ?_
  refine WO_norm rfl ?_
  first | (refine ev ?_; try refine WO_le (Le.freeze (u := 76) rfl) ?_) | refine WO_loadMove tys rfl rfl (lt_of rfl) rfl rfl rfl rfl rfl rfl ?_
  refine WO_norm rfl ?_
  refine WO_store tys rfl rfl rfl rfl rfl rfl rfl rfl (lt_of rfl) ?_
  refine WO_norm rfl ?_
  refine WO_nil ?_
  refine thenQ_n ?_
  refine W_ret ?_
  refine Ends_of (.inr rfl) (ret_okF rfl) (by decide) rfl ?_
  · rw [hm, List.take_length, hxs, take_end (by omega)]
    show [D.agg [_, _, _, D.own (.list 5 _)]] = [D.agg [_, _, _, D.own (.list 5 (List.map Stmt.tt (List.map (movS to) f.stmts)))]]
    rw [List.map_map]
    rfl

end Go.Proofs.Ytiigmjlmhmgebaa
