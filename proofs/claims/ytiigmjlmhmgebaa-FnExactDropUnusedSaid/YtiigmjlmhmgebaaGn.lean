/- The walk of how programs' functions are given other numbers, in place. -/
import Derived.Test.YtiigmjlmhmgebaaGm
import Derived.Test.YtiigmjlmhmgebaaMc
set_option linter.unusedVariables false
set_option linter.unusedSimpArgs false
set_option maxRecDepth 10000
set_option maxHeartbeats 1000000
namespace Go.Proofs.Ytiigmjlmhmgebaa
open Go.Eng

theorem cellsF (l : List Func) : ∀ x, x ∈ l.map Func.tt → (T.cells x).length = 4 := by
  intro x hx; obtain ⟨t, _, rfl⟩ := List.mem_map.1 hx; rfl
theorem cellsS (l : List Stmt) : ∀ x, x ∈ l.map Stmt.tt → (T.cells x).length = 5 := by
  intro x hx; obtain ⟨t, _, rfl⟩ := List.mem_map.1 hx; rfl
theorem cellsT (l : List Tok) : ∀ x, x ∈ l.map Tok.tt → (T.cells x).length = 2 := by
  intro x hx; obtain ⟨t, _, rfl⟩ := List.mem_map.1 hx; rfl
def flF (to : List Int) (l : List Func) (k : Nat) : List T := ((mixL (movF to) l k).map Func.tt).flatMap T.cells
def flS (to : List Int) (l : List Stmt) (k : Nat) : List T := ((mixL (movS to) l k).map Stmt.tt).flatMap T.cells
def flT (to : List Int) (l : List Tok) (k : Nat) : List T := ((mixL (movT to) l k).map Tok.tt).flatMap T.cells
theorem flF_len (to : List Int) (l : List Func) (k : Nat) : (flF to l k).length = l.length * 4 := by rw [flF, flat_length (cellsF _), List.length_map, mixL_length]
theorem flS_len (to : List Int) (l : List Stmt) (k : Nat) : (flS to l k).length = l.length * 5 := by rw [flS, flat_length (cellsS _), List.length_map, mixL_length]
theorem flT_len (to : List Int) (l : List Tok) (k : Nat) : (flT to l k).length = l.length * 2 := by rw [flT, flat_length (cellsT _), List.length_map, mixL_length]
theorem mapAt {α β : Type} {f : α → β} {l : List α} {k : Nat} {x : α} (h : l[k]? = some x) : (l.map f)[k]? = some (f x) := by rw [List.getElem?_map, h]; rfl
theorem flF_at (to : List Int) (l : List Func) {k : Nat} (h : k < l.length) {j : Nat} (hj : j < 4) : (flF to l k)[k * 4 + j]? = (T.cells (l[k]).tt)[j]? := flat_atc (cellsF _) (mapAt (mixL_at _ _ h)) hj
theorem flS_at (to : List Int) (l : List Stmt) {k : Nat} (h : k < l.length) {j : Nat} (hj : j < 5) : (flS to l k)[k * 5 + j]? = (T.cells (l[k]).tt)[j]? := flat_atc (cellsS _) (mapAt (mixL_at _ _ h)) hj
theorem flT_at (to : List Int) (l : List Tok) {k : Nat} (h : k < l.length) {j : Nat} (hj : j < 2) : (flT to l k)[k * 2 + j]? = (T.cells (l[k]).tt)[j]? := flat_atc (cellsT _) (mapAt (mixL_at _ _ h)) hj
theorem flF_next (to : List Int) (l : List Func) {k : Nat} (h : k < l.length) : (flF to l k).set (k * 4 + 3) (T.Stmts ((l[k]).stmts.map (movS to))) = flF to l (k + 1) := by
  unfold flF
  rw [← mixL_set _ _ h, List.map_set]
  exact flat_setc (cellsF _) (mapAt (mixL_at _ _ h)) (by decide) rfl
theorem flS_next (to : List Int) (l : List Stmt) {k : Nat} (h : k < l.length) : ((flS to l k).set (k * 5 + 1) (T.int (movN to l[k]))).set (k * 5 + 2) (T.Toks ((l[k]).ex.map (movT to))) = flS to l (k + 1) := by
  unfold flS
  rw [← mixL_set _ _ h, List.map_set]
  have h1 := flat_setc (cellsS (mixL (movS to) l k)) (mapAt (mixL_at _ _ h)) (j := 1) (y := .agg [T.int (l[k]).kind, T.int (movN to l[k]), T.Toks (l[k]).ex, T.ints (l[k]).thn, T.ints (l[k]).els]) (t := T.int (movN to l[k])) (by decide) rfl
  rw [h1]
  have hw : ∀ x, x ∈ ((mixL (movS to) l k).map Stmt.tt).set k (.agg [T.int (l[k]).kind, T.int (movN to l[k]), T.Toks (l[k]).ex, T.ints (l[k]).thn, T.ints (l[k]).els]) → (T.cells x).length = 5 := by
    intro x hx
    rcases List.mem_or_eq_of_mem_set hx with hx | rfl
    · exact cellsS _ x hx
    · rfl
  have hk : k < ((mixL (movS to) l k).map Stmt.tt).length := by rw [List.length_map, mixL_length]; exact h
  rw [flat_setc hw (x := .agg [T.int (l[k]).kind, T.int (movN to l[k]), T.Toks (l[k]).ex, T.ints (l[k]).thn, T.ints (l[k]).els]) (y := (movS to l[k]).tt) (List.getElem?_set_self hk) (by decide) rfl, List.set_set]
theorem flT_next (to : List Int) (l : List Tok) {k : Nat} (h : k < l.length) (h11 : (l[k]).op = 11) : (flT to l k).set (k * 2 + 1) (T.int (atI to (l[k]).n)) = flT to l (k + 1) := by
  unfold flT
  rw [← mixL_set _ _ h, List.map_set]
  exact flat_setc (cellsT _) (mapAt (mixL_at _ _ h)) (by decide) (by rw [movT, if_pos h11]; rfl)
theorem flT_stay (to : List Int) (l : List Tok) {k : Nat} (h : k < l.length) (h11 : ¬ (l[k]).op = 11) : flT to l k = flT to l (k + 1) := by
  unfold flT
  rw [← mixL_set _ _ h, List.map_set, movT, if_neg h11]
  congr 1
  exact (set_self (mapAt (mixL_at _ _ h))).symm

theorem renumber_w (p : Prog) (to : List Int) (hp : p.ok 1048576) (hs : ∀ f, f ∈ p.funcs → ∀ x, x ∈ seqL f.stmts → 0 ≤ x ∧ x < to.length) (ht : to.length ≤ 1048576) : WriteF Try.prog 28 ([T.Funcs p.funcs]) (.t (T.ints to)) none ([T.Funcs (p.funcs.map (movF to))]) := by
  have hpl : p.funcs.length ≤ 1048576 := hp.1.1
  refine WriteF.intro Try.func28 rfl rfl (N := 62) rfl (fun vs hvs w0 G F0 => ?_)
  obtain ⟨a0, rfl⟩ : ∃ a0, vs = [a0] := by
    match vs, hvs with
    | [a0], _ => exact ⟨_, rfl⟩
  refine W_endLe ?_
  refine W_seq ?_
  refine W_region ?_
  refine WO_box rfl rfl (lt_of rfl) rfl rfl ?_
  refine WO_normR rfl ?_
  refine WO_nil ?_
  refine thenQ_n ?_
  refine W_seq ?_
  refine W_region ?_
  refine ev ?_
  refine ev ?_
  refine WO_normR rfl ?_
  refine WO_explode (id := 62) (j := 0) (id2 := 101) (n := 4) (u := a0) (xs := p.funcs.map Func.tt) rfl rfl rfl rfl rfl (fun e ad b cap ws hu hb he hlc hcm hn => ?_)
  rw [List.length_map] at hu hlc
  subst hu
  refine WO_normR rfl ?_
  refine WO_lenV rfl rfl (lt_of rfl) rfl ⟨48, by kernel_rfl⟩ rfl ?_
  refine ev ?_
  refine WO_nil ?_
  refine thenQ_n ?_
  refine W_block ?_
  refine W_loopK (α := Int × List T) [1, 11, 12] [62] (fun (x : Int × List T) => [(13, .t (.int (x.1)))]) (fun (x : Int × List T) => [(101, rb e b (cap * 4) ws (x.2))]) (fun (x : Int × List T) => 0 ≤ (x.1) ∧ (x.1) ≤ p.funcs.length ∧ (x.2) = flF to p.funcs (x.1).toNat) (fun (x : Int × List T) => Int.toNat (p.funcs.length - (x.1))) (0, flF to p.funcs 0) ?_ ?_ ?_ (fun x hx => ?_)
  · repeat (first | exact Sub.nil' | refine Sub.cons' rfl ?_ )
  · repeat (first | exact SubM.nil' | refine SubM.cons' rfl ?_ )
  · exact ⟨by omega, by omega, rfl⟩
  obtain ⟨k, ts1⟩ := x
  obtain ⟨hk0, hk1, hts1⟩ := hx
  try dsimp only at hk0 hk1 hts1 ⊢
  refine W_normR rfl ?_
  refine W_seq ?_
  refine W_region ?_
  refine ev ?_
  refine WO_nil ?_
  refine thenQ_n ?_
  refine W_seq ?_
  refine W_cond rfl (fun h1 => ?_) (fun h1 => ?_)
  ·
    try simp only [HS] at h1
    refine W_skip ?_
    refine thenQ_n ?_
    refine W_seq ?_
    refine W_block ?_
    refine W_seq ?_
    refine W_region ?_
    have hkl : k.toNat < p.funcs.length := by omega
    have he0 : e = false := by cases e with | false => rfl | true => have := congrArg List.length (he rfl); rw [List.length_map, List.length_nil] at this; omega
    subst he0
    obtain rfl : ad = some ⟨b, 0, none⟩ := hb rfl
    have hf := func_ok hp (n := k.toNat) hkl
    have hsf := hs _ (List.getElem_mem hkl)
    have hsl : (p.funcs[k.toNat]).stmts.length ≤ 1048576 := hf.2.1.1
    refine WO_idxV tys rfl rfl (lt_of rfl) rfl rfl rfl rfl rfl rfl (by omega) (by omega) ?_
    refine WO_ownLen 101 rfl rfl (fun hl1 => ?_)
    refine WO_loadVA (id := 101) (off := k.toNat * 4) (m := 4) tys rfl rfl (lt_of rfl) rfl rfl rfl rfl rfl rfl (by rw [hl1, hts1, flF_len]; omega) (fun us hus1 hus2 => ?_)
    obtain ⟨c0, c1, c2, c3, rfl⟩ : ∃ c0 c1 c2 c3, us = [c0, c1, c2, c3] := by
     match us, hus1 with
     | [c0, c1, c2, c3], _ => exact ⟨_, _, _, _, rfl⟩
    refine WO_normR rfl ?_
    refine WO_alloc tys rfl rfl (lt_of rfl) rfl rfl rfl ?_
    refine WO_normR rfl ?_
    refine WO_store tys rfl rfl rfl rfl rfl rfl rfl rfl (lt_of rfl) ?_
    refine WO_normR rfl ?_
    refine WO_nil ?_
    refine thenQ_n ?_
    refine W_seq ?_
    refine W_region ?_
    refine ev ?_
    refine ev ?_
    refine WO_normR rfl ?_
    refine WO_explode (id := 101) (j := k.toNat * 4 + 3) (id2 := 102) (n := 5) (u := c3) (xs := (p.funcs[k.toNat]).stmts.map Stmt.tt) rfl rfl (hus2 3 (by decide)) (by rw [hts1, flF_at to p.funcs hkl (by decide)]; rfl) rfl (fun e2 ad2 b2 cap2 ws2 hu2 hb2 he2 hlc2 hcm2 hn2 => ?_)
    rw [List.length_map] at hu2 hlc2
    subst hu2
    refine WO_normR rfl ?_
    refine WO_lenV rfl rfl (lt_of rfl) rfl ⟨71, by kernel_rfl⟩ rfl ?_
    refine ev ?_
    refine WO_keepR [1, 5, 11, 12, 13, 14, 15, 16, 17, 18, 19, 20] rfl ?_
    refine WO_nil ?_
    refine thenQ_n ?_
    refine W_block ?_
    refine W_loopK (α := Int × List Value × List T) [1, 5, 11, 12, 13, 18, 19] [62, 101, 5] (fun (x : Int × List Value × List T) => [(20, .t (.int (x.1)))]) (fun (x : Int × List Value × List T) => [(102, rb e2 b2 (cap2 * 5) (x.2.1) (x.2.2))]) (fun (x : Int × List Value × List T) => 0 ≤ (x.1) ∧ (x.1) ≤ (p.funcs[k.toNat]).stmts.length ∧ (x.2.2) = flS to (p.funcs[k.toNat]).stmts (x.1).toNat) (fun (x : Int × List Value × List T) => Int.toNat ((p.funcs[k.toNat]).stmts.length - (x.1))) (0, ws2, flS to (p.funcs[k.toNat]).stmts 0) ?_ ?_ ?_ (fun x hx => ?_)
    · repeat (first | exact Sub.nil' | refine Sub.cons' rfl ?_ )
    · repeat (first | exact SubM.nil' | refine SubM.cons' rfl ?_ )
    · exact ⟨by omega, by omega, rfl⟩
    obtain ⟨j, w2, t2⟩ := x
    obtain ⟨hj0, hj1, ht2⟩ := hx
    try dsimp only at hj0 hj1 ht2 ⊢
    refine W_normR rfl ?_
    refine W_seq ?_
    refine W_region ?_
    refine ev ?_
    refine WO_nil ?_
    refine thenQ_n ?_
    refine W_seq ?_
    refine W_cond rfl (fun h2 => ?_) (fun h2 => ?_)
    ·
      try simp only [HS] at h2
      refine W_skip ?_
      refine thenQ_n ?_
      refine W_seq ?_
      refine W_block ?_
      refine W_seq ?_
      refine W_region ?_
      have hjl : j.toNat < (p.funcs[k.toNat]).stmts.length := by omega
      have he0 : e2 = false := by cases e2 with | false => rfl | true => have := congrArg List.length (he2 rfl); rw [List.length_map, List.length_nil] at this; omega
      subst he0
      obtain rfl : ad2 = some ⟨b2, 0, none⟩ := hb2 rfl
      have hso := stmt_ok hf (n := j.toNat) hjl
      refine ev ?_
      refine WO_idxV tys rfl rfl (lt_of rfl) rfl rfl rfl rfl rfl rfl (by omega) (by omega) ?_
      refine WO_ownLen 102 rfl rfl (fun hl2 => ?_)
      refine WO_loadVA (id := 102) (off := j.toNat * 5) (m := 5) tys rfl rfl (lt_of rfl) rfl rfl rfl rfl rfl rfl (by rw [hl2, ht2, flS_len]; omega) (fun us hus1 hus3 => ?_)
      obtain ⟨d0, d1, d2, d3, d4, rfl⟩ : ∃ d0 d1 d2 d3 d4, us = [d0, d1, d2, d3, d4] := by
       match us, hus1 with
       | [d0, d1, d2, d3, d4], _ => exact ⟨_, _, _, _, _, rfl⟩
      refine WO_told 102 (j.toNat * 5 + 0) rfl rfl (x := .int .i64 ((p.funcs[k.toNat]).stmts[j.toNat]).kind) (by rw [ht2, flS_at to _ hjl (by decide)]; rfl) (hus3 0 (by decide)) (fun hd0 => ?_)
      refine WO_told 102 (j.toNat * 5 + 1) rfl rfl (x := .int .i64 ((p.funcs[k.toNat]).stmts[j.toNat]).n) (by rw [ht2, flS_at to _ hjl (by decide)]; rfl) (hus3 1 (by decide)) (fun hd1 => ?_)
      subst hd0 hd1
      refine WO_normR rfl ?_
      refine WO_alloc tys rfl rfl (lt_of rfl) rfl rfl rfl ?_
      refine WO_normR rfl ?_
      refine ev ?_
      refine WO_store tys rfl rfl rfl rfl rfl rfl rfl rfl (lt_of rfl) ?_
      refine WO_normR rfl ?_
      refine WO_nil ?_
      refine thenQ_n ?_
      iterate 2 (refine W_seq ?_)
      refine W_keepR [1, 5, 6, 7, 11, 12, 13, 18, 19, 20, 21, 22, 23, 24] rfl ?_
      refine W_region ?_
      iterate 3 (refine ev ?_)
      refine WO_nil ?_
      refine thenQ_n ?_
      refine W_joinN (α := List Value × List T) [1, 5, 6, 7, 11, 12, 13, 18, 19, 20, 21, 22, 23, 24, 25, 26, 27] [62, 101, 5, 7] (fun (x : List Value × List T) => []) (fun (x : List Value × List T) => [(102, .raw b2 (cap2 * 5) (x.1) (x.2))]) (fun (x : List Value × List T) => (x.2) = t2.set (j.toNat * 5 + 1) (T.int (movN to (p.funcs[k.toNat]).stmts[j.toNat])) ∧ (x.1)[j.toNat * 5 + 2]? = some d2) ?_ (fun x hx => ?_)
      ·
        refine W_cond rfl (fun h3 => ?_) (fun h3 => ?_)
        ·
          try simp only [HS] at h3
          refine W_regionDm 10 mixed rfl (by kernel_rfl) (by kernel_rfl) ?_
          have hn := seq_def hsf hjl (by assumption)
          iterate 3 (refine evQ ?_)
          refine QL_normR rfl ?_
          iterate 3 (refine evQ ?_)
          first | refine QL_idxT tys rfl rfl (lt_of rfl) rfl rfl rfl rfl rfl rfl rfl (by omega) _ (getT _ _ (by omega) (by omega)) ?_ | refine QL_idxS tys rfl rfl (lt_of rfl) rfl rfl rfl rfl rfl rfl rfl rfl (by omega) (by omega) ?_
          first | refine evQ ?_ | refine QL_loadL tys rfl rfl (lt_of rfl) rfl rfl rfl rfl (getT _ _ (by omega) (by omega)) rfl ?_ | refine QL_loadL tys rfl rfl (lt_of rfl) rfl rfl rfl rfl (getT0 _ _ (by omega) (by omega)) rfl ?_
          refine QL_idxV tys rfl rfl (lt_of rfl) rfl rfl rfl rfl rfl rfl (by omega) (by omega) ?_
          refine QL_normR rfl ?_
          refine QL_fieldV tys rfl rfl (lt_of rfl) rfl rfl rfl rfl rfl ?_
          refine QL_nil ?_
          refine WO_storeV (off := j.toNat * 5 + 1) tys (id := 102) rfl rfl rfl rfl rfl rfl rfl (u0 := .int .i64 ((p.funcs[k.toNat]).stmts[j.toNat]).n) (by rw [ht2, flS_at to _ hjl (by decide)]; rfl) rfl rfl rfl ?_
          refine WO_normR rfl ?_
          refine WO_nil ?_
          refine joinQ_n (_, _) (by (try dsimp only); repeat (first | exact Sub.nil' | refine Sub.cons' rfl ?_)) (by (try dsimp only); repeat (first | exact SubM.nil' | refine SubM.cons' rfl ?_)) ?_
          try dsimp only
          first
          | (rw [movN, if_pos (by assumption), atI_at hn.1 hn.2]; refine ⟨rfl, ?_⟩; rw [List.getElem?_set_ne (by omega)]; exact hus3 2 (by decide))
          | (refine ⟨?_, hus3 2 (by decide)⟩; rw [movN, if_neg (by assumption)]; exact (set_self (by rw [ht2, flS_at to _ hjl (by decide)]; rfl)).symm)
        try simp only [HS] at h3
        refine W_skip ?_
        refine joinQ_n (_, _) (by (try dsimp only); repeat (first | exact Sub.nil' | refine Sub.cons' rfl ?_)) (by (try dsimp only); repeat (first | exact SubM.nil' | refine SubM.cons' rfl ?_)) ?_
        try dsimp only
        first
        | (rw [movN, if_pos (by assumption), atI_at hn.1 hn.2]; refine ⟨rfl, ?_⟩; rw [List.getElem?_set_ne (by omega)]; exact hus3 2 (by decide))
        | (refine ⟨?_, hus3 2 (by decide)⟩; rw [movN, if_neg (by assumption)]; exact (set_self (by rw [ht2, flS_at to _ hjl (by decide)]; rfl)).symm)
      obtain ⟨w3, t3⟩ := x
      obtain ⟨ht3, hw3⟩ := hx
      try dsimp only at ht3 hw3 ⊢
      refine thenQ_n ?_
      refine W_seq ?_
      refine W_keepR [1, 5, 6, 7, 11, 12, 13, 18, 19, 20, 21, 22, 23, 24, 25, 26, 27] rfl ?_
      refine W_region ?_
      refine ev ?_
      refine ev ?_
      refine WO_normR rfl ?_
      refine WO_explode (id := 102) (j := j.toNat * 5 + 2) (id2 := 103) (n := 2) (u := d2) (xs := ((p.funcs[k.toNat]).stmts[j.toNat]).ex.map Tok.tt) rfl rfl hw3 (by rw [ht3, List.getElem?_set_ne (by omega), ht2, flS_at to _ hjl (by decide)]; rfl) rfl (fun e3 ad3 b3 cap3 ws3 hu3 hb3 he3 hlc3 hcm3 hn3 => ?_)
      rw [List.length_map] at hu3 hlc3
      subst hu3
      refine WO_normR rfl ?_
      refine WO_lenV rfl rfl (lt_of rfl) rfl ⟨74, by kernel_rfl⟩ rfl ?_
      refine ev ?_
      refine WO_nil ?_
      refine thenQ_n ?_
      refine W_block ?_
      refine W_loopK (α := Int × List Value × List T) [1, 5, 7, 11, 12, 13, 18, 19, 20, 39, 40] [62, 101, 102, 5, 7] (fun (x : Int × List Value × List T) => [(41, .t (.int (x.1)))]) (fun (x : Int × List Value × List T) => [(103, rb e3 b3 (cap3 * 2) (x.2.1) (x.2.2))]) (fun (x : Int × List Value × List T) => 0 ≤ (x.1) ∧ (x.1) ≤ ((p.funcs[k.toNat]).stmts[j.toNat]).ex.length ∧ (x.2.2) = flT to ((p.funcs[k.toNat]).stmts[j.toNat]).ex (x.1).toNat) (fun (x : Int × List Value × List T) => Int.toNat (((p.funcs[k.toNat]).stmts[j.toNat]).ex.length - (x.1))) (0, ws3, flT to ((p.funcs[k.toNat]).stmts[j.toNat]).ex 0) ?_ ?_ ?_ (fun x hx => ?_)
      · repeat (first | exact Sub.nil' | refine Sub.cons' rfl ?_ )
      · repeat (first | exact SubM.nil' | refine SubM.cons' rfl ?_ )
      · exact ⟨by omega, by omega, rfl⟩
      obtain ⟨i, w4, t4⟩ := x
      obtain ⟨hi0, hi1, ht4⟩ := hx
      try dsimp only at hi0 hi1 ht4 ⊢
      refine W_normR rfl ?_
      refine W_seq ?_
      refine W_region ?_
      refine ev ?_
      refine WO_nil ?_
      refine thenQ_n ?_
      refine W_seq ?_
      refine W_cond rfl (fun h3 => ?_) (fun h3 => ?_)
      ·
        try simp only [HS] at h3
        refine W_skip ?_
        refine thenQ_n ?_
        refine W_seq ?_
        refine W_block ?_
        refine W_seq ?_
        refine W_region ?_
        have hil : i.toNat < ((p.funcs[k.toNat]).stmts[j.toNat]).ex.length := by omega
        have he0 : e3 = false := by cases e3 with | false => rfl | true => have := congrArg List.length (he3 rfl); rw [List.length_map, List.length_nil] at this; omega
        subst he0
        obtain rfl : ad3 = some ⟨b3, 0, none⟩ := hb3 rfl
        refine ev ?_
        refine WO_idxV tys rfl rfl (lt_of rfl) rfl rfl rfl rfl rfl rfl (by omega) (by omega) ?_
        refine WO_ownLen 103 rfl rfl (fun hl3 => ?_)
        refine WO_loadVA (id := 103) (off := i.toNat * 2) (m := 2) tys rfl rfl (lt_of rfl) rfl rfl rfl rfl rfl rfl (by rw [hl3, ht4, flT_len]; omega) (fun us hus1 hus4 => ?_)
        obtain ⟨f0, f1, rfl⟩ : ∃ f0 f1, us = [f0, f1] := by
         match us, hus1 with
         | [f0, f1], _ => exact ⟨_, _, rfl⟩
        refine WO_told 103 (i.toNat * 2 + 0) rfl rfl (x := .int .i64 (((p.funcs[k.toNat]).stmts[j.toNat]).ex[i.toNat]).op) (by rw [ht4, flT_at to _ hil (by decide)]; rfl) (hus4 0 (by decide)) (fun hd0 => ?_)
        refine WO_told 103 (i.toNat * 2 + 1) rfl rfl (x := .int .i64 (((p.funcs[k.toNat]).stmts[j.toNat]).ex[i.toNat]).n) (by rw [ht4, flT_at to _ hil (by decide)]; rfl) (hus4 1 (by decide)) (fun hd1 => ?_)
        subst hd0 hd1
        refine WO_normR rfl ?_
        refine WO_alloc tys rfl rfl (lt_of rfl) rfl rfl rfl ?_
        refine WO_normR rfl ?_
        refine ev ?_
        refine WO_store tys rfl rfl rfl rfl rfl rfl rfl rfl (lt_of rfl) ?_
        refine WO_normR rfl ?_
        refine WO_nil ?_
        refine thenQ_n ?_
        refine W_seq ?_
        refine W_keepR [1, 5, 7, 8, 9, 11, 12, 13, 18, 19, 20, 39, 40, 41, 42, 43, 44, 45] rfl ?_
        refine W_region ?_
        iterate 3 (refine ev ?_)
        refine WO_nil ?_
        refine thenQ_n ?_
        refine W_cond rfl (fun h4 => ?_) (fun h4 => ?_)
        ·
          try simp only [HS] at h4
          refine W_regionDm 10 mixed rfl (by kernel_rfl) (by kernel_rfl) ?_
          have hm := seq_tok hsf hjl hil (by assumption)
          iterate 3 (refine evQ ?_)
          refine QL_normR rfl ?_
          iterate 3 (refine evQ ?_)
          first | refine QL_idxT tys rfl rfl (lt_of rfl) rfl rfl rfl rfl rfl rfl rfl (by omega) _ (getT _ _ (by omega) (by omega)) ?_ | refine QL_idxS tys rfl rfl (lt_of rfl) rfl rfl rfl rfl rfl rfl rfl rfl (by omega) (by omega) ?_
          first | refine evQ ?_ | refine QL_loadL tys rfl rfl (lt_of rfl) rfl rfl rfl rfl (getT _ _ (by omega) (by omega)) rfl ?_ | refine QL_loadL tys rfl rfl (lt_of rfl) rfl rfl rfl rfl (getT0 _ _ (by omega) (by omega)) rfl ?_
          refine QL_idxV tys rfl rfl (lt_of rfl) rfl rfl rfl rfl rfl rfl (by omega) (by omega) ?_
          refine QL_normR rfl ?_
          refine QL_fieldV tys rfl rfl (lt_of rfl) rfl rfl rfl rfl rfl ?_
          refine QL_nil ?_
          refine WO_storeV (off := i.toNat * 2 + 1) tys (id := 103) rfl rfl rfl rfl rfl rfl rfl (u0 := .int .i64 (((p.funcs[k.toNat]).stmts[j.toNat]).ex[i.toNat]).n) (by rw [ht4, flT_at to _ hil (by decide)]; rfl) rfl rfl rfl ?_
          refine WO_normR rfl ?_
          refine WO_nil ?_
          refine inBlk_n ?_
          refine thenQ_n ?_
          refine W_region ?_
          refine evI ?_
          refine ev ?_
          refine WO_nil ?_
          refine loopQ_n (_, _, _) (by (try dsimp only); repeat (first | exact Sub.nil' | refine Sub.cons' rfl ?_ )) (by (try dsimp only); repeat (first | exact SubM.nil' | refine SubM.cons' rfl ?_ )) ?_ ?_
          · try dsimp only
            refine ⟨by omega, by omega, ?_⟩
            rw [ht4, show (i + 1).toNat = i.toNat + 1 from by omega]
            first
            | (refine Eq.trans ?_ (flT_next to _ hil (by assumption)); rw [atI_at hm.1 hm.2]; done)
            | (refine Eq.trans ?_ (flT_next to _ hil (by assumption)); rw [atI_at hm.1 hm.2]; rfl)
            | exact flT_stay to _ hil (by assumption)
          · (show Int.toNat _ < Int.toNat _); omega
        try simp only [HS] at h4
        refine W_skip ?_
        refine inBlk_n ?_
        refine thenQ_n ?_
        refine W_region ?_
        refine evI ?_
        refine ev ?_
        refine WO_nil ?_
        refine loopQ_n (_, _, _) (by (try dsimp only); repeat (first | exact Sub.nil' | refine Sub.cons' rfl ?_ )) (by (try dsimp only); repeat (first | exact SubM.nil' | refine SubM.cons' rfl ?_ )) ?_ ?_
        · try dsimp only
          refine ⟨by omega, by omega, ?_⟩
          rw [ht4, show (i + 1).toNat = i.toNat + 1 from by omega]
          first
          | (refine Eq.trans ?_ (flT_next to _ hil (by assumption)); rw [atI_at hm.1 hm.2]; done)
          | (refine Eq.trans ?_ (flT_next to _ hil (by assumption)); rw [atI_at hm.1 hm.2]; rfl)
          | exact flT_stay to _ hil (by assumption)
        · (show Int.toNat _ < Int.toNat _); omega
      try simp only [HS] at h3
      refine W_exit ?_
      refine thenQ_e ?_
      refine loopQ_e ?_
      refine inBlk_y ?_
      refine inBlk_n ?_
      refine thenQ_n ?_
      refine W_region ?_
      have e4 : t4 = ((((p.funcs[k.toNat]).stmts[j.toNat]).ex.map (movT to)).map Tok.tt).flatMap T.cells := by rw [ht4, flT, mixL_end _ _ (by omega)]
      subst e4
      refine WO_normR rfl ?_
      refine WO_le (Le.implode (id := 102) (id2 := 103) (j := j.toNat * 5 + 2) (n := 2) (e := e3) (b := b3) (cap := cap3) (ad := ad3) (len := ((p.funcs[k.toNat]).stmts[j.toNat]).ex.length) (u := .slice ad3 ((p.funcs[k.toNat]).stmts[j.toNat]).ex.length cap3) (ys := (((p.funcs[k.toNat]).stmts[j.toNat]).ex.map (movT to)).map Tok.tt) rfl rfl hw3 (List.getElem?_set_self (by rw [ht3, List.length_set, ht2, flS_len]; omega)) rfl rfl hb3 (fun h => by rw [List.map_eq_nil_iff.1 (he3 h)]; rfl) (by simp) hlc3 hcm3 (cellsT _) rfl) ?_
      refine WO_normR rfl ?_
      refine evI ?_
      refine ev ?_
      refine WO_nil ?_
      refine loopQ_n (_, _, _) (by (try dsimp only); repeat (first | exact Sub.nil' | refine Sub.cons' rfl ?_ )) (by (try dsimp only); repeat (first | exact SubM.nil' | refine SubM.cons' rfl ?_ )) ?_ ?_
      · try dsimp only
        refine ⟨by omega, by omega, ?_⟩
        rw [ht3, ht2, List.set_set, show (j + 1).toNat = j.toNat + 1 from by omega]
        exact flS_next to _ (by omega)
      · (show Int.toNat _ < Int.toNat _); omega
    try simp only [HS] at h2
    refine W_exit ?_
    refine thenQ_e ?_
    refine loopQ_e ?_
    refine inBlk_y ?_
    refine inBlk_n ?_
    refine thenQ_n ?_
    refine W_region ?_
    have e2' : t2 = (((p.funcs[k.toNat]).stmts.map (movS to)).map Stmt.tt).flatMap T.cells := by rw [ht2, flS, mixL_end _ _ (by omega)]
    subst e2'
    refine WO_normR rfl ?_
    refine WO_le (Le.implode (id := 101) (id2 := 102) (j := k.toNat * 4 + 3) (n := 5) (e := e2) (b := b2) (cap := cap2) (ad := ad2) (len := (p.funcs[k.toNat]).stmts.length) (u := .slice ad2 (p.funcs[k.toNat]).stmts.length cap2) (ys := ((p.funcs[k.toNat]).stmts.map (movS to)).map Stmt.tt) rfl rfl (hus2 3 (by decide)) (List.getElem?_set_self (by rw [hts1, flF_len]; omega)) rfl rfl hb2 (fun h => by rw [List.map_eq_nil_iff.1 (he2 h)]; rfl) (by simp) hlc2 hcm2 (cellsS _) rfl) ?_
    refine WO_normR rfl ?_
    refine evI ?_
    refine ev ?_
    refine WO_nil ?_
    refine loopQ_n (_, _) (by (try dsimp only); repeat (first | exact Sub.nil' | refine Sub.cons' rfl ?_ )) (by (try dsimp only); repeat (first | exact SubM.nil' | refine SubM.cons' rfl ?_ )) ?_ ?_
    · try dsimp only
      refine ⟨by omega, by omega, ?_⟩
      rw [hts1, List.set_set, show (k + 1).toNat = k.toNat + 1 from by omega]
      exact flF_next to p.funcs (by omega)
    · (show Int.toNat _ < Int.toNat _); omega
  try simp only [HS] at h1
  refine W_exit ?_
  refine thenQ_e ?_
  refine loopQ_e ?_
  refine inBlk_y ?_
  have e1 : ts1 = ((p.funcs.map (movF to)).map Func.tt).flatMap T.cells := by rw [hts1, flF, mixL_end _ _ (by omega)]
  subst e1
  refine ⟨_, Le.implode (id := 62) (id2 := 101) (j := 0) (n := 4) (e := e) (b := b) (cap := cap) (ad := ad) (len := p.funcs.length) (u := .slice ad p.funcs.length cap) (ys := (p.funcs.map (movF to)).map Func.tt) rfl rfl rfl rfl rfl rfl hb (fun h => by rw [List.map_eq_nil_iff.1 (he h)]; rfl) (by simp) hlc hcm (cellsF _) rfl, EndsW_struct (.inl rfl) rfl rfl rfl⟩

end Go.Proofs.Ytiigmjlmhmgebaa
