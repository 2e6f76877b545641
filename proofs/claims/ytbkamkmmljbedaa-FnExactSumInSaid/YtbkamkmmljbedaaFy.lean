/- Walks of SumIn, and its law. -/
import Derived.Test.YtbkamkmmljbedaaFx
import Derived.Test.YtbkamkmmljbedaaFc
import Derived.Test.YtbkamkmmljbedaaMc
set_option linter.unusedVariables false
set_option linter.unusedSimpArgs false
set_option maxRecDepth 10000
set_option maxHeartbeats 1000000
namespace Go.Proofs.Ytbkamkmmljbedaa
open Go.Eng

def addW (a x : Int) : Int := IntKind.i64.wrap (a + x)
def sumW (s : Int) (l : List Int) : Int := l.foldl addW s
def allL (w : World) : List (List Int) := w.held ++ [w.trace]
def sumR (w : World) : Int := if goodWorld w then sumW 0 (allL w).flatten else 0
theorem sumW_at {s : Int} {l : List Int} {k : Int} (h0 : 0 ≤ k) (h1 : k < l.length) : sumW s (l.take (k + 1).toNat) = addW (sumW s (l.take k.toNat)) (l[k.toNat]'(by omega)) := by
  unfold sumW; rw [take_at h0 h1, List.foldl_append]; rfl
theorem sumW_app (s : Int) (a b : List Int) : sumW s (a ++ b) = sumW (sumW s a) b := by unfold sumW; rw [List.foldl_append]
theorem sumW_flat {l : List (List Int)} {k : Int} (h0 : 0 ≤ k) (h1 : k < l.length) : sumW 0 (l.take (k + 1).toNat).flatten = sumW (sumW 0 (l.take k.toNat).flatten) (l[k.toNat]'(by omega)) := by
  rw [take_at h0 h1, List.flatten_append, sumW_app]; simp
theorem held_le : ∀ {hs : List (List Int)} {rs : List Int}, heldGo hs rs = true → hs.length = rs.length → (∀ r, r ∈ rs → r ≤ 3) → ∀ l, l ∈ hs → l.length ≤ 3
  | [], _, _, _, _, l, hl => by cases hl
  | _ :: _, [], _, h, _, l, hl => by simp at h
  | h :: hs, r :: rs, hg, hlen, hr, l, hl => by
    rw [heldGo, Bool.and_eq_true, Bool.and_eq_true, decide_eq_true_eq] at hg
    have h3 := hr r (by simp)
    rcases List.mem_cons.1 hl with rfl | hl
    · omega
    · exact held_le hg.2.2 (by simpa using hlen) (fun r hr' => hr r (by simp [hr'])) l hl
theorem held_good {w : World} (h : goodWorld w = true) : (∀ l, l ∈ w.held → l.length ≤ 3) ∧ w.held.length ≤ 3 ∧ w.trace.length ≤ 120 := by
  have hg := good_of h
  unfold goodWorld at h
  simp only [Bool.and_eq_true, decide_eq_true_eq] at h
  obtain ⟨h1, h2, h3, h4, h5, h6, h7, h8, h9⟩ := h
  refine ⟨held_le h8 (by omega) (fun r hr => ?_), by omega, by omega⟩
  unfold allIn at h4
  rw [List.all_eq_true] at h4
  have := h4 r hr
  simp at this
  omega
theorem sum_no {w : World} (h : goodWorld w = false) : [D.t (T.v (.int .i64 0)), D.t (T.v (.bool false))] = [D.t (T.int (sumR w)), D.t (T.bool (goodWorld w))] := by
  rw [sumR, h]; rfl
theorem sum_yes {w : World} {n : Int} (h : goodWorld w = true) (hn : n = sumW 0 (allL w).flatten) : [D.t (T.v (.int .i64 n)), D.t (T.v (.bool true))] = [D.t (T.int (sumR w)), D.t (T.bool (goodWorld w))] := by
  rw [sumR, h, hn]; rfl

theorem specSum_fun (w : World) (hw : w.ok 1048576) : Fun Try.prog 10 [.t w.tt] (tupD [.t (.int (sumR w)), .t (.bool (goodWorld w))]) := by
  refine Fun.begin tys Try.func10 rfl rfl (N := 37) [(0, .t w.tt)] rfl rfl (fun w0 G F0 => ?_)
  refine W_seq ?_
  refine W_region ?_
  refine WO_box rfl rfl (lt_of rfl) rfl rfl ?_
  refine WO_norm rfl ?_
  refine ev ?_
  refine ev ?_
  refine WO_nil ?_
  refine thenQ_n ?_
  iterate 2 (refine W_seq ?_)
  refine W_region ?_
  first | (refine ev ?_; try refine WO_le (Le.freeze (u := 9) rfl) ?_) | refine WO_loadMove tys rfl rfl (lt_of rfl) rfl rfl rfl rfl rfl rfl ?_
  refine WO_norm rfl ?_
  refine callB ?_
  refine ⟨_, specGoodWorld_fun w hw, rfl, ?_⟩
  refine ev ?_
  refine WO_nil ?_
  refine thenQ_n ?_
  refine W_cond rfl (fun h1 => ?_) (fun h1 => ?_)
  ·
    try simp only [HS] at h1
    refine W_seq ?_
    refine W_region ?_
    refine ev ?_
    refine ev ?_
    refine WO_nil ?_
    refine thenQ_n ?_
    refine W_ret ?_
    refine thenQ_r ?_
    refine Ends_of (.inr rfl) (ret_okF rfl) (by decide) rfl ?_
    · first
      | exact sum_no h1
      | exact sum_yes h1 (by rw [hn, take_end (by omega)])
  try simp only [HS] at h1
  refine W_skip ?_
  refine thenQ_n ?_
  refine W_seq ?_
  refine W_region ?_
  refine ev ?_
  refine WO_nil ?_
  refine thenQ_n ?_
  iterate 2 (refine W_seq ?_)
  have hgl := held_good h1
  refine W_tellBoxL (u := 1) (j := 1) (ts := w.held.map T.ints) 101 rfl rfl rfl (fun t ht => by obtain ⟨l, _, rfl⟩ := List.mem_map.1 ht; rfl) (fun us hus => ?_)
  refine W_norm rfl ?_
  refine W_tellBox (u := 1) (j := 4) 102 rfl rfl rfl (fun v => ?_)
  refine W_norm rfl ?_
  rw [List.length_map] at hus
  refine W_keep [1, 2, 3, 4] rfl ?_
  refine W_regionG0 mixed (by kernel_rfl) ?_
  refine QG_buildS tys [] rfl rfl (lt_of rfl) rfl rfl rfl rfl rfl (by decide) (by repeat (first | exact PartsOk.nil' | refine PartsOk.cons' rfl (by repeat (first | exact AbsL.nil' | refine AbsL.v' ?_ | refine AbsL.own' ?_ | refine AbsL.none' ?_)) rfl ?_)) rfl rfl rfl (by decide) ?_
  iterate 2 (refine QG_ev tys rfl rfl (lt_of rfl) rfl ?_)
  refine QG_append tys rfl rfl (lt_of rfl) rfl rfl rfl rfl rfl rfl rfl rfl (fun _ => .read (fun x hx => by obtain ⟨y, _, rfl⟩ := List.mem_map.1 hx; exact ⟨rfl, fun z hz => ⟨y, by simpa [T.cells] using hz⟩⟩)) (by simp; omega) (by decide) rfl ?_
  iterate 2 (refine QG_ev tys rfl rfl (lt_of rfl) rfl ?_)
  refine QG_norm rfl ?_
  refine QG_buildS tys [T.v v] rfl rfl (lt_of rfl) rfl rfl rfl rfl rfl (lt_of rfl) (by repeat (first | exact PartsOk.nil' | refine PartsOk.cons' rfl (by repeat (first | exact AbsL.nil' | refine AbsL.v' ?_ | refine AbsL.own' ?_ | refine AbsL.none' ?_)) rfl ?_)) rfl rfl rfl (by decide) ?_
  refine QG_appendO tys rfl rfl (lt_of rfl) rfl rfl rfl rfl rfl rfl rfl rfl rfl ((fun x hx => by rw [List.mem_singleton] at hx; subst hx; exact ⟨rfl, fun z hz => ⟨v, by simpa [T.cells] using hz⟩⟩)) (by simp; omega) (by decide) rfl ?_
  refine QG_lenO rfl rfl (lt_of rfl) rfl ⟨22, by kernel_rfl⟩ rfl (show _ = ((allL w).length : Int) by simp [allL, hus]) ?_
  refine QG_ev tys rfl rfl (lt_of rfl) rfl ?_
  refine QG_nil ?_
  refine ⟨by kernel_rfl, ?_⟩
  refine WO_norm rfl ?_
  refine WO_le (Le.freeze (u := 19) rfl) ?_
  refine WO_norm rfl ?_
  refine WO_le (Le.roJoin 101 102 rfl rfl) ?_
  refine WO_norm rfl ?_
  refine WO_le (Le.roReadE (u := 19) (id := 101) (ts' := (allL w).map T.ints) rfl rfl (by simp) (by simp [allL, T.ints]) (fun t ht => by
   rcases List.mem_append.1 ht with ht | ht
   · obtain ⟨l, _, rfl⟩ := List.mem_map.1 ht; rfl
   · rw [List.mem_singleton] at ht; subst ht; rfl)) ?_
  refine WO_norm rfl ?_
  refine WO_nil ?_
  refine thenQ_n ?_
  refine W_block ?_
  refine W_loopK (α := Int × Int) [1, 2, 3, 19, 20] [] (fun (x : Int × Int) => [(21, .t (.int (x.1))), (4, .t (.int (x.2)))]) (fun (x : Int × Int) => []) (fun (x : Int × Int) => 0 ≤ (x.1) ∧ (x.1) ≤ (allL w).length ∧ (x.2) = sumW 0 ((allL w).take (x.1).toNat).flatten) (fun (x : Int × Int) => Int.toNat ((allL w).length - (x.1))) (0, 0) ?_ ?_ ?_ (fun x hx => ?_)
  · repeat (first | exact Sub.nil' | refine Sub.cons' rfl ?_ )
  · repeat (first | exact SubM.nil' | refine SubM.cons' rfl ?_ )
  · exact ⟨by omega, by omega, rfl⟩
  obtain ⟨k, n⟩ := x
  obtain ⟨hk0, hk1, hn⟩ := hx
  try dsimp only at hk0 hk1 hn ⊢
  refine W_norm rfl ?_
  refine W_seq ?_
  refine W_region ?_
  refine ev ?_
  refine WO_nil ?_
  refine thenQ_n ?_
  refine W_seq ?_
  refine W_cond rfl (fun h2 => ?_) (fun h2 => ?_)
  ·
    try simp only [HS] at h2
    refine W_skip ?_
    refine thenQ_n ?_
    refine W_seq ?_
    refine W_block ?_
    refine W_seq ?_
    refine W_region ?_
    first | refine WO_idxT tys rfl rfl (lt_of rfl) rfl rfl rfl rfl rfl rfl rfl (by omega) _ (getT _ _ (by omega) (by omega)) ?_ | refine WO_idxS tys rfl rfl (lt_of rfl) rfl rfl rfl rfl rfl rfl rfl rfl (by omega) (by omega) ?_
    first | refine ev ?_ | refine WO_loadL tys rfl rfl (lt_of rfl) rfl rfl rfl rfl (getT _ _ (by omega) (by omega)) rfl ?_ | refine WO_loadL tys rfl rfl (lt_of rfl) rfl rfl rfl rfl (getT0 _ _ (by omega) (by omega)) rfl ?_
    refine ev ?_
    refine WO_nil ?_
    refine thenQ_n ?_
    refine W_seq ?_
    refine W_region ?_
    have hL : (allL w).length ≤ 4 := by simp [allL]; omega
    have hlk : ((allL w)[k.toNat]'(by omega)).length ≤ 120 := by
     rcases List.mem_append.1 (List.getElem_mem (l := allL w) (n := k.toNat) (by omega)) with h | h
     · have := hgl.1 _ h; omega
     · rw [List.mem_singleton] at h; rw [h]; exact hgl.2.2
    refine ev ?_
    refine evE ?_
    refine ev ?_
    refine WO_nil ?_
    refine thenQ_n ?_
    refine W_block ?_
    refine W_loopK (α := Int × Int) [1, 2, 3, 19, 20, 21, 25, 26] [] (fun (x : Int × Int) => [(27, .t (.int (x.1))), (4, .t (.int (x.2)))]) (fun (x : Int × Int) => []) (fun (x : Int × Int) => 0 ≤ (x.1) ∧ (x.1) ≤ ((allL w)[k.toNat]'(by omega)).length ∧ (x.2) = sumW n (((allL w)[k.toNat]'(by omega)).take (x.1).toNat)) (fun (x : Int × Int) => Int.toNat (((allL w)[k.toNat]'(by omega)).length - (x.1))) (0, n) ?_ ?_ ?_ (fun x hx => ?_)
    · repeat (first | exact Sub.nil' | refine Sub.cons' rfl ?_ )
    · repeat (first | exact SubM.nil' | refine SubM.cons' rfl ?_ )
    · exact ⟨by omega, by omega, rfl⟩
    obtain ⟨i, m⟩ := x
    obtain ⟨hi0, hi1, hm⟩ := hx
    try dsimp only at hi0 hi1 hm ⊢
    refine W_norm rfl ?_
    refine W_seq ?_
    refine W_region ?_
    refine ev ?_
    refine WO_nil ?_
    refine thenQ_n ?_
    refine W_seq ?_
    refine W_cond rfl (fun h3 => ?_) (fun h3 => ?_)
    ·
      try simp only [HS] at h3
      refine W_skip ?_
      refine thenQ_n ?_
      refine W_seq ?_
      refine W_block ?_
      refine W_seq ?_
      refine W_region ?_
      first | refine WO_idxT tys rfl rfl (lt_of rfl) rfl rfl rfl rfl rfl rfl rfl (by omega) _ (getT _ _ (by omega) (by omega)) ?_ | refine WO_idxS tys rfl rfl (lt_of rfl) rfl rfl rfl rfl rfl rfl rfl rfl (by omega) (by omega) ?_
      first | refine ev ?_ | refine WO_loadL tys rfl rfl (lt_of rfl) rfl rfl rfl rfl (getT _ _ (by omega) (by omega)) rfl ?_ | refine WO_loadL tys rfl rfl (lt_of rfl) rfl rfl rfl rfl (getT0 _ _ (by omega) (by omega)) rfl ?_
      refine ev ?_
      refine WO_nil ?_
      refine thenQ_n ?_
      refine W_region ?_
      iterate 4 (refine ev ?_)
      refine WO_nil ?_
      refine inBlk_n ?_
      refine thenQ_n ?_
      refine W_keep [1, 2, 3, 4, 8, 19, 20, 21, 25, 26, 27, 28, 29, 30, 31, 32, 33] rfl ?_
      refine W_region ?_
      refine evI ?_
      refine ev ?_
      refine WO_nil ?_
      refine loopQ_n (_, _) (by (try dsimp only); repeat (first | exact Sub.nil' | refine Sub.cons' rfl ?_ )) (by (try dsimp only); repeat (first | exact SubM.nil' | refine SubM.cons' rfl ?_ )) ?_ ?_
      · try dsimp only
        refine ⟨by omega, by omega, ?_⟩
        rw [sumW_at hi0 (by omega), ← hm]
        rfl
      · (show Int.toNat _ < Int.toNat _); omega
    try simp only [HS] at h3
    refine W_exit ?_
    refine thenQ_e ?_
    refine loopQ_e ?_
    refine inBlk_y ?_
    refine inBlk_n ?_
    refine thenQ_n ?_
    refine W_region ?_
    refine evI ?_
    refine ev ?_
    refine WO_nil ?_
    refine loopQ_n (_, _) (by (try dsimp only); repeat (first | exact Sub.nil' | refine Sub.cons' rfl ?_ )) (by (try dsimp only); repeat (first | exact SubM.nil' | refine SubM.cons' rfl ?_ )) ?_ ?_
    · try dsimp only
      refine ⟨by omega, by omega, ?_⟩
      rw [hm, hn, take_end (l := (allL w)[k.toNat]'(by omega)) (k := i) (by omega), sumW_flat hk0 (by omega)]
    · (show Int.toNat _ < Int.toNat _); omega
  try simp only [HS] at h2
  refine W_exit ?_
  refine thenQ_e ?_
  refine loopQ_e ?_
  refine inBlk_y ?_
  refine thenQ_n ?_
  refine W_seq ?_
  refine W_region ?_
  iterate 3 (refine ev ?_)
  refine WO_nil ?_
  refine thenQ_n ?_
  refine W_ret ?_
  refine Ends_of (.inr rfl) (ret_okF rfl) (by decide) rfl ?_
  · first
    | exact sum_no h1
    | exact sum_yes h1 (by rw [hn, take_end (by omega)])

theorem flatA (w : World) : [w.held.flatten, w.trace].flatten = (allL w).flatten := by simp [allL]
theorem concatA (w : World) (h : w.held.flatten.length + w.trace.length ≤ 1048576) : Fun Try.prog 45 [.t (intss [w.held.flatten, w.trace])] (tupD [.own (T.ints (allL w).flatten)]) := by
  rw [← flatA]
  exact concat_fun _ (by simp) (by rw [List.flatten_cons, List.flatten_cons, List.flatten_nil, List.append_nil, List.length_append]; exact h)

theorem implSum_fun (w : World) (hw : w.ok 1048576) (hw' : w.ok 9223372036854775807) : Fun Try.prog 12 [.t w.tt] (tupD [.t (.int (sumR w)), .t (.bool (goodWorld w))]) := by
  refine Fun.begin tys Try.func12 rfl rfl (N := 27) [(0, .t w.tt)] rfl rfl (fun w0 G F0 => ?_)
  refine W_seq ?_
  refine W_region ?_
  refine WO_box rfl rfl (lt_of rfl) rfl rfl ?_
  refine WO_norm rfl ?_
  refine ev ?_
  refine ev ?_
  refine WO_nil ?_
  refine thenQ_n ?_
  iterate 2 (refine W_seq ?_)
  refine W_region ?_
  first | (refine ev ?_; try refine WO_le (Le.freeze (u := 7) rfl) ?_) | refine WO_loadMove tys rfl rfl (lt_of rfl) rfl rfl rfl rfl rfl rfl ?_
  refine WO_norm rfl ?_
  refine callB ?_
  refine ⟨_, isWorld_fun w hw hw', rfl, ?_⟩
  refine ev ?_
  refine WO_nil ?_
  refine thenQ_n ?_
  refine W_cond rfl (fun h1 => ?_) (fun h1 => ?_)
  ·
    try simp only [HS] at h1
    refine W_seq ?_
    refine W_region ?_
    refine ev ?_
    refine ev ?_
    refine WO_nil ?_
    refine thenQ_n ?_
    refine W_ret ?_
    refine thenQ_r ?_
    refine Ends_of (.inr rfl) (ret_okF rfl) (by decide) rfl ?_
    · first
      | exact sum_no h1
      | exact sum_yes h1 (by rw [hn, take_end (by omega)])
  try simp only [HS] at h1
  refine W_skip ?_
  refine thenQ_n ?_
  refine W_seq ?_
  refine W_region ?_
  refine ev ?_
  refine WO_nil ?_
  refine thenQ_n ?_
  iterate 2 (refine W_seq ?_)
  have hgl := held_good h1
  have hf1 : w.held.flatten.length ≤ 9 := by have := flat_le hgl.1; omega
  have hfl : (allL w).flatten.length ≤ 129 := by rw [← flatA, List.flatten_cons, List.flatten_cons, List.flatten_nil, List.append_nil, List.length_append]; omega
  refine W_keep [1, 2, 3, 4] rfl ?_
  refine W_regionDZm 5 8 mixed rfl rfl rfl rfl rfl rfl rfl (lt_of rfl) (by kernel_rfl) (by kernel_rfl) (by kernel_rfl) (by kernel_rfl) (by kernel_rfl) ?_
  refine evQ ?_
  refine evQ ?_
  refine callBQ ?_
  refine ⟨_, concat_fun w.held (by omega) (by omega), rfl, ?_⟩
  refine evQ ?_
  refine evQ ?_
  refine QL_nil ?_
  refine WO_norm rfl ?_
  refine WO_le (Le.freeze (u := 12) rfl) ?_
  refine WO_norm rfl ?_
  refine WO_buildF tys [T.ints w.held.flatten, T.ints w.trace] rfl rfl (lt_of rfl) rfl rfl rfl rfl rfl (by decide) (by repeat (first | exact PartsF.nil' | refine PartsF.cons' rfl rfl ?_)) rfl ?_
  refine WO_norm rfl ?_
  refine callB ?_
  refine ⟨_, concatA w (by omega), rfl, ?_⟩
  refine WO_le (Le.adoptE (u := 16) 16 rfl (by first | exact lenN | exact rfl)) ?_
  refine WO_norm rfl ?_
  refine evE ?_
  refine WO_nil ?_
  refine nQ_n ?_
  refine thenQ_n ?_
  refine W_block ?_
  refine W_loopK (α := Int × Int) [1, 2, 3, 16, 17] [16] (fun (x : Int × Int) => [(18, .t (.int (x.1))), (4, .t (.int (x.2)))]) (fun (x : Int × Int) => []) (fun (x : Int × Int) => 0 ≤ (x.1) ∧ (x.1) ≤ (allL w).flatten.length ∧ (x.2) = sumW 0 ((allL w).flatten.take (x.1).toNat)) (fun (x : Int × Int) => Int.toNat ((allL w).flatten.length - (x.1))) (0, 0) ?_ ?_ ?_ (fun x hx => ?_)
  · repeat (first | exact Sub.nil' | refine Sub.cons' rfl ?_ )
  · repeat (first | exact SubM.nil' | refine SubM.cons' rfl ?_ )
  · exact ⟨by omega, by omega, rfl⟩
  obtain ⟨k, n⟩ := x
  obtain ⟨hk0, hk1, hn⟩ := hx
  try dsimp only at hk0 hk1 hn ⊢
  refine W_norm rfl ?_
  refine W_seq ?_
  refine W_region ?_
  refine ev ?_
  refine WO_nil ?_
  refine thenQ_n ?_
  refine W_seq ?_
  refine W_cond rfl (fun h2 => ?_) (fun h2 => ?_)
  ·
    try simp only [HS] at h2
    refine W_skip ?_
    refine thenQ_n ?_
    refine W_seq ?_
    refine W_block ?_
    refine W_seq ?_
    refine W_region ?_
    first | refine WO_idxT tys rfl rfl (lt_of rfl) rfl rfl rfl rfl rfl rfl rfl (by omega) _ (getT _ _ (by omega) (by omega)) ?_ | refine WO_idxS tys rfl rfl (lt_of rfl) rfl rfl rfl rfl rfl rfl rfl rfl (by omega) (by omega) ?_
    first | refine ev ?_ | refine WO_loadL tys rfl rfl (lt_of rfl) rfl rfl rfl rfl (getT _ _ (by omega) (by omega)) rfl ?_ | refine WO_loadL tys rfl rfl (lt_of rfl) rfl rfl rfl rfl (getT0 _ _ (by omega) (by omega)) rfl ?_
    refine ev ?_
    refine WO_nil ?_
    refine thenQ_n ?_
    refine W_region ?_
    iterate 4 (refine ev ?_)
    refine WO_nil ?_
    refine inBlk_n ?_
    refine thenQ_n ?_
    refine W_keep [1, 2, 3, 4, 6, 16, 17, 18, 19, 20, 21, 22, 23, 24] rfl ?_
    refine W_region ?_
    refine evI ?_
    refine ev ?_
    refine WO_nil ?_
    refine loopQ_n (_, _) (by (try dsimp only); repeat (first | exact Sub.nil' | refine Sub.cons' rfl ?_ )) (by (try dsimp only); repeat (first | exact SubM.nil' | refine SubM.cons' rfl ?_ )) ?_ ?_
    · try dsimp only
      refine ⟨by omega, by omega, ?_⟩
      rw [sumW_at hk0 (by omega), ← hn]
      rfl
    · (show Int.toNat _ < Int.toNat _); omega
  try simp only [HS] at h2
  refine W_exit ?_
  refine thenQ_e ?_
  refine loopQ_e ?_
  refine inBlk_y ?_
  refine thenQ_n ?_
  refine W_seq ?_
  refine W_region ?_
  iterate 3 (refine ev ?_)
  refine WO_nil ?_
  refine thenQ_n ?_
  refine W_ret ?_
  refine Ends_of (.inr rfl) (ret_okF rfl) (by decide) rfl ?_
  · first
    | exact sum_no h1
    | exact sum_yes h1 (by rw [hn, take_end (by omega)])

theorem lawSum_fun (w : World) (hw : w.ok 9223372036854775807) : Fun Try.prog 3 [.t w.tt] (tupD [.t (.bool true)]) := by
  refine Fun.begin tys Try.func3 rfl rfl (N := 40) [(0, .t w.tt)] rfl rfl (fun w0 G F0 => ?_)
  refine W_seq ?_
  refine W_region ?_
  refine WO_box rfl rfl (lt_of rfl) rfl rfl ?_
  refine WO_norm rfl ?_
  refine ev ?_
  refine WO_nil ?_
  refine thenQ_n ?_
  refine W_seq ?_
  refine W_region ?_
  refine ev ?_
  refine WO_nil ?_
  refine thenQ_n ?_
  refine W_seq ?_
  refine W_region ?_
  first | (refine ev ?_; try refine WO_le (Le.freeze (u := 9) rfl) ?_) | refine WO_loadMove tys rfl rfl (lt_of rfl) rfl rfl rfl rfl rfl rfl ?_
  refine WO_norm rfl ?_
  refine ev ?_
  refine callB ?_
  refine ⟨_, szWorld_fun w 1048576 hw (by omega) (by omega), rfl, ?_⟩
  refine ev ?_
  refine WO_nil ?_
  refine thenQ_n ?_
  iterate 2 (refine W_seq ?_)
  refine W_keep [1, 2, 3] rfl ?_
  refine W_region ?_
  refine ev ?_
  refine ev ?_
  refine WO_nil ?_
  refine thenQ_n ?_
  refine W_cond rfl (fun h1 => ?_) (fun h1 => ?_)
  ·
    try simp only [HS] at h1
    refine W_seq ?_
    refine W_region ?_
    refine ev ?_
    refine WO_nil ?_
    refine thenQ_n ?_
    refine W_ret ?_
    refine thenQ_r ?_
    refine Ends_of (.inr rfl) (ret_okF rfl) (by decide) rfl ?_
    · rfl
  try simp only [HS] at h1
  refine W_skip ?_
  refine thenQ_n ?_
  refine W_seq ?_
  refine W_region ?_
  first | (refine ev ?_; try refine WO_le (Le.freeze (u := 15) rfl) ?_) | refine WO_loadMove tys rfl rfl (lt_of rfl) rfl rfl rfl rfl rfl rfl ?_
  refine WO_norm rfl ?_
  refine callB ?_
  refine ⟨_, toWorld_fun w (World.small h1), rfl, ?_⟩
  refine WO_le (Le.freeze (u := 16) rfl) ?_
  refine WO_norm rfl ?_
  refine callB ?_
  refine ⟨_, specSum_fun w (World.small h1), rfl, ?_⟩
  refine ev ?_
  first | refine WO_evF tys rfl rfl (lt_of rfl) (d := .t _) rfl ?_ | (refine WO_extract rfl rfl (lt_of rfl) rfl rfl rfl rfl ?_; first | refine WO_le (Le.adoptE (u := 18) 18 rfl (by first | exact lenN | exact rfl)) ?_ | skip)
  refine WO_norm rfl ?_
  first | refine WO_evF tys rfl rfl (lt_of rfl) (d := .t _) rfl ?_ | (refine WO_extract rfl rfl (lt_of rfl) rfl rfl rfl rfl ?_; first | refine WO_le (Le.adoptE (u := 19) 19 rfl (by first | exact lenN | exact rfl)) ?_ | skip)
  refine WO_norm rfl ?_
  refine ev ?_
  refine WO_keep [1, 2, 4, 19] rfl ?_
  refine ev ?_
  refine WO_nil ?_
  refine thenQ_n ?_
  refine W_seq ?_
  refine W_region ?_
  first | (refine ev ?_; try refine WO_le (Le.freeze (u := 20) rfl) ?_) | refine WO_loadMove tys rfl rfl (lt_of rfl) rfl rfl rfl rfl rfl rfl ?_
  refine WO_norm rfl ?_
  refine callB ?_
  refine ⟨_, toWorld_fun w (World.small h1), rfl, ?_⟩
  refine WO_le (Le.freeze (u := 21) rfl) ?_
  refine WO_norm rfl ?_
  refine WO_alloc tys rfl rfl (lt_of rfl) rfl rfl rfl ?_
  refine WO_norm rfl ?_
  refine WO_store tys rfl rfl rfl rfl rfl rfl rfl rfl (lt_of rfl) ?_
  refine WO_norm rfl ?_
  refine WO_nil ?_
  refine thenQ_n ?_
  refine W_seq ?_
  refine W_region ?_
  first | (refine ev ?_; try refine WO_le (Le.freeze (u := 23) rfl) ?_) | refine WO_loadMove tys rfl rfl (lt_of rfl) rfl rfl rfl rfl rfl rfl ?_
  refine WO_norm rfl ?_
  refine callB ?_
  refine ⟨_, implSum_fun w (World.small h1) hw, rfl, ?_⟩
  refine ev ?_
  first | refine WO_evF tys rfl rfl (lt_of rfl) (d := .t _) rfl ?_ | (refine WO_extract rfl rfl (lt_of rfl) rfl rfl rfl rfl ?_; first | refine WO_le (Le.adoptE (u := 25) 25 rfl (by first | exact lenN | exact rfl)) ?_ | skip)
  refine WO_norm rfl ?_
  refine WO_keep [1, 2, 4, 5, 6, 22, 25] rfl ?_
  first | refine WO_evF tys rfl rfl (lt_of rfl) (d := .t _) rfl ?_ | (refine WO_extract rfl rfl (lt_of rfl) rfl rfl rfl rfl ?_; first | refine WO_le (Le.adoptE (u := 26) 26 rfl (by first | exact lenN | exact rfl)) ?_ | skip)
  refine WO_norm rfl ?_
  refine ev ?_
  refine ev ?_
  refine WO_nil ?_
  refine thenQ_n ?_
  iterate 2 (refine W_seq ?_)
  refine W_region ?_
  iterate 3 (refine ev ?_)
  refine WO_le (Le.known (t := 29) false rfl (by simp)) ?_
  refine ev ?_
  refine WO_guardY rfl rfl rfl rfl (lt_of rfl) ?_
  refine ev ?_
  refine WO_guardY rfl rfl rfl rfl (lt_of rfl) ?_
  refine ev ?_
  refine WO_keep [1, 2, 6, 30, 31, 32] rfl ?_
  refine WO_guardY rfl rfl rfl rfl (lt_of rfl) ?_
  refine ev ?_
  refine WO_le (Le.known (t := 33) false rfl (by simp)) ?_
  refine ev ?_
  refine WO_nil ?_
  refine thenQ_n ?_
  refine W_condF rfl ?_
  refine W_skip ?_
  refine thenQ_n ?_
  iterate 2 (refine W_seq ?_)
  refine W_regionD mixed (by kernel_rfl) ?_
  first | refine QL_evZ tys rfl rfl (lt_of rfl) rfl rfl ?_ | refine evQ ?_ | refine WO_loadMove tys rfl rfl (lt_of rfl) rfl rfl rfl rfl rfl rfl ?_
  first | refine QL_evZ tys rfl rfl (lt_of rfl) rfl rfl ?_ | refine evQ ?_ | refine WO_loadMove tys rfl rfl (lt_of rfl) rfl rfl rfl rfl rfl rfl ?_
  refine callBQ ?_
  refine ⟨_, toWorld_fun w (World.small h1), rfl, ?_⟩
  refine callBQ ?_
  refine ⟨_, eqWorld_fun w w hw hw, rfl, ?_⟩
  refine QL_known (v := true) (eqWorld_refl w) ?_
  refine QL_norm rfl ?_
  refine evQ ?_
  refine QL_nil ?_
  refine thenQ_n ?_
  refine W_condF rfl ?_
  refine W_skip ?_
  refine thenQ_n ?_
  refine W_seq ?_
  refine W_region ?_
  refine ev ?_
  refine WO_nil ?_
  refine thenQ_n ?_
  refine W_ret ?_
  refine Ends_of (.inr rfl) (ret_okF rfl) (by decide) rfl ?_
  · rfl

end Go.Proofs.Ytbkamkmmljbedaa
