/- Walks of how deep calls go, and of how much fuel they need; the laws of DeepestOf and FuelBound. -/
import Derived.Test.YtjnkcoaiccbmpaaGi
set_option linter.unusedVariables false
set_option linter.unusedSimpArgs false
set_option maxRecDepth 10000
set_option maxHeartbeats 1000000
namespace Go.Proofs.Ytjnkcoaiccbmpaa
open Go.Eng

def deepP (p : Prog) (fn : Int) : Int := deepF p.funcs.length (callsP p) fn
theorem deepP_bnd {p : Prog} (hg : goodP p = true) (fn : Int) : 0 ≤ deepP p fn ∧ deepP p fn ≤ 5 := by
  have := deepN_bnd (callsP p) p.funcs.length fn
  have := goodP_len hg
  unfold deepP deepF; omega
theorem deepP_eq {p : Prog} (hg : goodP p = true) (hr : roundP p = false) {fn : Int} (hl : Lead (callsP p) 0 fn) : deepP p fn = maxL ((callsP p fn).map (deepP p)) + 1 :=
  deepF_eq (callsP_in hg) (by have := goodP_len hg; omega) hr hl
theorem maxL_at {l : List Int} {g : Int → Int} {k : Int} (h0 : 0 ≤ k) (h1 : k < l.length) : maxL ((l.take (k + 1).toNat).map g) = max (maxL ((l.take k.toNat).map g)) (g (l[k.toNat]'(by omega))) := by
  unfold maxL
  rw [take_at h0 h1, List.map_append, List.foldl_append]
  rfl
theorem retIe {a b : Int} (h : a = b) : [D.t (T.v (Value.int .i64 a))] = [D.t (T.int b)] := by rw [h]

theorem l17Deep_fun0 (p : Prog) (fn : Int) (hp : p.ok 1048576) (hg : goodP p = true) (hr : roundP p = false) (hl : Lead (callsP p) 0 fn) (hn0 : 0 ≤ fn) (hn1 : fn < p.funcs.length) (ih : ∀ n, n ∈ callsP p fn → Fun Try.prog 61 [.t p.tt, .t (.int n)] (.t (.int (deepP p n)))) : Fun Try.prog 61 [.t p.tt, .t (.int fn)] (tupD [.t (.int (deepP p fn))]) := by
  have hgl := goodP_len hg
  have hcl := callsP_len p fn
  refine Fun.begin tys Try.func61 rfl rfl (N := 24) [(0, .t p.tt), (1, .t (.int fn))] rfl rfl (fun w0 G F0 => ?_)
  refine W_seq ?_
  refine W_region ?_
  refine WO_box rfl rfl (lt_of rfl) rfl rfl ?_
  refine WO_norm rfl ?_
  refine ev ?_
  refine WO_nil ?_
  refine thenQ_n ?_
  refine W_seq ?_
  refine W_region ?_
  refine ev ?_
  refine WO_nil ?_
  refine thenQ_n ?_
  refine W_seq ?_
  refine W_seq ?_
  refine W_region ?_
  first | (refine ev ?_; try refine WO_le (Le.freeze (u := 8) rfl) ?_) | refine WO_loadMove tys rfl rfl (lt_of rfl) rfl rfl rfl rfl rfl rfl ?_
  refine WO_norm rfl ?_
  refine ev ?_
  refine WO_callF rfl rfl (lt_of rfl) rfl rfl rfl rfl rfl (l17Calls_fun p fn hp hg hn0 hn1) rfl ?_
  refine evE ?_
  refine ev ?_
  refine WO_nil ?_
  refine thenQ_n ?_
  refine W_block ?_
  refine W_loopK (α := Int × Int) [2, 10, 11] [2] (fun (x : Int × Int) => [(12, .t (.int (x.1))), (5, .t (.int (x.2)))]) (fun (x : Int × Int) => []) (fun (x : Int × Int) => 0 ≤ (x.1) ∧ (x.1) ≤ (callsP p fn).length ∧ 0 ≤ (x.2) ∧ (x.2) ≤ 5 ∧ (x.2) = maxL (((callsP p fn).take (x.1).toNat).map (deepP p))) (fun (x : Int × Int) => Int.toNat ((callsP p fn).length - (x.1))) (0, 0) ?_ ?_ ?_ (fun x hx => ?_)
  · repeat (first | exact Sub.nil' | refine Sub.cons' rfl ?_ )
  · repeat (first | exact SubM.nil' | refine SubM.cons' rfl ?_ )
  · exact ⟨by omega, by omega, by omega, by omega, rfl⟩
  obtain ⟨j, d⟩ := x
  obtain ⟨hj0, hj1, hd0, hd1, hd⟩ := hx
  try dsimp only at hj0 hj1 hd0 hd1 hd ⊢
  refine W_norm rfl ?_
  refine W_seq ?_
  refine W_region ?_
  refine ev ?_
  refine WO_nil ?_
  refine thenQ_n ?_
  refine W_seq ?_
  refine W_cond rfl (fun h1 => ?_) (fun h1 => ?_)
  ·
    try simp only [HS] at h1
    refine W_skip ?_
    refine thenQ_n ?_
    refine W_seq ?_
    refine W_block ?_
    refine W_seq ?_
    refine W_region ?_
    first | refine WO_idxT tys rfl rfl (lt_of rfl) rfl rfl rfl rfl rfl rfl rfl (by omega) _ (getT _ _ (by omega) (by omega)) ?_ | refine WO_idxS tys rfl rfl (lt_of rfl) rfl rfl rfl rfl rfl rfl rfl rfl (by omega) (by omega) ?_
    first | refine ev ?_ | refine WO_loadL tys rfl rfl (lt_of rfl) rfl rfl rfl rfl (getT _ _ (by omega) (by omega)) rfl ?_ | refine WO_loadL tys rfl rfl (lt_of rfl) rfl rfl rfl rfl (getT0 _ _ (by omega) (by omega)) rfl ?_
    refine ev ?_
    refine WO_nil ?_
    refine thenQ_n ?_
    refine W_region ?_
    refine ev ?_
    first | (refine ev ?_; try refine WO_le (Le.freeze (u := 17) rfl) ?_) | refine WO_loadMove tys rfl rfl (lt_of rfl) rfl rfl rfl rfl rfl rfl ?_
    refine WO_norm rfl ?_
    refine ev ?_
    refine callB ?_
    refine ⟨_, ih _ (List.getElem_mem _), rfl, ?_⟩
    refine callB ?_
    refine ⟨_, l1Most_fun _ _, rfl, ?_⟩
    refine WO_keep [2, 5, 7, 10, 11, 12, 13, 14, 15, 16, 17, 18, 19, 20] rfl ?_
    refine ev ?_
    refine WO_nil ?_
    refine inBlk_n ?_
    refine thenQ_n ?_
    refine W_region ?_
    refine evI ?_
    refine ev ?_
    refine WO_nil ?_
    refine loopQ_n (_, _) (by (try dsimp only); repeat (first | exact Sub.nil' | refine Sub.cons' rfl ?_ )) (by (try dsimp only); repeat (first | exact SubM.nil' | refine SubM.cons' rfl ?_ )) ?_ ?_
    · try dsimp only
      have hb := deepP_bnd hg ((callsP p fn)[j.toNat]'(by omega))
      refine ⟨by omega, by omega, by omega, by omega, ?_⟩
      rw [maxL_at hj0 (by omega), ← hd]
      all_goals omega
    · (show Int.toNat _ < Int.toNat _); omega
  try simp only [HS] at h1
  refine W_exit ?_
  refine thenQ_e ?_
  refine loopQ_e ?_
  refine inBlk_y ?_
  refine thenQ_n ?_
  refine W_seq ?_
  refine W_region ?_
  refine ev ?_
  refine evI ?_
  refine ev ?_
  refine WO_nil ?_
  refine thenQ_n ?_
  refine W_ret ?_
  refine Ends_of (.inr rfl) (ret_okF rfl) (by decide) rfl ?_
  · refine retIe ?_
    rw [deepP_eq hg hr hl, hd, take_end (by omega)]

theorem deepestOf_fun0 (p : Prog) (fn : Int) (hp : p.ok 1048576) (hg : goodP p = true) (hr : roundP p = false) (hl : Lead (callsP p) 0 fn) (hn0 : 0 ≤ fn) (hn1 : fn < p.funcs.length) (ih : ∀ n, n ∈ callsP p fn → Fun Try.prog 62 [.t p.tt, .t (.int n)] (.t (.int (deepP p n)))) : Fun Try.prog 62 [.t p.tt, .t (.int fn)] (tupD [.t (.int (deepP p fn))]) := by
  have hgl := goodP_len hg
  have hcl := callsP_len p fn
  refine Fun.begin tys Try.func62 rfl rfl (N := 27) [(0, .t p.tt), (1, .t (.int fn))] rfl rfl (fun w0 G F0 => ?_)
  refine W_seq ?_
  refine W_region ?_
  refine WO_box rfl rfl (lt_of rfl) rfl rfl ?_
  refine WO_norm rfl ?_
  refine ev ?_
  refine WO_nil ?_
  refine thenQ_n ?_
  refine W_seq ?_
  refine W_region ?_
  refine ev ?_
  refine WO_nil ?_
  refine thenQ_n ?_
  refine W_seq ?_
  refine W_seq ?_
  refine W_region ?_
  refine ev ?_
  refine ev ?_
  refine ev ?_
  first | refine WO_idxT tys rfl rfl (lt_of rfl) rfl rfl rfl rfl rfl rfl rfl (by omega) _ (getT _ _ (by omega) (by omega)) ?_ | refine WO_idxS tys rfl rfl (lt_of rfl) rfl rfl rfl rfl rfl rfl rfl rfl (by omega) (by omega) ?_
  first | (refine ev ?_; try refine WO_le (Le.freeze (u := 12) rfl) ?_) | refine WO_loadL tys rfl rfl (lt_of rfl) rfl rfl rfl rfl (getT _ _ (by omega) (by omega)) rfl ?_ | refine WO_loadL tys rfl rfl (lt_of rfl) rfl rfl rfl rfl (getT0 _ _ (by omega) (by omega)) rfl ?_
  refine WO_norm rfl ?_
  refine callB ?_
  refine ⟨_, callsOf_at p fn hp hg _, rfl, ?_⟩
  refine WO_le (Le.adoptE (u := 13) 13 rfl (by first | exact lenN | exact rfl)) ?_
  refine WO_norm rfl ?_
  refine WO_keep [2, 4, 5, 13] rfl ?_
  refine evE ?_
  refine ev ?_
  refine WO_nil ?_
  refine thenQ_n ?_
  refine W_block ?_
  refine W_loopK (α := Int × Int) [2, 13, 14] [2, 13] (fun (x : Int × Int) => [(15, .t (.int (x.1))), (5, .t (.int (x.2)))]) (fun (x : Int × Int) => []) (fun (x : Int × Int) => 0 ≤ (x.1) ∧ (x.1) ≤ (callsP p fn).length ∧ 0 ≤ (x.2) ∧ (x.2) ≤ 5 ∧ (x.2) = maxL (((callsP p fn).take (x.1).toNat).map (deepP p))) (fun (x : Int × Int) => Int.toNat ((callsP p fn).length - (x.1))) (0, 0) ?_ ?_ ?_ (fun x hx => ?_)
  · repeat (first | exact Sub.nil' | refine Sub.cons' rfl ?_ )
  · repeat (first | exact SubM.nil' | refine SubM.cons' rfl ?_ )
  · exact ⟨by omega, by omega, by omega, by omega, rfl⟩
  obtain ⟨j, d⟩ := x
  obtain ⟨hj0, hj1, hd0, hd1, hd⟩ := hx
  try dsimp only at hj0 hj1 hd0 hd1 hd ⊢
  refine W_norm rfl ?_
  refine W_seq ?_
  refine W_region ?_
  refine ev ?_
  refine WO_nil ?_
  refine thenQ_n ?_
  refine W_seq ?_
  refine W_cond rfl (fun h1 => ?_) (fun h1 => ?_)
  ·
    try simp only [HS] at h1
    refine W_skip ?_
    refine thenQ_n ?_
    refine W_seq ?_
    refine W_block ?_
    refine W_seq ?_
    refine W_region ?_
    first | refine WO_idxT tys rfl rfl (lt_of rfl) rfl rfl rfl rfl rfl rfl rfl (by omega) _ (getT _ _ (by omega) (by omega)) ?_ | refine WO_idxS tys rfl rfl (lt_of rfl) rfl rfl rfl rfl rfl rfl rfl rfl (by omega) (by omega) ?_
    first | refine ev ?_ | refine WO_loadL tys rfl rfl (lt_of rfl) rfl rfl rfl rfl (getT _ _ (by omega) (by omega)) rfl ?_ | refine WO_loadL tys rfl rfl (lt_of rfl) rfl rfl rfl rfl (getT0 _ _ (by omega) (by omega)) rfl ?_
    refine ev ?_
    refine WO_nil ?_
    refine thenQ_n ?_
    refine W_region ?_
    refine ev ?_
    first | (refine ev ?_; try refine WO_le (Le.freeze (u := 20) rfl) ?_) | refine WO_loadMove tys rfl rfl (lt_of rfl) rfl rfl rfl rfl rfl rfl ?_
    refine WO_norm rfl ?_
    refine ev ?_
    refine callB ?_
    refine ⟨_, ih _ (List.getElem_mem _), rfl, ?_⟩
    refine ev ?_
    refine WO_keep [2, 5, 7, 13, 14, 15, 16, 17, 18, 19, 20, 21, 22, 23] rfl ?_
    refine ev ?_
    refine WO_nil ?_
    refine inBlk_n ?_
    refine thenQ_n ?_
    refine W_region ?_
    refine evI ?_
    refine ev ?_
    refine WO_nil ?_
    refine loopQ_n (_, _) (by (try dsimp only); repeat (first | exact Sub.nil' | refine Sub.cons' rfl ?_ )) (by (try dsimp only); repeat (first | exact SubM.nil' | refine SubM.cons' rfl ?_ )) ?_ ?_
    · try dsimp only
      have hb := deepP_bnd hg ((callsP p fn)[j.toNat]'(by omega))
      refine ⟨by omega, by omega, by omega, by omega, ?_⟩
      rw [maxL_at hj0 (by omega), ← hd]
      all_goals omega
    · (show Int.toNat _ < Int.toNat _); omega
  try simp only [HS] at h1
  refine W_exit ?_
  refine thenQ_e ?_
  refine loopQ_e ?_
  refine inBlk_y ?_
  refine thenQ_n ?_
  refine W_seq ?_
  refine W_region ?_
  refine ev ?_
  refine evI ?_
  refine ev ?_
  refine WO_nil ?_
  refine thenQ_n ?_
  refine W_ret ?_
  refine Ends_of (.inr rfl) (ret_okF rfl) (by decide) rfl ?_
  · refine retIe ?_
    rw [deepP_eq hg hr hl, hd, take_end (by omega)]

/-- A law of calls, from those that reach less up. -/
theorem calls_ind {p : Prog} (hg : goodP p = true) (hr : roundP p = false) {K : Int → Prop} (h : ∀ fn, Lead (callsP p) 0 fn → 0 ≤ fn → fn < p.funcs.length → (∀ n, n ∈ callsP p fn → K n) → K fn) :
    ∀ (k : Nat) (fn : Int), Lead (callsP p) 0 fn → (reachP p fn).length ≤ k → K fn
  | 0, fn, hl, hk => by
    have hgl := goodP_len hg
    have h1 := lead_in (callsP_in hg) (by omega) (by omega) hl
    have := reachL_pos (callsP_in hg) h1.1 h1.2
    unfold reachP at hk; omega
  | k + 1, fn, hl, hk => by
    have hgl := goodP_len hg
    have h1 := lead_in (callsP_in hg) (by omega) (by omega) hl
    refine h fn hl h1.1 h1.2 fun n hn => calls_ind hg hr h k n (.step hl hn) ?_
    have := reach_less (callsP_in hg) (by omega) hr hl hn
    unfold reachP at hk ⊢; omega
theorem l17Deep_fun (p : Prog) (hp : p.ok 1048576) (hg : goodP p = true) (hr : roundP p = false) : Fun Try.prog 61 [.t p.tt, .t (.int 0)] (.t (.int (deepP p 0))) :=
  calls_ind hg hr (K := fun n => Fun Try.prog 61 [.t p.tt, .t (.int n)] (.t (.int (deepP p n)))) (fun fn hl h0 h1 ih => l17Deep_fun0 p fn hp hg hr hl h0 h1 ih) _ 0 .refl (Nat.le_refl _)
theorem deepestOf_fun (p : Prog) (hp : p.ok 1048576) (hg : goodP p = true) (hr : roundP p = false) : Fun Try.prog 62 [.t p.tt, .t (.int 0)] (.t (.int (deepP p 0))) :=
  calls_ind hg hr (K := fun n => Fun Try.prog 62 [.t p.tt, .t (.int n)] (.t (.int (deepP p n)))) (fun fn hl h0 h1 ih => deepestOf_fun0 p fn hp hg hr hl h0 h1 ih) _ 0 .refl (Nat.le_refl _)

def deepOk (p : Prog) : Bool := goodP p && !roundP p
def deepR (p : Prog) : Int := if deepOk p then deepP p 0 else 0
theorem specDeep_fun (p : Prog) (hp : p.ok 1048576) : Fun Try.prog 30 [.t p.tt] (tupD [.t (.int (deepR p)), .t (.bool (deepOk p))]) := by
  refine Fun.begin tys Try.func30 rfl rfl (N := 13) [(0, .t p.tt)] rfl rfl (fun w0 G F0 => ?_)
  refine W_seq ?_
  refine W_region ?_
  refine WO_box rfl rfl (lt_of rfl) rfl rfl ?_
  refine WO_norm rfl ?_
  refine ev ?_
  refine ev ?_
  refine WO_nil ?_
  refine thenQ_n ?_
  refine W_seq ?_
  refine W_seq ?_
  refine W_region ?_
  first | (refine ev ?_; try refine WO_le (Le.freeze (u := 4) rfl) ?_) | refine WO_loadMove tys rfl rfl (lt_of rfl) rfl rfl rfl rfl rfl rfl ?_
  refine WO_norm rfl ?_
  refine callB ?_
  refine ⟨_, goodProg_fun p hp, rfl, ?_⟩
  refine ev ?_
  refine ev ?_
  refine WO_guard rfl rfl rfl rfl (lt_of rfl) (fun h1 => ?_) (fun h1 => ?_)
  rotate_left
  ·
    try simp only [HS] at h1
    refine WO_guardN rfl rfl rfl rfl rfl (lt_of rfl) ?_
    refine ev ?_
    refine WO_keep [1, 2, 3, 10] rfl ?_
    refine WO_nil ?_
    refine thenQ_n ?_
    refine W_condT rfl ?_
    refine W_seq ?_
    refine W_region ?_
    refine ev ?_
    refine ev ?_
    refine WO_nil ?_
    refine thenQ_n ?_
    refine W_ret ?_
    refine thenQ_r ?_
    refine Ends_of (.inr rfl) (ret_okF rfl) (by decide) rfl ?_
    · have e : deepOk p = (goodP p && !roundP p) := rfl
      first
      | (have e1 : deepOk p = false := (by rw [deepOk, h1]; rfl)
         exact retIB (by rw [deepR, e1]; rfl) e1.symm)
      | (have e1 : deepOk p = false := (by rw [deepOk, h2]; simp)
         exact retIB (by rw [deepR, e1]; rfl) e1.symm)
      | (have e1 : deepOk p = true := (by rw [deepOk, h1, h2]; rfl)
         exact retIB (by rw [deepR, e1]; rfl) e1.symm)
  try simp only [HS] at h1
  first | (refine ev ?_; try refine WO_le (Le.freeze (u := 8) rfl) ?_) | refine WO_loadMove tys rfl rfl (lt_of rfl) rfl rfl rfl rfl rfl rfl ?_
  refine WO_norm rfl ?_
  refine WO_guardY rfl rfl rfl rfl (lt_of rfl) ?_
  refine callB ?_
  refine ⟨_, l17Round_fun p hp h1, rfl, ?_⟩
  refine WO_keep [1, 2, 3, 7, 9] rfl ?_
  refine ev ?_
  refine WO_nil ?_
  refine thenQ_n ?_
  refine W_cond rfl (fun h2 => ?_) (fun h2 => ?_)
  ·
    try simp only [HS] at h2
    refine W_seq ?_
    refine W_region ?_
    refine ev ?_
    refine ev ?_
    refine WO_nil ?_
    refine thenQ_n ?_
    refine W_ret ?_
    refine thenQ_r ?_
    refine Ends_of (.inr rfl) (ret_okF rfl) (by decide) rfl ?_
    · have e : deepOk p = (goodP p && !roundP p) := rfl
      first
      | (have e1 : deepOk p = false := (by rw [deepOk, h1]; rfl)
         exact retIB (by rw [deepR, e1]; rfl) e1.symm)
      | (have e1 : deepOk p = false := (by rw [deepOk, h2]; simp)
         exact retIB (by rw [deepR, e1]; rfl) e1.symm)
      | (have e1 : deepOk p = true := (by rw [deepOk, h1, h2]; rfl)
         exact retIB (by rw [deepR, e1]; rfl) e1.symm)
  try simp only [HS] at h2
  refine W_skip ?_
  refine thenQ_n ?_
  refine W_seq ?_
  refine W_region ?_
  first | (refine ev ?_; try refine WO_le (Le.freeze (u := 11) rfl) ?_) | refine WO_loadMove tys rfl rfl (lt_of rfl) rfl rfl rfl rfl rfl rfl ?_
  refine WO_norm rfl ?_
  refine callB ?_
  refine ⟨_, l17Deep_fun p hp h1 h2, rfl, ?_⟩
  refine ev ?_
  refine ev ?_
  refine WO_nil ?_
  refine thenQ_n ?_
  refine W_ret ?_
  refine Ends_of (.inr rfl) (ret_okF rfl) (by decide) rfl ?_
  · have e : deepOk p = (goodP p && !roundP p) := rfl
    first
    | (have e1 : deepOk p = false := (by rw [deepOk, h1]; rfl)
       exact retIB (by rw [deepR, e1]; rfl) e1.symm)
    | (have e1 : deepOk p = false := (by rw [deepOk, h2]; simp)
       exact retIB (by rw [deepR, e1]; rfl) e1.symm)
    | (have e1 : deepOk p = true := (by rw [deepOk, h1, h2]; rfl)
       exact retIB (by rw [deepR, e1]; rfl) e1.symm)

theorem implDeep_fun (p : Prog) (hp : p.ok 1048576) : Fun Try.prog 31 [.t p.tt] (tupD [.t (.int (deepR p)), .t (.bool (deepOk p))]) := by
  refine Fun.begin tys Try.func31 rfl rfl (N := 13) [(0, .t p.tt)] rfl rfl (fun w0 G F0 => ?_)
  refine W_seq ?_
  refine W_region ?_
  refine WO_box rfl rfl (lt_of rfl) rfl rfl ?_
  refine WO_norm rfl ?_
  refine ev ?_
  refine ev ?_
  refine WO_nil ?_
  refine thenQ_n ?_
  refine W_seq ?_
  refine W_seq ?_
  refine W_region ?_
  first | (refine ev ?_; try refine WO_le (Le.freeze (u := 4) rfl) ?_) | refine WO_loadMove tys rfl rfl (lt_of rfl) rfl rfl rfl rfl rfl rfl ?_
  refine WO_norm rfl ?_
  refine callB ?_
  refine ⟨_, isProg_fun p hp, rfl, ?_⟩
  refine ev ?_
  refine ev ?_
  refine WO_guard rfl rfl rfl rfl (lt_of rfl) (fun h1 => ?_) (fun h1 => ?_)
  rotate_left
  ·
    try simp only [HS] at h1
    refine WO_guardN rfl rfl rfl rfl rfl (lt_of rfl) ?_
    refine ev ?_
    refine WO_keep [1, 2, 3, 10] rfl ?_
    refine WO_nil ?_
    refine thenQ_n ?_
    refine W_condT rfl ?_
    refine W_seq ?_
    refine W_region ?_
    refine ev ?_
    refine ev ?_
    refine WO_nil ?_
    refine thenQ_n ?_
    refine W_ret ?_
    refine thenQ_r ?_
    refine Ends_of (.inr rfl) (ret_okF rfl) (by decide) rfl ?_
    · have e : deepOk p = (goodP p && !roundP p) := rfl
      first
      | (have e1 : deepOk p = false := (by rw [deepOk, h1]; rfl)
         exact retIB (by rw [deepR, e1]; rfl) e1.symm)
      | (have e1 : deepOk p = false := (by rw [deepOk, h2]; simp)
         exact retIB (by rw [deepR, e1]; rfl) e1.symm)
      | (have e1 : deepOk p = true := (by rw [deepOk, h1, h2]; rfl)
         exact retIB (by rw [deepR, e1]; rfl) e1.symm)
  try simp only [HS] at h1
  first | (refine ev ?_; try refine WO_le (Le.freeze (u := 8) rfl) ?_) | refine WO_loadMove tys rfl rfl (lt_of rfl) rfl rfl rfl rfl rfl rfl ?_
  refine WO_norm rfl ?_
  refine WO_guardY rfl rfl rfl rfl (lt_of rfl) ?_
  refine callB ?_
  refine ⟨_, hasRound_fun p hp h1, rfl, ?_⟩
  refine WO_keep [1, 2, 3, 7, 9] rfl ?_
  refine ev ?_
  refine WO_nil ?_
  refine thenQ_n ?_
  refine W_cond rfl (fun h2 => ?_) (fun h2 => ?_)
  ·
    try simp only [HS] at h2
    refine W_seq ?_
    refine W_region ?_
    refine ev ?_
    refine ev ?_
    refine WO_nil ?_
    refine thenQ_n ?_
    refine W_ret ?_
    refine thenQ_r ?_
    refine Ends_of (.inr rfl) (ret_okF rfl) (by decide) rfl ?_
    · have e : deepOk p = (goodP p && !roundP p) := rfl
      first
      | (have e1 : deepOk p = false := (by rw [deepOk, h1]; rfl)
         exact retIB (by rw [deepR, e1]; rfl) e1.symm)
      | (have e1 : deepOk p = false := (by rw [deepOk, h2]; simp)
         exact retIB (by rw [deepR, e1]; rfl) e1.symm)
      | (have e1 : deepOk p = true := (by rw [deepOk, h1, h2]; rfl)
         exact retIB (by rw [deepR, e1]; rfl) e1.symm)
  try simp only [HS] at h2
  refine W_skip ?_
  refine thenQ_n ?_
  refine W_seq ?_
  refine W_region ?_
  first | (refine ev ?_; try refine WO_le (Le.freeze (u := 11) rfl) ?_) | refine WO_loadMove tys rfl rfl (lt_of rfl) rfl rfl rfl rfl rfl rfl ?_
  refine WO_norm rfl ?_
  refine callB ?_
  refine ⟨_, deepestOf_fun p hp h1 h2, rfl, ?_⟩
  refine ev ?_
  refine ev ?_
  refine WO_nil ?_
  refine thenQ_n ?_
  refine W_ret ?_
  refine Ends_of (.inr rfl) (ret_okF rfl) (by decide) rfl ?_
  · have e : deepOk p = (goodP p && !roundP p) := rfl
    first
    | (have e1 : deepOk p = false := (by rw [deepOk, h1]; rfl)
       exact retIB (by rw [deepR, e1]; rfl) e1.symm)
    | (have e1 : deepOk p = false := (by rw [deepOk, h2]; simp)
       exact retIB (by rw [deepR, e1]; rfl) e1.symm)
    | (have e1 : deepOk p = true := (by rw [deepOk, h1, h2]; rfl)
       exact retIB (by rw [deepR, e1]; rfl) e1.symm)

def ownF (p : Prog) (fn : Int) : Int := 1 + (funcAt p fn).stmts.length
def fuelP (p : Prog) (fn : Int) : Int := fuelF (ownF p) p.funcs.length (seqP p) fn
theorem ownF_pos (p : Prog) (fn : Int) : 0 ≤ ownF p fn := by unfold ownF; omega
theorem fuelP_bnd (p : Prog) (fn : Int) : 0 ≤ fuelP p fn ∧ fuelP p fn ≤ 100001 := fuelN_bnd (ownF_pos p) _ _ _
def sumG (g : Int → Int) (l : List Int) : Int := (l.map g).sum
theorem sumG_app (g : Int → Int) (a b : List Int) : sumG g (a ++ b) = sumG g a + sumG g b := by unfold sumG; rw [List.map_append, List.sum_append]
theorem sumG_one (g : Int → Int) (x : Int) : sumG g [x] = g x := by simp [sumG]
theorem sumG_nil (g : Int → Int) : sumG g [] = 0 := rfl
theorem sumG_pos (p : Prog) (l : List Int) : 0 ≤ sumG (fuelP p) l := by
  unfold sumG
  exact sum_nonneg fun x hx => by
    obtain ⟨n, _, rfl⟩ := List.mem_map.1 hx
    exact (fuelP_bnd p n).1
theorem mem_calls {p : Prog} (hg : goodP p = true) {f n : Int} (h : n ∈ seqP p f) : n ∈ callsP p f := by
  have hgl := goodP_len hg
  have := seqP_ok hg f n h
  exact mem_setN.2 ⟨⟨this.1, by omega⟩, h⟩
theorem fuelP_eq {p : Prog} (hg : goodP p = true) (hr : roundP p = false) {fn : Int} (hl : Lead (callsP p) 0 fn) : fuelP p fn = min (ownF p fn + sumG (fuelP p) (seqP p fn)) 100001 :=
  fuelF_eq (fun f n h => mem_calls hg h) (callsP_in hg) (by have := goodP_len hg; omega) hr hl
theorem seqL_split (l : List Stmt) (k : Int) (g : Int → Int) : sumG g (seqL l) = sumG g (seqL (l.take k.toNat)) + sumG g (seqL (l.drop k.toNat)) := by
  rw [← sumG_app]; unfold seqL; rw [← List.flatMap_append, List.take_append_drop]
/-- Values at numbers. -/
def tab (N : Nat) (g : Int → Int) : List T := (upto N).map fun n => T.int (g n)
theorem tab_len (N : Nat) (g : Int → Int) : (tab N g).length = N := by rw [tab, List.length_map, upto_len]
theorem tab_get {N : Nat} {g : Int → Int} {n : Int} (h0 : 0 ≤ n) (h1 : n < N) : (tab N g)[0 + n.toNat]? = some (T.int (g n)) := by
  rw [Nat.zero_add, tab, List.getElem?_map, List.getElem?_eq_getElem (by rw [upto_len]; omega), upto_at (by rw [upto_len]; omega)]
  simp only [Option.map_some]
  rw [show ((n.toNat : Nat) : Int) = n from by omega]
theorem tab_set {N : Nat} {g : Int → Int} {n v : Int} (h0 : 0 ≤ n) (h1 : n < N) : (tab N g).set n.toNat (T.int v) = tab N fun x => if x = n then v else g x := by
  refine List.ext_getElem (by rw [List.length_set, tab_len, tab_len]) fun k h2 h3 => ?_
  rw [tab_len] at h3
  rw [List.getElem_set]
  simp only [tab, List.getElem_map]
  rw [upto_at (by rw [upto_len]; exact h3)]
  split
  · rename_i e; rw [if_pos (by omega)]
  · rename_i e; rw [if_neg (by omega)]
theorem tab_zero (N : Nat) : List.replicate N (T.int 0) = tab N fun _ => 0 := by
  refine List.ext_getElem (by rw [tab_len]; simp) fun k h1 h2 => ?_
  simp [tab]
theorem tab_congr {N : Nat} {g h : Int → Int} (e : ∀ x : Int, 0 ≤ x → x < N → g x = h x) : tab N g = tab N h :=
  List.map_congr_left fun x hx => by rw [e x (mem_upto.1 hx).1 (mem_upto.1 hx).2]
theorem seq_len_bound {p : Prog} (hg : goodP p = true) {n : Nat} (hn : n < p.funcs.length) {m : Nat} (hm : m < (p.funcs[n]).stmts.length) : ((p.funcs[n]).stmts[m]).ex.length ≤ 12 :=
  stmtG_len (goodF_at (goodP_fn hg hn) hm)

theorem l17Fuel_fun0 (p : Prog) (fn : Int) (hp : p.ok 1048576) (hg : goodP p = true) (hr : roundP p = false) (hl : Lead (callsP p) 0 fn) (hn0 : 0 ≤ fn) (hn1 : fn < p.funcs.length) (ih : ∀ n, n ∈ callsP p fn → Fun Try.prog 70 [.t p.tt, .t (.int n)] (.t (.int (fuelP p n)))) : Fun Try.prog 70 [.t p.tt, .t (.int fn)] (tupD [.t (.int (fuelP p fn))]) := by
  have hgl := goodP_len hg
  have hff := func_ok hp (n := fn.toNat) (by omega)
  have hgf := goodP_fn hg (n := fn.toNat) (by omega)
  have hsl := goodF_len hgf
  have hfe := fuelP_eq hg hr hl
  have hq : ∀ x, x ∈ seqL (funcAt p fn).stmts → Fun Try.prog 70 [.t p.tt, .t (.int x)] (.t (.int (fuelP p x))) := fun x hx => ih x (mem_calls hg hx)
  unfold seqP ownF at hfe
  rw [← funcAt_at (by omega)] at hfe hq
  refine Fun.begin tys Try.func70 rfl rfl (N := 59) [(0, .t p.tt), (1, .t (.int fn))] rfl rfl (fun w0 G F0 => ?_)
  refine W_seq ?_
  refine W_region ?_
  refine WO_box rfl rfl (lt_of rfl) rfl rfl ?_
  refine WO_norm rfl ?_
  refine ev ?_
  refine WO_nil ?_
  refine thenQ_n ?_
  refine W_seq ?_
  refine W_region ?_
  refine ev ?_
  refine ev ?_
  refine ev ?_
  first | refine WO_idxT tys rfl rfl (lt_of rfl) rfl rfl rfl rfl rfl rfl rfl (by omega) _ (getT _ _ (by omega) (by omega)) ?_ | refine WO_idxS tys rfl rfl (lt_of rfl) rfl rfl rfl rfl rfl rfl rfl rfl (by omega) (by omega) ?_
  refine ev ?_
  first | refine ev ?_ | refine WO_loadL tys rfl rfl (lt_of rfl) rfl rfl rfl rfl (getT _ _ (by omega) (by omega)) rfl ?_ | refine WO_loadL tys rfl rfl (lt_of rfl) rfl rfl rfl rfl (getT0 _ _ (by omega) (by omega)) rfl ?_
  refine evE ?_
  refine WO_keep [1, 2, 4, 16] rfl ?_
  generalize hf0 : p.funcs[fn.toNat]'(by omega) = f at hff hgf hfe hq hsl ⊢
  refine evI ?_
  refine ev ?_
  refine WO_nil ?_
  refine thenQ_n ?_
  refine W_seq ?_
  refine W_seq ?_
  refine W_region ?_
  refine ev ?_
  refine ev ?_
  refine ev ?_
  first | refine WO_idxT tys rfl rfl (lt_of rfl) rfl rfl rfl rfl rfl rfl rfl (by omega) _ (getT _ _ (by omega) (by omega)) ?_ | refine WO_idxS tys rfl rfl (lt_of rfl) rfl rfl rfl rfl rfl rfl rfl rfl (by omega) (by omega) ?_
  rw [hf0]
  refine ev ?_
  first | refine ev ?_ | refine WO_loadL tys rfl rfl (lt_of rfl) rfl rfl rfl rfl (getT _ _ (by omega) (by omega)) rfl ?_ | refine WO_loadL tys rfl rfl (lt_of rfl) rfl rfl rfl rfl (getT0 _ _ (by omega) (by omega)) rfl ?_
  refine evE ?_
  refine WO_keep [2, 4, 5, 23, 24] rfl ?_
  refine ev ?_
  refine WO_nil ?_
  refine thenQ_n ?_
  refine W_block ?_
  refine W_loopK (α := Int × Int) [2, 23, 24] [2] (fun (x : Int × Int) => [(25, .t (.int (x.1))), (5, .t (.int (x.2)))]) (fun (x : Int × Int) => []) (fun (x : Int × Int) => 0 ≤ (x.1) ∧ (x.1) ≤ f.stmts.length ∧ 0 ≤ (x.2) ∧ (x.2) ≤ 100000 ∧ (x.2) = 1 + f.stmts.length + sumG (fuelP p) (seqL (f.stmts.take (x.1).toNat))) (fun (x : Int × Int) => Int.toNat (f.stmts.length - (x.1))) (0, 1 + f.stmts.length) ?_ ?_ ?_ (fun x hx => ?_)
  · repeat (first | exact Sub.nil' | refine Sub.cons' rfl ?_ )
  · repeat (first | exact SubM.nil' | refine SubM.cons' rfl ?_ )
  · exact ⟨by omega, by omega, by omega, by omega, by rw [show f.stmts.take (0 : Int).toNat = [] from rfl]; show _ = _ + sumG _ []; rw [sumG_nil]; omega⟩
  obtain ⟨k, b⟩ := x
  obtain ⟨hk0, hk1, hb0, hb1, hb⟩ := hx
  try dsimp only at hk0 hk1 hb0 hb1 hb ⊢
  refine W_norm rfl ?_
  refine W_seq ?_
  refine W_region ?_
  refine ev ?_
  refine WO_nil ?_
  refine thenQ_n ?_
  refine W_seq ?_
  refine W_cond rfl (fun h1 => ?_) (fun h1 => ?_)
  ·
    try simp only [HS] at h1
    refine W_skip ?_
    refine thenQ_n ?_
    refine W_seq ?_
    refine W_block ?_
    refine W_seq ?_
    refine W_region ?_
    first | refine WO_idxT tys rfl rfl (lt_of rfl) rfl rfl rfl rfl rfl rfl rfl (by omega) _ (getT _ _ (by omega) (by omega)) ?_ | refine WO_idxS tys rfl rfl (lt_of rfl) rfl rfl rfl rfl rfl rfl rfl rfl (by omega) (by omega) ?_
    first | (refine ev ?_; try refine WO_le (Le.freeze (u := 28) rfl) ?_) | refine WO_loadL tys rfl rfl (lt_of rfl) rfl rfl rfl rfl (getT _ _ (by omega) (by omega)) rfl ?_ | refine WO_loadL tys rfl rfl (lt_of rfl) rfl rfl rfl rfl (getT0 _ _ (by omega) (by omega)) rfl ?_
    refine WO_norm rfl ?_
    refine WO_alloc tys rfl rfl (lt_of rfl) rfl rfl rfl ?_
    refine WO_norm rfl ?_
    refine WO_store tys rfl rfl rfl rfl rfl rfl rfl rfl (lt_of rfl) ?_
    refine WO_norm rfl ?_
    refine WO_nil ?_
    refine thenQ_n ?_
    refine W_seq ?_
    refine W_seq ?_
    refine W_region ?_
    refine ev ?_
    refine ev ?_
    refine ev ?_
    refine WO_nil ?_
    refine thenQ_n ?_
    refine W_joinN (α := Int) [2, 7, 23, 24, 25, 26, 27, 28, 29, 30, 31] [2, 7] (fun (x : Int) => [(5, .t (.int x))]) (fun (x : Int) => []) (fun (x : Int) => x = b + sumG (fuelP p) (d3 (f.stmts[k.toNat]'(by omega))) ∧ 0 ≤ x ∧ x ≤ 200001) ?_ (fun c hx => ?_)
    ·
      refine W_cond rfl (fun h2 => ?_) (fun h2 => ?_)
      ·
        try simp only [HS] at h2
        refine W_keep [2, 5, 7, 23, 24, 25, 26, 27, 28, 29, 30, 31] rfl ?_
        refine W_region ?_
        refine ev ?_
        first | (refine ev ?_; try refine WO_le (Le.freeze (u := 33) rfl) ?_) | refine WO_loadMove tys rfl rfl (lt_of rfl) rfl rfl rfl rfl rfl rfl ?_
        refine WO_norm rfl ?_
        refine ev ?_
        refine ev ?_
        refine callB ?_
        refine ⟨_, hq _ (List.mem_flatMap.2 ⟨_, List.getElem_mem _, List.mem_append_left _ (by rw [d3, if_pos (by assumption)]; exact List.mem_singleton.2 rfl)⟩), rfl, ?_⟩
        have hb := fuelP_bnd p (f.stmts[k.toNat]'(by omega)).n
        refine evI ?_
        refine ev ?_
        refine WO_nil ?_
        refine joinQ_n _ (by (try dsimp only); repeat (first | exact Sub.nil' | refine Sub.cons' rfl ?_)) (by (try dsimp only); repeat (first | exact SubM.nil' | refine SubM.cons' rfl ?_)) ?_
        try dsimp only
        first
        | (refine ⟨?_, by omega, by omega⟩; rw [d3, if_pos h2, sumG_one]; done)
        | (refine ⟨?_, by omega, by omega⟩; rw [d3, if_neg h2, sumG_nil]; omega)
      try simp only [HS] at h2
      refine W_skip ?_
      refine joinQ_n _ (by (try dsimp only); repeat (first | exact Sub.nil' | refine Sub.cons' rfl ?_)) (by (try dsimp only); repeat (first | exact SubM.nil' | refine SubM.cons' rfl ?_)) ?_
      try dsimp only
      first
      | (refine ⟨?_, by omega, by omega⟩; rw [d3, if_pos h2, sumG_one]; done)
      | (refine ⟨?_, by omega, by omega⟩; rw [d3, if_neg h2, sumG_nil]; omega)
    obtain ⟨hc, hc0, hc1⟩ := hx
    refine thenQ_n ?_
    refine W_seq ?_
    refine W_seq ?_
    refine W_keep [2, 5, 7, 23, 24, 25, 26, 27, 28, 29, 30, 31] rfl ?_
    refine W_region ?_
    have hel : (f.stmts[k.toNat]'(by omega)).ex.length ≤ 12 := stmtG_len (goodF_at hgf _)
    refine ev ?_
    refine ev ?_
    refine evE ?_
    refine ev ?_
    refine WO_nil ?_
    refine thenQ_n ?_
    refine W_block ?_
    refine W_loopK (α := Int × Int) [2, 23, 24, 25, 39, 40] [2] (fun (x : Int × Int) => [(41, .t (.int (x.1))), (5, .t (.int (x.2)))]) (fun (x : Int × Int) => []) (fun (x : Int × Int) => 0 ≤ (x.1) ∧ (x.1) ≤ (f.stmts[k.toNat]'(by omega)).ex.length ∧ 0 ≤ (x.2) ∧ (x.2) ≤ 200001 + 100001 * (x.1) ∧ (x.2) = c + sumG (fuelP p) (tokS ((f.stmts[k.toNat]'(by omega)).ex.take (x.1).toNat))) (fun (x : Int × Int) => Int.toNat ((f.stmts[k.toNat]'(by omega)).ex.length - (x.1))) (0, c) ?_ ?_ ?_ (fun x hx => ?_)
    · repeat (first | exact Sub.nil' | refine Sub.cons' rfl ?_ )
    · repeat (first | exact SubM.nil' | refine SubM.cons' rfl ?_ )
    · exact ⟨by omega, by omega, by omega, by omega, by show _ = _ + sumG _ []; rw [sumG_nil]; omega⟩
    obtain ⟨j, d⟩ := x
    obtain ⟨hj0, hj1, hd0, hd1, hd⟩ := hx
    try dsimp only at hj0 hj1 hd0 hd1 hd ⊢
    refine W_norm rfl ?_
    refine W_seq ?_
    refine W_region ?_
    refine ev ?_
    refine WO_nil ?_
    refine thenQ_n ?_
    refine W_seq ?_
    refine W_cond rfl (fun h2 => ?_) (fun h2 => ?_)
    ·
      try simp only [HS] at h2
      refine W_skip ?_
      refine thenQ_n ?_
      refine W_seq ?_
      refine W_block ?_
      refine W_seq ?_
      refine W_region ?_
      first | refine WO_idxT tys rfl rfl (lt_of rfl) rfl rfl rfl rfl rfl rfl rfl (by omega) _ (getT _ _ (by omega) (by omega)) ?_ | refine WO_idxS tys rfl rfl (lt_of rfl) rfl rfl rfl rfl rfl rfl rfl rfl (by omega) (by omega) ?_
      first | (refine ev ?_; try refine WO_le (Le.freeze (u := 44) rfl) ?_) | refine WO_loadL tys rfl rfl (lt_of rfl) rfl rfl rfl rfl (getT _ _ (by omega) (by omega)) rfl ?_ | refine WO_loadL tys rfl rfl (lt_of rfl) rfl rfl rfl rfl (getT0 _ _ (by omega) (by omega)) rfl ?_
      refine WO_norm rfl ?_
      refine WO_alloc tys rfl rfl (lt_of rfl) rfl rfl rfl ?_
      refine WO_norm rfl ?_
      refine WO_store tys rfl rfl rfl rfl rfl rfl rfl rfl (lt_of rfl) ?_
      refine WO_norm rfl ?_
      refine WO_nil ?_
      refine thenQ_n ?_
      refine W_seq ?_
      refine W_region ?_
      refine ev ?_
      refine ev ?_
      refine ev ?_
      refine WO_nil ?_
      refine thenQ_n ?_
      refine W_cond rfl (fun h3 => ?_) (fun h3 => ?_)
      ·
        try simp only [HS] at h3
        refine W_keep [2, 5, 9, 23, 24, 25, 39, 40, 41, 42, 43, 44, 45, 46, 47] rfl ?_
        refine W_region ?_
        refine ev ?_
        first | (refine ev ?_; try refine WO_le (Le.freeze (u := 49) rfl) ?_) | refine WO_loadMove tys rfl rfl (lt_of rfl) rfl rfl rfl rfl rfl rfl ?_
        refine WO_norm rfl ?_
        refine ev ?_
        refine ev ?_
        refine callB ?_
        refine ⟨_, hq _ (List.mem_flatMap.2 ⟨_, List.getElem_mem _, List.mem_append_right _ (List.mem_map.2 ⟨_, List.mem_filter.2 ⟨List.getElem_mem _, by simpa using h3⟩, rfl⟩)⟩), rfl, ?_⟩
        have hb := fuelP_bnd p ((f.stmts[k.toNat]'(by omega)).ex[j.toNat]'(by omega)).n
        refine evI ?_
        refine ev ?_
        refine WO_nil ?_
        refine inBlk_n ?_
        refine thenQ_n ?_
        refine W_keep [2, 5, 9, 23, 24, 25, 39, 40, 41, 42, 43, 44, 45, 46, 47, 48, 49, 50, 51, 52, 53] rfl ?_
        refine W_region ?_
        refine evI ?_
        refine ev ?_
        refine WO_nil ?_
        refine loopQ_n (_, _) (by (try dsimp only); repeat (first | exact Sub.nil' | refine Sub.cons' rfl ?_ )) (by (try dsimp only); repeat (first | exact SubM.nil' | refine SubM.cons' rfl ?_ )) ?_ ?_
        · try dsimp only
          first
          | (refine ⟨by omega, by omega, by omega, by omega, ?_⟩; rw [tokS_at hj0 (by omega), if_pos h3, sumG_app, sumG_one, hd]; omega)
          | (refine ⟨by omega, by omega, by omega, by omega, ?_⟩; rw [tokS_at hj0 (by omega), if_neg h3, List.append_nil, hd]; done)
        · (show Int.toNat _ < Int.toNat _); omega
      try simp only [HS] at h3
      refine W_skip ?_
      refine inBlk_n ?_
      refine thenQ_n ?_
      refine W_keep [2, 5, 9, 23, 24, 25, 39, 40, 41, 42, 43, 44, 45, 46, 47] rfl ?_
      refine W_region ?_
      refine evI ?_
      refine ev ?_
      refine WO_nil ?_
      refine loopQ_n (_, _) (by (try dsimp only); repeat (first | exact Sub.nil' | refine Sub.cons' rfl ?_ )) (by (try dsimp only); repeat (first | exact SubM.nil' | refine SubM.cons' rfl ?_ )) ?_ ?_
      · try dsimp only
        first
        | (refine ⟨by omega, by omega, by omega, by omega, ?_⟩; rw [tokS_at hj0 (by omega), if_pos h3, sumG_app, sumG_one, hd]; omega)
        | (refine ⟨by omega, by omega, by omega, by omega, ?_⟩; rw [tokS_at hj0 (by omega), if_neg h3, List.append_nil, hd]; done)
      · (show Int.toNat _ < Int.toNat _); omega
    try simp only [HS] at h2
    refine W_exit ?_
    refine thenQ_e ?_
    refine loopQ_e ?_
    refine inBlk_y ?_
    refine thenQ_n ?_
    refine W_seq ?_
    refine W_region ?_
    refine ev ?_
    refine ev ?_
    refine WO_nil ?_
    refine thenQ_n ?_
    refine W_cond rfl (fun h3 => ?_) (fun h3 => ?_)
    ·
      try simp only [HS] at h3
      refine W_seq ?_
      refine W_region ?_
      refine ev ?_
      refine WO_nil ?_
      refine thenQ_n ?_
      refine W_ret ?_
      refine inBlk_r ?_
      refine thenQ_r ?_
      refine loopQ_r ?_
      refine inBlk_r ?_
      refine thenQ_r ?_
      refine Ends_of (.inr rfl) (ret_okF rfl) (by decide) rfl ?_
      · refine retIe ?_
        rw [hfe]
        first
        | (have e := seqL_split f.stmts (k + 1) (fuelP p)
           have e2 := sumG_pos p (seqL (f.stmts.drop (k + 1).toNat))
           rw [seqL_at hk0 (by omega), sumG_app, sumG_app] at e
           rw [take_end (l := (f.stmts[k.toNat]'(by omega)).ex) (k := j) (by omega)] at hd
           omega)
        | (rw [take_end (by omega)] at hb; omega)
    try simp only [HS] at h3
    refine W_skip ?_
    refine inBlk_n ?_
    refine thenQ_n ?_
    refine W_region ?_
    refine evI ?_
    refine ev ?_
    refine WO_nil ?_
    refine loopQ_n (_, _) (by (try dsimp only); repeat (first | exact Sub.nil' | refine Sub.cons' rfl ?_ )) (by (try dsimp only); repeat (first | exact SubM.nil' | refine SubM.cons' rfl ?_ )) ?_ ?_
    · try dsimp only
      refine ⟨by omega, by omega, by omega, by omega, ?_⟩
      rw [seqL_at hk0 (by omega), sumG_app, sumG_app]
      rw [take_end (l := (f.stmts[k.toNat]'(by omega)).ex) (k := j) (by omega)] at hd
      omega
    · (show Int.toNat _ < Int.toNat _); omega
  try simp only [HS] at h1
  refine W_exit ?_
  refine thenQ_e ?_
  refine loopQ_e ?_
  refine inBlk_y ?_
  refine thenQ_n ?_
  refine W_seq ?_
  refine W_region ?_
  refine ev ?_
  refine ev ?_
  refine WO_nil ?_
  refine thenQ_n ?_
  refine W_ret ?_
  refine Ends_of (.inr rfl) (ret_okF rfl) (by decide) rfl ?_
  · refine retIe ?_
    rw [hfe]
    first
    | (have e := seqL_split f.stmts (k + 1) (fuelP p)
       have e2 := sumG_pos p (seqL (f.stmts.drop (k + 1).toNat))
       rw [seqL_at hk0 (by omega), sumG_app, sumG_app] at e
       rw [take_end (l := (f.stmts[k.toNat]'(by omega)).ex) (k := j) (by omega)] at hd
       omega)
    | (rw [take_end (by omega)] at hb; omega)

def bndG (p : Prog) (l : List Int) (x : Int) : Int := if x ∈ l then fuelP p x else 0
theorem bnd_get {p : Prog} {ws : List T} {l : List Int} {N : Nat} (hws : ws = tab N (bndG p l)) {n : Int} (hn : n ∈ l) (h0 : 0 ≤ n) (h1 : n < N) : ws[0 + n.toNat]? = some (T.int (fuelP p n)) := by
  rw [hws, tab_get h0 h1, bndG, if_pos hn]

theorem fuelBound_fun0 (p : Prog) (fn : Int) (hp : p.ok 1048576) (hg : goodP p = true) (hr : roundP p = false) (hl : Lead (callsP p) 0 fn) (hn0 : 0 ≤ fn) (hn1 : fn < p.funcs.length) (ih : ∀ n, n ∈ callsP p fn → Fun Try.prog 72 [.t p.tt, .t (.int n)] (.t (.int (fuelP p n)))) : Fun Try.prog 72 [.t p.tt, .t (.int fn)] (tupD [.t (.int (fuelP p fn))]) := by
  have hgl := goodP_len hg
  have hin := callsP_in hg
  have hff := func_ok hp (n := fn.toNat) (by omega)
  have hgf := goodP_fn hg (n := fn.toNat) (by omega)
  have hsl := goodF_len hgf
  have hcl := callsP_len p fn
  have hfe := fuelP_eq hg hr hl
  have hq : ∀ x, x ∈ seqL (funcAt p fn).stmts → x ∈ callsP p fn := fun x hx => mem_calls hg hx
  have hco := callsOf_at p fn hp hg (by omega)
  unfold seqP ownF at hfe
  rw [← funcAt_at (by omega)] at hfe hq
  refine Fun.begin tys Try.func72 rfl rfl (N := 79) [(0, .t p.tt), (1, .t (.int fn))] rfl rfl (fun w0 G F0 => ?_)
  refine W_seq ?_
  refine W_region ?_
  refine WO_box rfl rfl (lt_of rfl) rfl rfl ?_
  refine WO_norm rfl ?_
  refine ev ?_
  refine WO_nil ?_
  refine thenQ_n ?_
  refine W_seq ?_
  refine W_region ?_
  refine ev ?_
  refine ev ?_
  refine ev ?_
  first | refine WO_idxT tys rfl rfl (lt_of rfl) rfl rfl rfl rfl rfl rfl rfl (by omega) _ (getT _ _ (by omega) (by omega)) ?_ | refine WO_idxS tys rfl rfl (lt_of rfl) rfl rfl rfl rfl rfl rfl rfl rfl (by omega) (by omega) ?_
  generalize hf0 : p.funcs[fn.toNat]'(by omega) = f at hff hgf hfe hq hsl hco ⊢
  first | (refine ev ?_; try refine WO_le (Le.freeze (u := 18) rfl) ?_) | refine WO_loadL tys rfl rfl (lt_of rfl) rfl rfl rfl rfl (getT _ _ (by omega) (by omega)) rfl ?_ | refine WO_loadL tys rfl rfl (lt_of rfl) rfl rfl rfl rfl (getT0 _ _ (by omega) (by omega)) rfl ?_
  refine WO_norm rfl ?_
  refine WO_alloc tys rfl rfl (lt_of rfl) rfl rfl rfl ?_
  refine WO_norm rfl ?_
  refine WO_store tys rfl rfl rfl rfl rfl rfl rfl rfl (lt_of rfl) ?_
  refine WO_norm rfl ?_
  refine WO_keep [2, 4, 5] rfl ?_
  refine WO_nil ?_
  refine thenQ_n ?_
  refine W_seq ?_
  refine W_region ?_
  refine ev ?_
  refine ev ?_
  refine evE ?_
  refine WO_make tys (.v (.int .i64 0)) _ rfl rfl (lt_of rfl) rfl rfl rfl rfl rfl (by repeat (first | exact AbsL.nil' | refine AbsL.v' ?_ | refine AbsL.none' ?_)) rfl (by omega) (by decide) ?_
  refine WO_norm rfl ?_
  refine ev ?_
  refine WO_nil ?_
  refine thenQ_n ?_
  refine W_seq ?_
  refine W_seq ?_
  refine W_region ?_
  first | (refine ev ?_; try refine WO_le (Le.freeze (u := 23) rfl) ?_) | refine WO_loadMove tys rfl rfl (lt_of rfl) rfl rfl rfl rfl rfl rfl ?_
  refine WO_norm rfl ?_
  refine callB ?_
  refine ⟨_, hco, rfl, ?_⟩
  refine WO_le (Le.adoptE (u := 24) 24 rfl (by first | exact lenN | exact rfl)) ?_
  refine WO_norm rfl ?_
  refine evE ?_
  refine ev ?_
  refine WO_keep [2, 4, 5, 6, 24, 25, 26] rfl ?_
  refine WO_nil ?_
  refine thenQ_n ?_
  refine W_block ?_
  refine W_loopK (α := Int × List T) [2, 5, 24, 25] [2, 5, 24] (fun (x : Int × List T) => [(26, .t (.int (x.1))), (6, .sl 22 0 p.funcs.length)]) (fun (x : Int × List T) => [(22, .L 1 (x.2))]) (fun (x : Int × List T) => 0 ≤ (x.1) ∧ (x.1) ≤ (callsP p fn).length ∧ (x.2) = tab p.funcs.length (bndG p ((callsP p fn).take (x.1).toNat))) (fun (x : Int × List T) => Int.toNat ((callsP p fn).length - (x.1))) (0, List.replicate p.funcs.length (T.int 0)) ?_ ?_ ?_ (fun x hx => ?_)
  · repeat (first | exact Sub.nil' | refine Sub.cons' rfl ?_ )
  · repeat (first | exact SubM.nil' | refine SubM.cons' rfl ?_ )
  · exact ⟨by omega, by omega, by rw [tab_zero]; exact tab_congr fun x _ _ => by simp [bndG]⟩
  obtain ⟨i, ws⟩ := x
  obtain ⟨hi0, hi1, hws⟩ := hx
  try dsimp only at hi0 hi1 hws ⊢
  refine W_norm rfl ?_
  refine W_seq ?_
  refine W_region ?_
  refine ev ?_
  refine WO_nil ?_
  refine thenQ_n ?_
  refine W_seq ?_
  refine W_cond rfl (fun h1 => ?_) (fun h1 => ?_)
  ·
    try simp only [HS] at h1
    refine W_skip ?_
    refine thenQ_n ?_
    refine W_seq ?_
    refine W_block ?_
    refine W_seq ?_
    refine W_region ?_
    first | refine WO_idxT tys rfl rfl (lt_of rfl) rfl rfl rfl rfl rfl rfl rfl (by omega) _ (getT _ _ (by omega) (by omega)) ?_ | refine WO_idxS tys rfl rfl (lt_of rfl) rfl rfl rfl rfl rfl rfl rfl rfl (by omega) (by omega) ?_
    have hnc : (callsP p fn)[i.toNat]'(by omega) ∈ callsP p fn := List.getElem_mem _
    have hni := hin _ _ hnc
    have hwl : ws.length = p.funcs.length := by rw [hws, tab_len]
    first | refine ev ?_ | refine WO_loadL tys rfl rfl (lt_of rfl) rfl rfl rfl rfl (getT _ _ (by omega) (by omega)) rfl ?_ | refine WO_loadL tys rfl rfl (lt_of rfl) rfl rfl rfl rfl (getT0 _ _ (by omega) (by omega)) rfl ?_
    refine ev ?_
    refine WO_nil ?_
    refine thenQ_n ?_
    refine W_region ?_
    refine ev ?_
    refine ev ?_
    first | (refine ev ?_; try refine WO_le (Le.freeze (u := 32) rfl) ?_) | refine WO_loadMove tys rfl rfl (lt_of rfl) rfl rfl rfl rfl rfl rfl ?_
    refine WO_norm rfl ?_
    refine ev ?_
    refine callB ?_
    refine ⟨_, ih _ (List.getElem_mem _), rfl, ?_⟩
    refine WO_keep [2, 5, 6, 8, 24, 25, 26, 27, 28, 29, 30, 31, 32, 33, 34] rfl ?_
    first | refine WO_idxT tys rfl rfl (lt_of rfl) rfl rfl rfl rfl rfl rfl rfl (by omega) _ (getT _ _ (by omega) (by omega)) ?_ | refine WO_idxS tys rfl rfl (lt_of rfl) rfl rfl rfl rfl rfl rfl rfl rfl (by omega) (by omega) ?_
    first | refine WO_storeE tys (T.int (fuelP p ((callsP p fn)[i.toNat]'(by omega)))) rfl rfl rfl rfl rfl rfl (by first | exact Nat.zero_add _ | rfl) (by omega) rfl (by repeat (first | exact AbsL.nil' | refine AbsL.v' ?_ | refine AbsL.own' ?_)) rfl rfl rfl ?_ | refine WO_storeL tys _ rfl rfl rfl rfl rfl rfl (getT _ _ (by omega) (by omega)) rfl (by repeat (first | exact AbsL.nil' | refine AbsL.v' ?_ | refine AbsL.own' ?_)) rfl (by decide) (by decide) ?_
    refine WO_norm rfl ?_
    refine WO_nil ?_
    refine inBlk_n ?_
    refine thenQ_n ?_
    refine W_region ?_
    refine evI ?_
    refine ev ?_
    refine WO_nil ?_
    refine loopQ_n (_, _) (by (try dsimp only); repeat (first | exact Sub.nil' | refine Sub.cons' rfl ?_ )) (by (try dsimp only); repeat (first | exact SubM.nil' | refine SubM.cons' rfl ?_ )) ?_ ?_
    · try dsimp only
      refine ⟨by omega, by omega, ?_⟩
      rw [hws, tab_set hni.1 hni.2]
      refine tab_congr fun x _ _ => ?_
      unfold bndG
      rw [take_at hi0 (by omega)]
      by_cases hx : x = (callsP p fn)[i.toNat]'(by omega)
      · rw [if_pos hx, if_pos (by rw [hx]; exact List.mem_append_right _ (List.mem_singleton.2 rfl)), hx]
      · rw [if_neg hx]
        simp only [List.mem_append, List.mem_singleton, hx, or_false]
    · (show Int.toNat _ < Int.toNat _); omega
  try simp only [HS] at h1
  refine W_exit ?_
  refine thenQ_e ?_
  refine loopQ_e ?_
  refine inBlk_y ?_
  refine thenQ_n ?_
  refine W_seq ?_
  refine W_region ?_
  refine ev ?_
  refine ev ?_
  refine evE ?_
  refine evI ?_
  refine ev ?_
  refine WO_nil ?_
  refine thenQ_n ?_
  refine W_seq ?_
  refine W_seq ?_
  refine W_region ?_
  refine ev ?_
  refine ev ?_
  refine evE ?_
  refine WO_keep [6, 9, 42, 43] rfl ?_
  refine ev ?_
  refine WO_nil ?_
  refine thenQ_n ?_
  refine W_block ?_
  refine W_loopK (α := Int × Int) [6, 42, 43] [22] (fun (x : Int × Int) => [(44, .t (.int (x.1))), (9, .t (.int (x.2)))]) (fun (x : Int × Int) => []) (fun (x : Int × Int) => 0 ≤ (x.1) ∧ (x.1) ≤ f.stmts.length ∧ 0 ≤ (x.2) ∧ (x.2) ≤ 17 + 1300013 * (x.1) ∧ (x.2) = 1 + f.stmts.length + sumG (fuelP p) (seqL (f.stmts.take (x.1).toNat))) (fun (x : Int × Int) => Int.toNat (f.stmts.length - (x.1))) (0, 1 + f.stmts.length) ?_ ?_ ?_ (fun x hx => ?_)
  · repeat (first | exact Sub.nil' | refine Sub.cons' rfl ?_ )
  · repeat (first | exact SubM.nil' | refine SubM.cons' rfl ?_ )
  · exact ⟨by omega, by omega, by omega, by omega, by rw [show f.stmts.take (0 : Int).toNat = [] from rfl]; show _ = _ + sumG _ []; rw [sumG_nil]; omega⟩
  obtain ⟨k, b⟩ := x
  obtain ⟨hk0, hk1, hb0, hb1, hb⟩ := hx
  try dsimp only at hk0 hk1 hb0 hb1 hb ⊢
  refine W_norm rfl ?_
  refine W_seq ?_
  refine W_region ?_
  refine ev ?_
  refine WO_nil ?_
  refine thenQ_n ?_
  refine W_seq ?_
  refine W_cond rfl (fun h2 => ?_) (fun h2 => ?_)
  ·
    try simp only [HS] at h2
    refine W_skip ?_
    refine thenQ_n ?_
    refine W_seq ?_
    refine W_block ?_
    refine W_seq ?_
    refine W_region ?_
    first | refine WO_idxT tys rfl rfl (lt_of rfl) rfl rfl rfl rfl rfl rfl rfl (by omega) _ (getT _ _ (by omega) (by omega)) ?_ | refine WO_idxS tys rfl rfl (lt_of rfl) rfl rfl rfl rfl rfl rfl rfl rfl (by omega) (by omega) ?_
    first | (refine ev ?_; try refine WO_le (Le.freeze (u := 47) rfl) ?_) | refine WO_loadL tys rfl rfl (lt_of rfl) rfl rfl rfl rfl (getT _ _ (by omega) (by omega)) rfl ?_ | refine WO_loadL tys rfl rfl (lt_of rfl) rfl rfl rfl rfl (getT0 _ _ (by omega) (by omega)) rfl ?_
    refine WO_norm rfl ?_
    refine WO_alloc tys rfl rfl (lt_of rfl) rfl rfl rfl ?_
    refine WO_norm rfl ?_
    refine WO_store tys rfl rfl rfl rfl rfl rfl rfl rfl (lt_of rfl) ?_
    refine WO_norm rfl ?_
    refine WO_nil ?_
    refine thenQ_n ?_
    refine W_seq ?_
    refine W_seq ?_
    refine W_region ?_
    refine ev ?_
    refine ev ?_
    refine ev ?_
    refine WO_nil ?_
    refine thenQ_n ?_
    refine W_joinN (α := Int) [6, 11, 42, 43, 44, 45, 46, 47, 48, 49, 50] [11, 22] (fun (x : Int) => [(9, .t (.int x))]) (fun (x : Int) => []) (fun (x : Int) => x = b + sumG (fuelP p) (d3 (f.stmts[k.toNat]'(by omega))) ∧ 0 ≤ x ∧ x ≤ 17 + 1300013 * k + 100001) ?_ (fun c hx => ?_)
    ·
      refine W_cond rfl (fun h3 => ?_) (fun h3 => ?_)
      ·
        try simp only [HS] at h3
        refine W_keep [6, 9, 11, 42, 43, 44, 45, 46, 47, 48, 49, 50] rfl ?_
        refine W_region ?_
        have hnq := hq _ (List.mem_flatMap.2 ⟨_, List.getElem_mem (l := f.stmts) (n := k.toNat) (by omega), List.mem_append_left _ (by rw [d3, if_pos h3]; exact List.mem_singleton.2 rfl)⟩)
        have hni := hin _ _ hnq
        refine ev ?_
        refine ev ?_
        refine ev ?_
        refine ev ?_
        first | refine WO_idxT tys rfl rfl (lt_of rfl) rfl rfl rfl rfl rfl rfl rfl (by omega) _ (getT _ _ (by omega) (by omega)) ?_ | refine WO_idxS tys rfl rfl (lt_of rfl) rfl rfl rfl rfl rfl rfl rfl rfl (by omega) (by omega) ?_
        refine WO_loadL tys rfl rfl (lt_of rfl) rfl rfl rfl rfl (bnd_get hws (by rw [take_end (l := callsP p fn) (by omega)]; exact hnq) hni.1 hni.2) rfl ?_
        have hb := fuelP_bnd p (f.stmts[k.toNat]'(by omega)).n
        refine evI ?_
        refine ev ?_
        refine WO_nil ?_
        refine joinQ_n _ (by (try dsimp only); repeat (first | exact Sub.nil' | refine Sub.cons' rfl ?_)) (by (try dsimp only); repeat (first | exact SubM.nil' | refine SubM.cons' rfl ?_)) ?_
        try dsimp only
        first
        | (refine ⟨?_, by omega, by omega⟩; rw [d3, if_pos h3, sumG_one]; done)
        | (refine ⟨?_, by omega, by omega⟩; rw [d3, if_neg h3, sumG_nil]; omega)
      try simp only [HS] at h3
      refine W_skip ?_
      refine joinQ_n _ (by (try dsimp only); repeat (first | exact Sub.nil' | refine Sub.cons' rfl ?_)) (by (try dsimp only); repeat (first | exact SubM.nil' | refine SubM.cons' rfl ?_)) ?_
      try dsimp only
      first
      | (refine ⟨?_, by omega, by omega⟩; rw [d3, if_pos h3, sumG_one]; done)
      | (refine ⟨?_, by omega, by omega⟩; rw [d3, if_neg h3, sumG_nil]; omega)
    obtain ⟨hc, hc0, hc1⟩ := hx
    refine thenQ_n ?_
    refine W_seq ?_
    refine W_keep [6, 9, 11, 42, 43, 44, 45, 46, 47, 48, 49, 50] rfl ?_
    refine W_region ?_
    have hel : (f.stmts[k.toNat]'(by omega)).ex.length ≤ 12 := stmtG_len (goodF_at hgf _)
    refine ev ?_
    refine ev ?_
    refine evE ?_
    refine ev ?_
    refine WO_nil ?_
    refine thenQ_n ?_
    refine W_block ?_
    refine W_loopK (α := Int × Int) [6, 42, 43, 44, 59, 60] [22] (fun (x : Int × Int) => [(61, .t (.int (x.1))), (9, .t (.int (x.2)))]) (fun (x : Int × Int) => []) (fun (x : Int × Int) => 0 ≤ (x.1) ∧ (x.1) ≤ (f.stmts[k.toNat]'(by omega)).ex.length ∧ 0 ≤ (x.2) ∧ (x.2) ≤ 17 + 1300013 * k + 100001 + 100001 * (x.1) ∧ (x.2) = c + sumG (fuelP p) (tokS ((f.stmts[k.toNat]'(by omega)).ex.take (x.1).toNat))) (fun (x : Int × Int) => Int.toNat ((f.stmts[k.toNat]'(by omega)).ex.length - (x.1))) (0, c) ?_ ?_ ?_ (fun x hx => ?_)
    · repeat (first | exact Sub.nil' | refine Sub.cons' rfl ?_ )
    · repeat (first | exact SubM.nil' | refine SubM.cons' rfl ?_ )
    · exact ⟨by omega, by omega, by omega, by omega, by show _ = _ + sumG _ []; rw [sumG_nil]; omega⟩
    obtain ⟨j, d⟩ := x
    obtain ⟨hj0, hj1, hd0, hd1, hd⟩ := hx
    try dsimp only at hj0 hj1 hd0 hd1 hd ⊢
    refine W_norm rfl ?_
    refine W_seq ?_
    refine W_region ?_
    refine ev ?_
    refine WO_nil ?_
    refine thenQ_n ?_
    refine W_seq ?_
    refine W_cond rfl (fun h3 => ?_) (fun h3 => ?_)
    ·
      try simp only [HS] at h3
      refine W_skip ?_
      refine thenQ_n ?_
      refine W_seq ?_
      refine W_block ?_
      refine W_seq ?_
      refine W_region ?_
      first | refine WO_idxT tys rfl rfl (lt_of rfl) rfl rfl rfl rfl rfl rfl rfl (by omega) _ (getT _ _ (by omega) (by omega)) ?_ | refine WO_idxS tys rfl rfl (lt_of rfl) rfl rfl rfl rfl rfl rfl rfl rfl (by omega) (by omega) ?_
      first | (refine ev ?_; try refine WO_le (Le.freeze (u := 64) rfl) ?_) | refine WO_loadL tys rfl rfl (lt_of rfl) rfl rfl rfl rfl (getT _ _ (by omega) (by omega)) rfl ?_ | refine WO_loadL tys rfl rfl (lt_of rfl) rfl rfl rfl rfl (getT0 _ _ (by omega) (by omega)) rfl ?_
      refine WO_norm rfl ?_
      refine WO_alloc tys rfl rfl (lt_of rfl) rfl rfl rfl ?_
      refine WO_norm rfl ?_
      refine WO_store tys rfl rfl rfl rfl rfl rfl rfl rfl (lt_of rfl) ?_
      refine WO_norm rfl ?_
      refine WO_nil ?_
      refine thenQ_n ?_
      refine W_seq ?_
      refine W_region ?_
      refine ev ?_
      refine ev ?_
      refine ev ?_
      refine WO_nil ?_
      refine thenQ_n ?_
      refine W_cond rfl (fun h4 => ?_) (fun h4 => ?_)
      ·
        try simp only [HS] at h4
        refine W_keep [6, 9, 13, 42, 43, 44, 59, 60, 61, 62, 63, 64, 65, 66, 67] rfl ?_
        refine W_region ?_
        have hnq := hq _ (List.mem_flatMap.2 ⟨_, List.getElem_mem (l := f.stmts) (n := k.toNat) (by omega), List.mem_append_right _ (List.mem_map.2 ⟨_, List.mem_filter.2 ⟨List.getElem_mem (l := (f.stmts[k.toNat]'(by omega)).ex) (n := j.toNat) (by omega), by simpa using h4⟩, rfl⟩)⟩)
        have hni := hin _ _ hnq
        refine ev ?_
        refine ev ?_
        refine ev ?_
        refine ev ?_
        first | refine WO_idxT tys rfl rfl (lt_of rfl) rfl rfl rfl rfl rfl rfl rfl (by omega) _ (getT _ _ (by omega) (by omega)) ?_ | refine WO_idxS tys rfl rfl (lt_of rfl) rfl rfl rfl rfl rfl rfl rfl rfl (by omega) (by omega) ?_
        refine WO_loadL tys rfl rfl (lt_of rfl) rfl rfl rfl rfl (bnd_get hws (by rw [take_end (l := callsP p fn) (by omega)]; exact hnq) hni.1 hni.2) rfl ?_
        have hb := fuelP_bnd p ((f.stmts[k.toNat]'(by omega)).ex[j.toNat]'(by omega)).n
        refine evI ?_
        refine ev ?_
        refine WO_nil ?_
        refine inBlk_n ?_
        refine thenQ_n ?_
        refine W_keep [6, 9, 13, 42, 43, 44, 59, 60, 61, 62, 63, 64, 65, 66, 67, 68, 69, 70, 71, 72, 73, 74] rfl ?_
        refine W_region ?_
        refine evI ?_
        refine ev ?_
        refine WO_nil ?_
        refine loopQ_n (_, _) (by (try dsimp only); repeat (first | exact Sub.nil' | refine Sub.cons' rfl ?_ )) (by (try dsimp only); repeat (first | exact SubM.nil' | refine SubM.cons' rfl ?_ )) ?_ ?_
        · try dsimp only
          first
          | (refine ⟨by omega, by omega, by omega, by omega, ?_⟩; rw [tokS_at hj0 (by omega), if_pos h4, sumG_app, sumG_one, hd]; omega)
          | (refine ⟨by omega, by omega, by omega, by omega, ?_⟩; rw [tokS_at hj0 (by omega), if_neg h4, List.append_nil, hd]; done)
        · (show Int.toNat _ < Int.toNat _); omega
      try simp only [HS] at h4
      refine W_skip ?_
      refine inBlk_n ?_
      refine thenQ_n ?_
      refine W_keep [6, 9, 13, 42, 43, 44, 59, 60, 61, 62, 63, 64, 65, 66, 67] rfl ?_
      refine W_region ?_
      refine evI ?_
      refine ev ?_
      refine WO_nil ?_
      refine loopQ_n (_, _) (by (try dsimp only); repeat (first | exact Sub.nil' | refine Sub.cons' rfl ?_ )) (by (try dsimp only); repeat (first | exact SubM.nil' | refine SubM.cons' rfl ?_ )) ?_ ?_
      · try dsimp only
        first
        | (refine ⟨by omega, by omega, by omega, by omega, ?_⟩; rw [tokS_at hj0 (by omega), if_pos h4, sumG_app, sumG_one, hd]; omega)
        | (refine ⟨by omega, by omega, by omega, by omega, ?_⟩; rw [tokS_at hj0 (by omega), if_neg h4, List.append_nil, hd]; done)
      · (show Int.toNat _ < Int.toNat _); omega
    try simp only [HS] at h3
    refine W_exit ?_
    refine thenQ_e ?_
    refine loopQ_e ?_
    refine inBlk_y ?_
    refine inBlk_n ?_
    refine thenQ_n ?_
    refine W_region ?_
    refine evI ?_
    refine ev ?_
    refine WO_nil ?_
    refine loopQ_n (_, _) (by (try dsimp only); repeat (first | exact Sub.nil' | refine Sub.cons' rfl ?_ )) (by (try dsimp only); repeat (first | exact SubM.nil' | refine SubM.cons' rfl ?_ )) ?_ ?_
    · try dsimp only
      refine ⟨by omega, by omega, by omega, by omega, ?_⟩
      rw [seqL_at hk0 (by omega), sumG_app, sumG_app]
      rw [take_end (l := (f.stmts[k.toNat]'(by omega)).ex) (k := j) (by omega)] at hd
      omega
    · (show Int.toNat _ < Int.toNat _); omega
  try simp only [HS] at h2
  refine W_exit ?_
  refine thenQ_e ?_
  refine loopQ_e ?_
  refine inBlk_y ?_
  refine thenQ_n ?_
  refine W_seq ?_
  refine W_region ?_
  refine ev ?_
  refine ev ?_
  refine ev ?_
  refine WO_nil ?_
  refine thenQ_n ?_
  refine W_ret ?_
  refine Ends_of (.inr rfl) (ret_okF rfl) (by decide) rfl ?_
  · refine retIe ?_
    rw [hfe]
    rw [take_end (by omega)] at hb
    omega

theorem l17Fuel_fun (p : Prog) (hp : p.ok 1048576) (hg : goodP p = true) (hr : roundP p = false) : Fun Try.prog 70 [.t p.tt, .t (.int 0)] (.t (.int (fuelP p 0))) :=
  calls_ind hg hr (K := fun n => Fun Try.prog 70 [.t p.tt, .t (.int n)] (.t (.int (fuelP p n)))) (fun fn hl h0 h1 ih => l17Fuel_fun0 p fn hp hg hr hl h0 h1 ih) _ 0 .refl (Nat.le_refl _)
theorem fuelBound_fun (p : Prog) (hp : p.ok 1048576) (hg : goodP p = true) (hr : roundP p = false) : Fun Try.prog 72 [.t p.tt, .t (.int 0)] (.t (.int (fuelP p 0))) :=
  calls_ind hg hr (K := fun n => Fun Try.prog 72 [.t p.tt, .t (.int n)] (.t (.int (fuelP p n)))) (fun fn hl h0 h1 ih => fuelBound_fun0 p fn hp hg hr hl h0 h1 ih) _ 0 .refl (Nat.le_refl _)

def fuelOk (p : Prog) : Bool := goodP p && (!roundP p && (!(anyP p fun s => decide (s.kind = 8)) && decide (fuelP p 0 ≤ 100000)))
def fuelR (p : Prog) : Int := if fuelOk p then fuelP p 0 else 0
theorem fuel_ret {p : Prog} {n : Int} {b : Bool} (e : fuelOk p = b) (h : n = if b then fuelP p 0 else 0) : [D.t (T.v (Value.int .i64 n)), D.t (T.v (Value.bool b))] = [D.t (T.int (fuelR p)), D.t (T.bool (fuelOk p))] := by
  rw [fuelR, e, h]
theorem specFuel_fun (p : Prog) (hp : p.ok 1048576) : Fun Try.prog 40 [.t p.tt] (tupD [.t (.int (fuelR p)), .t (.bool (fuelOk p))]) := by
  refine Fun.begin tys Try.func40 rfl rfl (N := 22) [(0, .t p.tt)] rfl rfl (fun w0 G F0 => ?_)
  refine W_seq ?_
  refine W_region ?_
  refine WO_box rfl rfl (lt_of rfl) rfl rfl ?_
  refine WO_norm rfl ?_
  refine ev ?_
  refine ev ?_
  refine WO_nil ?_
  refine thenQ_n ?_
  refine W_seq ?_
  refine W_seq ?_
  refine W_region ?_
  first | (refine ev ?_; try refine WO_le (Le.freeze (u := 4) rfl) ?_) | refine WO_loadMove tys rfl rfl (lt_of rfl) rfl rfl rfl rfl rfl rfl ?_
  refine WO_norm rfl ?_
  refine callB ?_
  refine ⟨_, goodProg_fun p hp, rfl, ?_⟩
  refine ev ?_
  refine ev ?_
  refine WO_guard rfl rfl rfl rfl (lt_of rfl) (fun h1 => ?_) (fun h1 => ?_)
  rotate_left
  ·
    try simp only [HS] at h1
    refine WO_guardN rfl rfl rfl rfl rfl (lt_of rfl) ?_
    refine ev ?_
    refine WO_keep [1, 2, 3, 10] rfl ?_
    refine ev ?_
    refine WO_guardN rfl rfl rfl rfl rfl (lt_of rfl) ?_
    refine WO_guardN rfl rfl rfl rfl rfl (lt_of rfl) ?_
    refine ev ?_
    refine ev ?_
    refine WO_guardN rfl rfl rfl rfl rfl (lt_of rfl) ?_
    refine WO_guardN rfl rfl rfl rfl rfl (lt_of rfl) ?_
    refine WO_guardN rfl rfl rfl rfl rfl (lt_of rfl) ?_
    refine ev ?_
    refine WO_keep [1, 2, 3, 19] rfl ?_
    refine WO_nil ?_
    refine thenQ_n ?_
    refine W_condT rfl ?_
    refine W_seq ?_
    refine W_region ?_
    refine ev ?_
    refine ev ?_
    refine WO_nil ?_
    refine thenQ_n ?_
    refine W_ret ?_
    refine thenQ_r ?_
    refine Ends_of (.inr rfl) (ret_okF rfl) (by decide) rfl ?_
    · first
      | exact fuel_ret (by rw [fuelOk, h1]; rfl) rfl
      | exact fuel_ret (by rw [fuelOk, h1, h2]; rfl) rfl
      | exact fuel_ret (by rw [fuelOk, h1, h2, ← met_kind h1, h3]; rfl) rfl
      | exact fuel_ret (by rw [fuelOk, h1, h2, ← met_kind h1, h3, decide_eq_false (by omega)]; rfl) rfl
      | exact fuel_ret (by rw [fuelOk, h1, h2, ← met_kind h1, h3, decide_eq_true (by omega)]; rfl) rfl
  try simp only [HS] at h1
  first | (refine ev ?_; try refine WO_le (Le.freeze (u := 8) rfl) ?_) | refine WO_loadMove tys rfl rfl (lt_of rfl) rfl rfl rfl rfl rfl rfl ?_
  refine WO_norm rfl ?_
  refine WO_guardY rfl rfl rfl rfl (lt_of rfl) ?_
  refine callB ?_
  refine ⟨_, l17Round_fun p hp h1, rfl, ?_⟩
  refine WO_keep [1, 2, 3, 7, 9] rfl ?_
  refine ev ?_
  refine ev ?_
  refine WO_guard rfl rfl rfl rfl (lt_of rfl) (fun h2 => ?_) (fun h2 => ?_)
  rotate_left
  ·
    try simp only [HS] at h2
    refine WO_guardN rfl rfl rfl rfl rfl (lt_of rfl) ?_
    refine ev ?_
    refine ev ?_
    refine WO_guardN rfl rfl rfl rfl rfl (lt_of rfl) ?_
    refine WO_guardN rfl rfl rfl rfl rfl (lt_of rfl) ?_
    refine WO_guardN rfl rfl rfl rfl rfl (lt_of rfl) ?_
    refine ev ?_
    refine WO_keep [1, 2, 3, 19] rfl ?_
    refine WO_nil ?_
    refine thenQ_n ?_
    refine W_condT rfl ?_
    refine W_seq ?_
    refine W_region ?_
    refine ev ?_
    refine ev ?_
    refine WO_nil ?_
    refine thenQ_n ?_
    refine W_ret ?_
    refine thenQ_r ?_
    refine Ends_of (.inr rfl) (ret_okF rfl) (by decide) rfl ?_
    · first
      | exact fuel_ret (by rw [fuelOk, h1]; rfl) rfl
      | exact fuel_ret (by rw [fuelOk, h1, h2]; rfl) rfl
      | exact fuel_ret (by rw [fuelOk, h1, h2, ← met_kind h1, h3]; rfl) rfl
      | exact fuel_ret (by rw [fuelOk, h1, h2, ← met_kind h1, h3, decide_eq_false (by omega)]; rfl) rfl
      | exact fuel_ret (by rw [fuelOk, h1, h2, ← met_kind h1, h3, decide_eq_true (by omega)]; rfl) rfl
  try simp only [HS] at h2
  first | (refine ev ?_; try refine WO_le (Le.freeze (u := 12) rfl) ?_) | refine WO_loadMove tys rfl rfl (lt_of rfl) rfl rfl rfl rfl rfl rfl ?_
  refine WO_norm rfl ?_
  refine WO_guardY rfl rfl rfl rfl (lt_of rfl) ?_
  refine callB ?_
  refine ⟨_, l17Met_fun p 8 (-1) hp h1, rfl, ?_⟩
  refine ev ?_
  refine ev ?_
  refine WO_guard rfl rfl rfl rfl (lt_of rfl) (fun h3 => ?_) (fun h3 => ?_)
  rotate_left
  ·
    try simp only [HS] at h3
    refine WO_guardN rfl rfl rfl rfl rfl (lt_of rfl) ?_
    refine WO_guardN rfl rfl rfl rfl rfl (lt_of rfl) ?_
    refine ev ?_
    refine WO_keep [1, 2, 3, 19] rfl ?_
    refine WO_nil ?_
    refine thenQ_n ?_
    refine W_condT rfl ?_
    refine W_seq ?_
    refine W_region ?_
    refine ev ?_
    refine ev ?_
    refine WO_nil ?_
    refine thenQ_n ?_
    refine W_ret ?_
    refine thenQ_r ?_
    refine Ends_of (.inr rfl) (ret_okF rfl) (by decide) rfl ?_
    · first
      | exact fuel_ret (by rw [fuelOk, h1]; rfl) rfl
      | exact fuel_ret (by rw [fuelOk, h1, h2]; rfl) rfl
      | exact fuel_ret (by rw [fuelOk, h1, h2, ← met_kind h1, h3]; rfl) rfl
      | exact fuel_ret (by rw [fuelOk, h1, h2, ← met_kind h1, h3, decide_eq_false (by omega)]; rfl) rfl
      | exact fuel_ret (by rw [fuelOk, h1, h2, ← met_kind h1, h3, decide_eq_true (by omega)]; rfl) rfl
  try simp only [HS] at h3
  first | (refine ev ?_; try refine WO_le (Le.freeze (u := 16) rfl) ?_) | refine WO_loadMove tys rfl rfl (lt_of rfl) rfl rfl rfl rfl rfl rfl ?_
  refine WO_norm rfl ?_
  refine WO_guardY rfl rfl rfl rfl (lt_of rfl) ?_
  refine callB ?_
  refine ⟨_, l17Fuel_fun p hp h1 h2, rfl, ?_⟩
  refine WO_guardY rfl rfl rfl rfl (lt_of rfl) ?_
  refine ev ?_
  refine WO_keep [1, 2, 3, 15, 18] rfl ?_
  refine ev ?_
  refine WO_nil ?_
  refine thenQ_n ?_
  refine W_cond rfl (fun h4 => ?_) (fun h4 => ?_)
  ·
    try simp only [HS] at h4
    refine W_seq ?_
    refine W_region ?_
    refine ev ?_
    refine ev ?_
    refine WO_nil ?_
    refine thenQ_n ?_
    refine W_ret ?_
    refine thenQ_r ?_
    refine Ends_of (.inr rfl) (ret_okF rfl) (by decide) rfl ?_
    · first
      | exact fuel_ret (by rw [fuelOk, h1]; rfl) rfl
      | exact fuel_ret (by rw [fuelOk, h1, h2]; rfl) rfl
      | exact fuel_ret (by rw [fuelOk, h1, h2, ← met_kind h1, h3]; rfl) rfl
      | exact fuel_ret (by rw [fuelOk, h1, h2, ← met_kind h1, h3, decide_eq_false (by omega)]; rfl) rfl
      | exact fuel_ret (by rw [fuelOk, h1, h2, ← met_kind h1, h3, decide_eq_true (by omega)]; rfl) rfl
  try simp only [HS] at h4
  refine W_skip ?_
  refine thenQ_n ?_
  refine W_seq ?_
  refine W_region ?_
  first | (refine ev ?_; try refine WO_le (Le.freeze (u := 20) rfl) ?_) | refine WO_loadMove tys rfl rfl (lt_of rfl) rfl rfl rfl rfl rfl rfl ?_
  refine WO_norm rfl ?_
  refine callB ?_
  refine ⟨_, l17Fuel_fun p hp h1 h2, rfl, ?_⟩
  refine ev ?_
  refine ev ?_
  refine WO_nil ?_
  refine thenQ_n ?_
  refine W_ret ?_
  refine Ends_of (.inr rfl) (ret_okF rfl) (by decide) rfl ?_
  · first
    | exact fuel_ret (by rw [fuelOk, h1]; rfl) rfl
    | exact fuel_ret (by rw [fuelOk, h1, h2]; rfl) rfl
    | exact fuel_ret (by rw [fuelOk, h1, h2, ← met_kind h1, h3]; rfl) rfl
    | exact fuel_ret (by rw [fuelOk, h1, h2, ← met_kind h1, h3, decide_eq_false (by omega)]; rfl) rfl
    | exact fuel_ret (by rw [fuelOk, h1, h2, ← met_kind h1, h3, decide_eq_true (by omega)]; rfl) rfl

theorem implFuel_fun (p : Prog) (hp : p.ok 1048576) : Fun Try.prog 41 [.t p.tt] (tupD [.t (.int (fuelR p)), .t (.bool (fuelOk p))]) := by
  refine Fun.begin tys Try.func41 rfl rfl (N := 21) [(0, .t p.tt)] rfl rfl (fun w0 G F0 => ?_)
  refine W_seq ?_
  refine W_region ?_
  refine WO_box rfl rfl (lt_of rfl) rfl rfl ?_
  refine WO_norm rfl ?_
  refine ev ?_
  refine ev ?_
  refine WO_nil ?_
  refine thenQ_n ?_
  refine W_seq ?_
  refine W_seq ?_
  refine W_region ?_
  first | (refine ev ?_; try refine WO_le (Le.freeze (u := 5) rfl) ?_) | refine WO_loadMove tys rfl rfl (lt_of rfl) rfl rfl rfl rfl rfl rfl ?_
  refine WO_norm rfl ?_
  refine callB ?_
  refine ⟨_, isProg_fun p hp, rfl, ?_⟩
  refine ev ?_
  refine ev ?_
  refine WO_guard rfl rfl rfl rfl (lt_of rfl) (fun h1 => ?_) (fun h1 => ?_)
  rotate_left
  ·
    try simp only [HS] at h1
    refine WO_guardN rfl rfl rfl rfl rfl (lt_of rfl) ?_
    refine ev ?_
    refine WO_keep [1, 2, 3, 11] rfl ?_
    refine ev ?_
    refine WO_guardN rfl rfl rfl rfl rfl (lt_of rfl) ?_
    refine WO_guardN rfl rfl rfl rfl rfl (lt_of rfl) ?_
    refine ev ?_
    refine WO_nil ?_
    refine thenQ_n ?_
    refine W_condT rfl ?_
    refine W_seq ?_
    refine W_region ?_
    refine ev ?_
    refine ev ?_
    refine WO_nil ?_
    refine thenQ_n ?_
    refine W_ret ?_
    refine thenQ_r ?_
    refine Ends_of (.inr rfl) (ret_okF rfl) (by decide) rfl ?_
    · first
      | exact fuel_ret (by rw [fuelOk, h1]; rfl) rfl
      | exact fuel_ret (by rw [fuelOk, h1, h2]; rfl) rfl
      | exact fuel_ret (by rw [fuelOk, h1, h2, h3]; rfl) rfl
      | exact fuel_ret (by rw [fuelOk, h1, h2, h3, decide_eq_false (by omega)]; rfl) rfl
      | exact fuel_ret (by rw [fuelOk, h1, h2, h3, decide_eq_true (by omega)]; rfl) rfl
  try simp only [HS] at h1
  first | (refine ev ?_; try refine WO_le (Le.freeze (u := 9) rfl) ?_) | refine WO_loadMove tys rfl rfl (lt_of rfl) rfl rfl rfl rfl rfl rfl ?_
  refine WO_norm rfl ?_
  refine WO_guardY rfl rfl rfl rfl (lt_of rfl) ?_
  refine callB ?_
  refine ⟨_, hasRound_fun p hp h1, rfl, ?_⟩
  refine WO_keep [1, 2, 3, 8, 10] rfl ?_
  refine ev ?_
  refine ev ?_
  refine WO_guard rfl rfl rfl rfl (lt_of rfl) (fun h2 => ?_) (fun h2 => ?_)
  rotate_left
  ·
    try simp only [HS] at h2
    refine WO_guardN rfl rfl rfl rfl rfl (lt_of rfl) ?_
    refine ev ?_
    refine WO_nil ?_
    refine thenQ_n ?_
    refine W_condT rfl ?_
    refine W_seq ?_
    refine W_region ?_
    refine ev ?_
    refine ev ?_
    refine WO_nil ?_
    refine thenQ_n ?_
    refine W_ret ?_
    refine thenQ_r ?_
    refine Ends_of (.inr rfl) (ret_okF rfl) (by decide) rfl ?_
    · first
      | exact fuel_ret (by rw [fuelOk, h1]; rfl) rfl
      | exact fuel_ret (by rw [fuelOk, h1, h2]; rfl) rfl
      | exact fuel_ret (by rw [fuelOk, h1, h2, h3]; rfl) rfl
      | exact fuel_ret (by rw [fuelOk, h1, h2, h3, decide_eq_false (by omega)]; rfl) rfl
      | exact fuel_ret (by rw [fuelOk, h1, h2, h3, decide_eq_true (by omega)]; rfl) rfl
  try simp only [HS] at h2
  first | (refine ev ?_; try refine WO_le (Le.freeze (u := 13) rfl) ?_) | refine WO_loadMove tys rfl rfl (lt_of rfl) rfl rfl rfl rfl rfl rfl ?_
  refine WO_norm rfl ?_
  refine WO_guardY rfl rfl rfl rfl (lt_of rfl) ?_
  refine callB ?_
  refine ⟨_, anyStmt_fun p _ (fun s => decide (s.kind = 8)) hp h1 fuelBound1_fun, rfl, ?_⟩
  refine ev ?_
  refine WO_nil ?_
  refine thenQ_n ?_
  refine W_cond rfl (fun h3 => ?_) (fun h3 => ?_)
  ·
    try simp only [HS] at h3
    refine W_seq ?_
    refine W_region ?_
    refine ev ?_
    refine ev ?_
    refine WO_nil ?_
    refine thenQ_n ?_
    refine W_ret ?_
    refine thenQ_r ?_
    refine Ends_of (.inr rfl) (ret_okF rfl) (by decide) rfl ?_
    · first
      | exact fuel_ret (by rw [fuelOk, h1]; rfl) rfl
      | exact fuel_ret (by rw [fuelOk, h1, h2]; rfl) rfl
      | exact fuel_ret (by rw [fuelOk, h1, h2, h3]; rfl) rfl
      | exact fuel_ret (by rw [fuelOk, h1, h2, h3, decide_eq_false (by omega)]; rfl) rfl
      | exact fuel_ret (by rw [fuelOk, h1, h2, h3, decide_eq_true (by omega)]; rfl) rfl
  try simp only [HS] at h3
  refine W_skip ?_
  refine thenQ_n ?_
  refine W_seq ?_
  refine W_region ?_
  first | (refine ev ?_; try refine WO_le (Le.freeze (u := 16) rfl) ?_) | refine WO_loadMove tys rfl rfl (lt_of rfl) rfl rfl rfl rfl rfl rfl ?_
  refine WO_norm rfl ?_
  refine callB ?_
  refine ⟨_, fuelBound_fun p hp h1 h2, rfl, ?_⟩
  refine ev ?_
  refine WO_nil ?_
  refine thenQ_n ?_
  refine W_seq ?_
  refine W_seq ?_
  refine W_keep [2, 3, 4] rfl ?_
  refine W_region ?_
  refine ev ?_
  refine ev ?_
  refine WO_nil ?_
  refine thenQ_n ?_
  refine W_cond rfl (fun h4 => ?_) (fun h4 => ?_)
  ·
    try simp only [HS] at h4
    refine W_seq ?_
    refine W_region ?_
    refine ev ?_
    refine ev ?_
    refine WO_nil ?_
    refine thenQ_n ?_
    refine W_ret ?_
    refine thenQ_r ?_
    refine Ends_of (.inr rfl) (ret_okF rfl) (by decide) rfl ?_
    · first
      | exact fuel_ret (by rw [fuelOk, h1]; rfl) rfl
      | exact fuel_ret (by rw [fuelOk, h1, h2]; rfl) rfl
      | exact fuel_ret (by rw [fuelOk, h1, h2, h3]; rfl) rfl
      | exact fuel_ret (by rw [fuelOk, h1, h2, h3, decide_eq_false (by omega)]; rfl) rfl
      | exact fuel_ret (by rw [fuelOk, h1, h2, h3, decide_eq_true (by omega)]; rfl) rfl
  try simp only [HS] at h4
  refine W_skip ?_
  refine thenQ_n ?_
  refine W_seq ?_
  refine W_region ?_
  refine ev ?_
  refine ev ?_
  refine ev ?_
  refine WO_nil ?_
  refine thenQ_n ?_
  refine W_ret ?_
  refine Ends_of (.inr rfl) (ret_okF rfl) (by decide) rfl ?_
  · first
    | exact fuel_ret (by rw [fuelOk, h1]; rfl) rfl
    | exact fuel_ret (by rw [fuelOk, h1, h2]; rfl) rfl
    | exact fuel_ret (by rw [fuelOk, h1, h2, h3]; rfl) rfl
    | exact fuel_ret (by rw [fuelOk, h1, h2, h3, decide_eq_false (by omega)]; rfl) rfl
    | exact fuel_ret (by rw [fuelOk, h1, h2, h3, decide_eq_true (by omega)]; rfl) rfl

theorem lawDeep_fun (p : Prog) (hp : p.ok 9223372036854775807) : Fun Try.prog 9 [.t p.tt] (tupD [.t (.bool true)]) := by
  refine Fun.begin tys Try.func9 rfl rfl (N := 40) [(0, .t p.tt)] rfl rfl (fun w0 G F0 => ?_)
  refine W_seq ?_
  refine W_region ?_
  refine WO_box rfl rfl (lt_of rfl) rfl rfl ?_
  refine WO_norm rfl ?_
  refine ev ?_
  refine WO_nil ?_
  refine thenQ_n ?_
  refine W_seq ?_
  refine W_region ?_
  refine ev ?_
  refine WO_nil ?_
  refine thenQ_n ?_
  refine W_seq ?_
  refine W_region ?_
  first | (refine ev ?_; try refine WO_le (Le.freeze (u := 9) rfl) ?_) | refine WO_loadMove tys rfl rfl (lt_of rfl) rfl rfl rfl rfl rfl rfl ?_
  refine WO_norm rfl ?_
  refine ev ?_
  refine callB ?_
  refine ⟨_, szProg_fun p 1048576 hp (by omega) (by omega), rfl, ?_⟩
  refine ev ?_
  refine WO_nil ?_
  refine thenQ_n ?_
  refine W_seq ?_
  refine W_seq ?_
  refine W_keep [1, 2, 3] rfl ?_
  refine W_region ?_
  refine ev ?_
  refine ev ?_
  refine WO_nil ?_
  refine thenQ_n ?_
  refine W_cond rfl (fun h1 => ?_) (fun h1 => ?_)
  ·
    try simp only [HS] at h1
    refine W_seq ?_
    refine W_region ?_
    refine ev ?_
    refine WO_nil ?_
    refine thenQ_n ?_
    refine W_ret ?_
    refine thenQ_r ?_
    refine Ends_of (.inr rfl) (ret_okF rfl) (by decide) rfl ?_
    · rfl
  try simp only [HS] at h1
  refine W_skip ?_
  refine thenQ_n ?_
  refine W_seq ?_
  refine W_region ?_
  first | (refine ev ?_; try refine WO_le (Le.freeze (u := 15) rfl) ?_) | refine WO_loadMove tys rfl rfl (lt_of rfl) rfl rfl rfl rfl rfl rfl ?_
  refine WO_norm rfl ?_
  refine callB ?_
  refine ⟨_, toProg_fun p (Prog.small h1), rfl, ?_⟩
  refine WO_le (Le.freeze (u := 16) rfl) ?_
  refine WO_norm rfl ?_
  refine callB ?_
  refine ⟨_, specDeep_fun p (Prog.small h1), rfl, ?_⟩
  refine ev ?_
  first | refine WO_evF tys rfl rfl (lt_of rfl) (d := .t _) rfl ?_ | (refine WO_extract rfl rfl (lt_of rfl) rfl rfl rfl rfl ?_; first | refine WO_le (Le.adoptE (u := 18) 18 rfl (by first | exact lenN | exact rfl)) ?_ | skip)
  refine WO_norm rfl ?_
  first | refine WO_evF tys rfl rfl (lt_of rfl) (d := .t _) rfl ?_ | (refine WO_extract rfl rfl (lt_of rfl) rfl rfl rfl rfl ?_; first | refine WO_le (Le.adoptE (u := 19) 19 rfl (by first | exact lenN | exact rfl)) ?_ | skip)
  refine WO_norm rfl ?_
  refine ev ?_
  refine WO_keep [1, 2, 4, 19] rfl ?_
  refine ev ?_
  refine WO_nil ?_
  refine thenQ_n ?_
  refine W_seq ?_
  refine W_region ?_
  first | (refine ev ?_; try refine WO_le (Le.freeze (u := 20) rfl) ?_) | refine WO_loadMove tys rfl rfl (lt_of rfl) rfl rfl rfl rfl rfl rfl ?_
  refine WO_norm rfl ?_
  refine callB ?_
  refine ⟨_, toProg_fun p (Prog.small h1), rfl, ?_⟩
  refine WO_le (Le.freeze (u := 21) rfl) ?_
  refine WO_norm rfl ?_
  refine WO_alloc tys rfl rfl (lt_of rfl) rfl rfl rfl ?_
  refine WO_norm rfl ?_
  refine WO_store tys rfl rfl rfl rfl rfl rfl rfl rfl (lt_of rfl) ?_
  refine WO_norm rfl ?_
  refine WO_nil ?_
  refine thenQ_n ?_
  refine W_seq ?_
  refine W_region ?_
  first | (refine ev ?_; try refine WO_le (Le.freeze (u := 23) rfl) ?_) | refine WO_loadMove tys rfl rfl (lt_of rfl) rfl rfl rfl rfl rfl rfl ?_
  refine WO_norm rfl ?_
  refine callB ?_
  refine ⟨_, implDeep_fun p (Prog.small h1), rfl, ?_⟩
  refine ev ?_
  first | refine WO_evF tys rfl rfl (lt_of rfl) (d := .t _) rfl ?_ | (refine WO_extract rfl rfl (lt_of rfl) rfl rfl rfl rfl ?_; first | refine WO_le (Le.adoptE (u := 25) 25 rfl (by first | exact lenN | exact rfl)) ?_ | skip)
  refine WO_norm rfl ?_
  refine WO_keep [1, 2, 4, 5, 6, 22, 25] rfl ?_
  first | refine WO_evF tys rfl rfl (lt_of rfl) (d := .t _) rfl ?_ | (refine WO_extract rfl rfl (lt_of rfl) rfl rfl rfl rfl ?_; first | refine WO_le (Le.adoptE (u := 26) 26 rfl (by first | exact lenN | exact rfl)) ?_ | skip)
  refine WO_norm rfl ?_
  refine ev ?_
  refine ev ?_
  refine WO_nil ?_
  refine thenQ_n ?_
  refine W_seq ?_
  refine W_seq ?_
  refine W_region ?_
  refine ev ?_
  refine ev ?_
  refine ev ?_
  refine WO_le (Le.known (t := 29) false rfl (by simp)) ?_
  refine ev ?_
  refine WO_guardY rfl rfl rfl rfl (lt_of rfl) ?_
  refine ev ?_
  refine WO_guardY rfl rfl rfl rfl (lt_of rfl) ?_
  refine ev ?_
  refine WO_keep [1, 2, 6, 30, 31, 32] rfl ?_
  refine WO_guardY rfl rfl rfl rfl (lt_of rfl) ?_
  refine ev ?_
  refine WO_le (Le.known (t := 33) false rfl (by simp)) ?_
  refine ev ?_
  refine WO_nil ?_
  refine thenQ_n ?_
  refine W_condF rfl ?_
  refine W_skip ?_
  refine thenQ_n ?_
  refine W_seq ?_
  refine W_seq ?_
  refine W_regionD mixed (by kernel_rfl) ?_
  first | refine QL_evZ tys rfl rfl (lt_of rfl) rfl rfl ?_ | refine evQ ?_ | refine WO_loadMove tys rfl rfl (lt_of rfl) rfl rfl rfl rfl rfl rfl ?_
  first | refine QL_evZ tys rfl rfl (lt_of rfl) rfl rfl ?_ | refine evQ ?_ | refine WO_loadMove tys rfl rfl (lt_of rfl) rfl rfl rfl rfl rfl rfl ?_
  refine callBQ ?_
  refine ⟨_, toProg_fun p (Prog.small h1), rfl, ?_⟩
  refine callBQ ?_
  refine ⟨_, eqProg_fun p p hp hp, rfl, ?_⟩
  refine QL_known (v := true) (eqProg_refl p) ?_
  refine QL_norm rfl ?_
  refine evQ ?_
  refine QL_nil ?_
  refine thenQ_n ?_
  refine W_condF rfl ?_
  refine W_skip ?_
  refine thenQ_n ?_
  refine W_seq ?_
  refine W_region ?_
  refine ev ?_
  refine WO_nil ?_
  refine thenQ_n ?_
  refine W_ret ?_
  refine Ends_of (.inr rfl) (ret_okF rfl) (by decide) rfl ?_
  · rfl

theorem lawFuel_fun (p : Prog) (hp : p.ok 9223372036854775807) : Fun Try.prog 12 [.t p.tt] (tupD [.t (.bool true)]) := by
  refine Fun.begin tys Try.func12 rfl rfl (N := 40) [(0, .t p.tt)] rfl rfl (fun w0 G F0 => ?_)
  refine W_seq ?_
  refine W_region ?_
  refine WO_box rfl rfl (lt_of rfl) rfl rfl ?_
  refine WO_norm rfl ?_
  refine ev ?_
  refine WO_nil ?_
  refine thenQ_n ?_
  refine W_seq ?_
  refine W_region ?_
  refine ev ?_
  refine WO_nil ?_
  refine thenQ_n ?_
  refine W_seq ?_
  refine W_region ?_
  first | (refine ev ?_; try refine WO_le (Le.freeze (u := 9) rfl) ?_) | refine WO_loadMove tys rfl rfl (lt_of rfl) rfl rfl rfl rfl rfl rfl ?_
  refine WO_norm rfl ?_
  refine ev ?_
  refine callB ?_
  refine ⟨_, szProg_fun p 1048576 hp (by omega) (by omega), rfl, ?_⟩
  refine ev ?_
  refine WO_nil ?_
  refine thenQ_n ?_
  refine W_seq ?_
  refine W_seq ?_
  refine W_keep [1, 2, 3] rfl ?_
  refine W_region ?_
  refine ev ?_
  refine ev ?_
  refine WO_nil ?_
  refine thenQ_n ?_
  refine W_cond rfl (fun h1 => ?_) (fun h1 => ?_)
  ·
    try simp only [HS] at h1
    refine W_seq ?_
    refine W_region ?_
    refine ev ?_
    refine WO_nil ?_
    refine thenQ_n ?_
    refine W_ret ?_
    refine thenQ_r ?_
    refine Ends_of (.inr rfl) (ret_okF rfl) (by decide) rfl ?_
    · rfl
  try simp only [HS] at h1
  refine W_skip ?_
  refine thenQ_n ?_
  refine W_seq ?_
  refine W_region ?_
  first | (refine ev ?_; try refine WO_le (Le.freeze (u := 15) rfl) ?_) | refine WO_loadMove tys rfl rfl (lt_of rfl) rfl rfl rfl rfl rfl rfl ?_
  refine WO_norm rfl ?_
  refine callB ?_
  refine ⟨_, toProg_fun p (Prog.small h1), rfl, ?_⟩
  refine WO_le (Le.freeze (u := 16) rfl) ?_
  refine WO_norm rfl ?_
  refine callB ?_
  refine ⟨_, specFuel_fun p (Prog.small h1), rfl, ?_⟩
  refine ev ?_
  first | refine WO_evF tys rfl rfl (lt_of rfl) (d := .t _) rfl ?_ | (refine WO_extract rfl rfl (lt_of rfl) rfl rfl rfl rfl ?_; first | refine WO_le (Le.adoptE (u := 18) 18 rfl (by first | exact lenN | exact rfl)) ?_ | skip)
  refine WO_norm rfl ?_
  first | refine WO_evF tys rfl rfl (lt_of rfl) (d := .t _) rfl ?_ | (refine WO_extract rfl rfl (lt_of rfl) rfl rfl rfl rfl ?_; first | refine WO_le (Le.adoptE (u := 19) 19 rfl (by first | exact lenN | exact rfl)) ?_ | skip)
  refine WO_norm rfl ?_
  refine ev ?_
  refine WO_keep [1, 2, 4, 19] rfl ?_
  refine ev ?_
  refine WO_nil ?_
  refine thenQ_n ?_
  refine W_seq ?_
  refine W_region ?_
  first | (refine ev ?_; try refine WO_le (Le.freeze (u := 20) rfl) ?_) | refine WO_loadMove tys rfl rfl (lt_of rfl) rfl rfl rfl rfl rfl rfl ?_
  refine WO_norm rfl ?_
  refine callB ?_
  refine ⟨_, toProg_fun p (Prog.small h1), rfl, ?_⟩
  refine WO_le (Le.freeze (u := 21) rfl) ?_
  refine WO_norm rfl ?_
  refine WO_alloc tys rfl rfl (lt_of rfl) rfl rfl rfl ?_
  refine WO_norm rfl ?_
  refine WO_store tys rfl rfl rfl rfl rfl rfl rfl rfl (lt_of rfl) ?_
  refine WO_norm rfl ?_
  refine WO_nil ?_
  refine thenQ_n ?_
  refine W_seq ?_
  refine W_region ?_
  first | (refine ev ?_; try refine WO_le (Le.freeze (u := 23) rfl) ?_) | refine WO_loadMove tys rfl rfl (lt_of rfl) rfl rfl rfl rfl rfl rfl ?_
  refine WO_norm rfl ?_
  refine callB ?_
  refine ⟨_, implFuel_fun p (Prog.small h1), rfl, ?_⟩
  refine ev ?_
  first | refine WO_evF tys rfl rfl (lt_of rfl) (d := .t _) rfl ?_ | (refine WO_extract rfl rfl (lt_of rfl) rfl rfl rfl rfl ?_; first | refine WO_le (Le.adoptE (u := 25) 25 rfl (by first | exact lenN | exact rfl)) ?_ | skip)
  refine WO_norm rfl ?_
  refine WO_keep [1, 2, 4, 5, 6, 22, 25] rfl ?_
  first | refine WO_evF tys rfl rfl (lt_of rfl) (d := .t _) rfl ?_ | (refine WO_extract rfl rfl (lt_of rfl) rfl rfl rfl rfl ?_; first | refine WO_le (Le.adoptE (u := 26) 26 rfl (by first | exact lenN | exact rfl)) ?_ | skip)
  refine WO_norm rfl ?_
  refine ev ?_
  refine ev ?_
  refine WO_nil ?_
  refine thenQ_n ?_
  refine W_seq ?_
  refine W_seq ?_
  refine W_region ?_
  refine ev ?_
  refine ev ?_
  refine ev ?_
  refine WO_le (Le.known (t := 29) false rfl (by simp)) ?_
  refine ev ?_
  refine WO_guardY rfl rfl rfl rfl (lt_of rfl) ?_
  refine ev ?_
  refine WO_guardY rfl rfl rfl rfl (lt_of rfl) ?_
  refine ev ?_
  refine WO_keep [1, 2, 6, 30, 31, 32] rfl ?_
  refine WO_guardY rfl rfl rfl rfl (lt_of rfl) ?_
  refine ev ?_
  refine WO_le (Le.known (t := 33) false rfl (by simp)) ?_
  refine ev ?_
  refine WO_nil ?_
  refine thenQ_n ?_
  refine W_condF rfl ?_
  refine W_skip ?_
  refine thenQ_n ?_
  refine W_seq ?_
  refine W_seq ?_
  refine W_regionD mixed (by kernel_rfl) ?_
  first | refine QL_evZ tys rfl rfl (lt_of rfl) rfl rfl ?_ | refine evQ ?_ | refine WO_loadMove tys rfl rfl (lt_of rfl) rfl rfl rfl rfl rfl rfl ?_
  first | refine QL_evZ tys rfl rfl (lt_of rfl) rfl rfl ?_ | refine evQ ?_ | refine WO_loadMove tys rfl rfl (lt_of rfl) rfl rfl rfl rfl rfl rfl ?_
  refine callBQ ?_
  refine ⟨_, toProg_fun p (Prog.small h1), rfl, ?_⟩
  refine callBQ ?_
  refine ⟨_, eqProg_fun p p hp hp, rfl, ?_⟩
  refine QL_known (v := true) (eqProg_refl p) ?_
  refine QL_norm rfl ?_
  refine evQ ?_
  refine QL_nil ?_
  refine thenQ_n ?_
  refine W_condF rfl ?_
  refine W_skip ?_
  refine thenQ_n ?_
  refine W_seq ?_
  refine W_region ?_
  refine ev ?_
  refine WO_nil ?_
  refine thenQ_n ?_
  refine W_ret ?_
  refine Ends_of (.inr rfl) (ret_okF rfl) (by decide) rfl ?_
  · rfl

end Go.Proofs.Ytjnkcoaiccbmpaa
