/- The types of worlds: their mirrors, and the functions that size, lay anew and compare them. -/
import Derived.Test.YtbkamkmmljbedaaFs
set_option linter.unusedVariables false
set_option linter.unusedSimpArgs false
set_option maxRecDepth 10000
namespace Go.Proofs.Ytbkamkmmljbedaa
open Go.Eng

abbrev T.bools (l : List Bool) : T := .list 1 (l.map T.bool)

theorem szBoolS_fun (l : List Bool) (left : Int) (hl : okN 9223372036854775807 l) (h0 : 0 ≤ left) (hh : left ≤ 1048576) : Fun Try.prog 38 [.t (T.bools l), .t (.int left)] (tupD [.t (.int (szLen l left))]) := by
  unfold okN at hl
  refine Fun.begin tys Try.func38 rfl rfl (N := 12) [(0, .t (T.bools l)), (1, .t (.int left))] rfl rfl (fun w0 G F0 => ?_)
  refine W_seq ?_
  refine W_region ?_
  refine ev ?_
  refine WO_nil ?_
  refine thenQ_n ?_
  refine W_seq ?_
  refine W_region ?_
  refine ev ?_
  refine ev ?_
  refine evE ?_
  refine evI ?_
  refine ev ?_
  refine WO_nil ?_
  refine thenQ_n ?_
  iterate 2 (refine W_seq ?_)
  refine W_region ?_
  refine ev ?_
  refine ev ?_
  refine WO_nil ?_
  refine thenQ_n ?_
  refine W_cond rfl (fun h1 => ?_) (fun h1 => ?_)
  ·
    try simp only [HS] at h1
    refine W_seq ?_
    refine W_keep [1, 4] rfl ?_
    refine W_region ?_
    refine ev ?_
    refine WO_nil ?_
    refine thenQ_n ?_
    refine W_ret ?_
    refine thenQ_r ?_
    refine Ends_of (.inr rfl) (ret_okF rfl) (by decide) rfl ?_
    · (simp only [szLen, szN]; simp_all <;> omega)
  try simp only [HS] at h1
  refine W_skip ?_
  refine thenQ_n ?_
  refine W_seq ?_
  refine W_keep [1, 4] rfl ?_
  refine W_region ?_
  refine ev ?_
  refine ev ?_
  refine WO_nil ?_
  refine thenQ_n ?_
  refine W_ret ?_
  refine Ends_of (.inr rfl) (ret_okF rfl) (by decide) rfl ?_
  · (simp only [szLen, szN]; simp_all <;> omega)

theorem toBoolS_fun (l : List Bool) (hl : okN 1048576 l) : Fun Try.prog 42 [.t (T.bools l)] (tupD [.own (T.bools l)]) := by
  unfold okN at hl
  refine Fun.begin tys Try.func42 rfl rfl (N := 22) [(0, .t (T.bools l))] rfl rfl (fun w0 G F0 => ?_)
  refine W_seq ?_
  refine W_region ?_
  refine ev ?_
  refine WO_nil ?_
  refine thenQ_n ?_
  refine W_seq ?_
  refine W_region ?_
  refine ev ?_
  refine evE ?_
  refine WO_make tys (.v (.bool false)) _ rfl rfl (lt_of rfl) rfl rfl rfl rfl rfl (by repeat (first | exact AbsL.nil' | refine AbsL.v' ?_ | refine AbsL.none' ?_)) rfl (by omega) (by decide) ?_
  refine WO_norm rfl ?_
  refine ev ?_
  refine WO_nil ?_
  refine thenQ_n ?_
  iterate 2 (refine W_seq ?_)
  refine W_region ?_
  refine ev ?_
  refine WO_nil ?_
  refine thenQ_n ?_
  refine W_block ?_
  refine W_loopK (α := Int × List T) [0, 3] [] (fun (x : Int × List T) => [(4, .t (.int (x.1)))]) (fun (x : Int × List T) => [(7, .L 1 (x.2))]) (fun (x : Int × List T) => 0 ≤ (x.1) ∧ (x.1) ≤ l.length ∧ (x.2).length = l.length ∧ (x.2).take (x.1).toNat = (l.take (x.1).toNat).map T.bool) (fun (x : Int × List T) => Int.toNat (l.length - (x.1))) (0, List.replicate l.length (T.bool false)) ?_ ?_ ?_ (fun x hx => ?_)
  · repeat (first | exact Sub.nil' | refine Sub.cons' rfl ?_ )
  · repeat (first | exact SubM.nil' | refine SubM.cons' rfl ?_ )
  · exact ⟨by omega, by omega, by simp, by simp⟩
  obtain ⟨k, xs⟩ := x
  obtain ⟨hk0, hk1, hk2, hk3⟩ := hx
  try dsimp only at hk0 hk1 hk2 hk3 ⊢
  refine W_norm rfl ?_
  iterate 2 (refine W_seq ?_)
  refine W_region ?_
  refine ev ?_
  refine ev ?_
  refine evE ?_
  refine ev ?_
  refine WO_nil ?_
  refine thenQ_n ?_
  refine W_cond rfl (fun h1 => ?_) (fun h1 => ?_)
  ·
    try simp only [HS] at h1
    refine W_skip ?_
    refine thenQ_n ?_
    refine W_seq ?_
    refine W_block ?_
    refine W_region ?_
    iterate 4 (refine ev ?_)
    first | refine WO_idxT tys rfl rfl (lt_of rfl) rfl rfl rfl rfl rfl rfl rfl (by omega) _ (getT _ _ (by omega) (by omega)) ?_ | refine WO_idxS tys rfl rfl (lt_of rfl) rfl rfl rfl rfl rfl rfl rfl rfl (by omega) (by omega) ?_
    refine WO_keep [0, 3, 4, 8, 9, 10, 11, 14, 15, 16, 17, 18] rfl ?_
    first | refine ev ?_ | refine WO_loadL tys rfl rfl (lt_of rfl) rfl rfl rfl rfl (getT _ _ (by omega) (by omega)) rfl ?_ | refine WO_loadL tys rfl rfl (lt_of rfl) rfl rfl rfl rfl (getT0 _ _ (by omega) (by omega)) rfl ?_
    first | refine WO_idxT tys rfl rfl (lt_of rfl) rfl rfl rfl rfl rfl rfl rfl (by omega) _ (getT _ _ (by omega) (by omega)) ?_ | refine WO_idxS tys rfl rfl (lt_of rfl) rfl rfl rfl rfl rfl rfl rfl rfl (by omega) (by omega) ?_
    first | refine WO_storeE tys (T.bool _) rfl rfl rfl rfl rfl rfl (by first | exact Nat.zero_add _ | rfl) (by omega) rfl (by repeat (first | exact AbsL.nil' | refine AbsL.v' ?_ | refine AbsL.own' ?_)) rfl rfl rfl ?_ | refine WO_storeL tys _ rfl rfl rfl rfl rfl rfl (getT _ _ (by omega) (by omega)) rfl (by repeat (first | exact AbsL.nil' | refine AbsL.v' ?_ | refine AbsL.own' ?_)) rfl (by decide) (by decide) ?_
    refine WO_norm rfl ?_
    refine WO_nil ?_
    refine inBlk_n ?_
    refine thenQ_n ?_
    refine W_region ?_
    refine ev ?_
    refine evI ?_
    refine ev ?_
    refine WO_nil ?_
    refine loopQ_n (_, _) (by (try dsimp only); repeat (first | exact Sub.nil' | refine Sub.cons' rfl ?_ )) (by (try dsimp only); repeat (first | exact SubM.nil' | refine SubM.cons' rfl ?_ )) ?_ ?_
    · try dsimp only
      exact ⟨by omega, by omega, by simpa using hk2, fill_step hk0 (by omega) hk2 hk3⟩
    · (show Int.toNat _ < Int.toNat _); omega
  try simp only [HS] at h1
  refine W_exit ?_
  refine thenQ_e ?_
  refine loopQ_e ?_
  refine inBlk_y ?_
  refine thenQ_n ?_
  refine W_seq ?_
  refine W_region ?_
  refine ev ?_
  refine ev ?_
  refine WO_nil ?_
  refine thenQ_n ?_
  refine W_le (Le.gather (u := 2) (id := 7) rfl rfl (by omega)) ?_
  refine W_ret ?_
  refine Ends_of (.inr rfl) (ret_okF rfl) (by decide) rfl ?_
  · rw [List.take_of_length_le (by omega), fill_end (by omega) hk2 hk3]

theorem eqBoolS_fun (a b : List Bool) (ha : okN 9223372036854775807 a) (hb : okN 9223372036854775807 b) : Fun Try.prog 46 [.t (T.bools a), .t (T.bools b)] (tupD [.t (.bool (eqL eqB a b))]) := by
  unfold okN at ha hb
  refine Fun.begin tys Try.func46 rfl rfl (N := 26) [(0, .t (T.bools a)), (1, .t (T.bools b))] rfl rfl (fun w0 G F0 => ?_)
  refine W_seq ?_
  refine W_region ?_
  refine ev ?_
  refine WO_nil ?_
  refine thenQ_n ?_
  iterate 2 (refine W_seq ?_)
  refine W_region ?_
  refine ev ?_
  refine evE ?_
  refine ev ?_
  refine evE ?_
  refine ev ?_
  refine WO_nil ?_
  refine thenQ_n ?_
  refine W_cond rfl (fun h1 => ?_) (fun h1 => ?_)
  ·
    try simp only [HS] at h1
    refine W_seq ?_
    refine W_region ?_
    refine ev ?_
    refine WO_nil ?_
    refine thenQ_n ?_
    refine W_ret ?_
    refine thenQ_r ?_
    refine Ends_of (.inr rfl) (ret_okF rfl) (by decide) rfl ?_
    · first | (rw [eqL_len h1]; done) | (rw [eqL_eq h1, hk2, eqGo_at hk0 h2 h1]; simp [eqB, h3]; done) | (rw [eqL_eq h1, hk2, drop_end h2]; rfl)
  try simp only [HS] at h1
  refine W_skip ?_
  refine thenQ_n ?_
  iterate 2 (refine W_seq ?_)
  refine W_region ?_
  refine ev ?_
  refine WO_nil ?_
  refine thenQ_n ?_
  refine W_block ?_
  refine W_loopK (α := Int) [0, 1] [] (fun (x : Int) => [(5, .t (.int x))]) (fun (x : Int) => []) (fun (x : Int) => 0 ≤ x ∧ x ≤ a.length ∧ eqGo eqB a b = eqGo eqB (a.drop x.toNat) (b.drop x.toNat)) (fun (x : Int) => Int.toNat (a.length - x)) 0 ?_ ?_ ?_ (fun k hx => ?_)
  · repeat (first | exact Sub.nil' | refine Sub.cons' rfl ?_ )
  · repeat (first | exact SubM.nil' | refine SubM.cons' rfl ?_ )
  · exact ⟨by omega, by omega, rfl⟩
  obtain ⟨hk0, hk1, hk2⟩ := hx
  refine W_norm rfl ?_
  iterate 2 (refine W_seq ?_)
  refine W_region ?_
  refine ev ?_
  refine ev ?_
  refine evE ?_
  refine ev ?_
  refine WO_nil ?_
  refine thenQ_n ?_
  refine W_cond rfl (fun h2 => ?_) (fun h2 => ?_)
  ·
    try simp only [HS] at h2
    refine W_skip ?_
    refine thenQ_n ?_
    refine W_seq ?_
    refine W_block ?_
    refine W_seq ?_
    refine W_regionD mixed (by kernel_rfl) ?_
    refine evQ ?_
    refine evQ ?_
    refine QL_norm rfl ?_
    first | refine QL_idxT tys rfl rfl (lt_of rfl) rfl rfl rfl rfl rfl rfl rfl (by omega) _ (getT _ _ (by omega) (by omega)) ?_ | refine QL_idxS tys rfl rfl (lt_of rfl) rfl rfl rfl rfl rfl rfl rfl rfl (by omega) (by omega) ?_
    first | refine evQ ?_ | refine QL_loadL tys rfl rfl (lt_of rfl) rfl rfl rfl rfl (getT _ _ (by omega) (by omega)) rfl ?_ | refine QL_loadL tys rfl rfl (lt_of rfl) rfl rfl rfl rfl (getT0 _ _ (by omega) (by omega)) rfl ?_
    refine evQ ?_
    refine evQ ?_
    first | refine QL_idxT tys rfl rfl (lt_of rfl) rfl rfl rfl rfl rfl rfl rfl (by omega) _ (getT _ _ (by omega) (by omega)) ?_ | refine QL_idxS tys rfl rfl (lt_of rfl) rfl rfl rfl rfl rfl rfl rfl rfl (by omega) (by omega) ?_
    first | refine evQ ?_ | refine QL_loadL tys rfl rfl (lt_of rfl) rfl rfl rfl rfl (getT _ _ (by omega) (by omega)) rfl ?_ | refine QL_loadL tys rfl rfl (lt_of rfl) rfl rfl rfl rfl (getT0 _ _ (by omega) (by omega)) rfl ?_
    refine QL_norm rfl ?_
    refine evQ ?_
    refine QL_nil ?_
    refine thenQ_n ?_
    refine W_cond rfl (fun h3 => ?_) (fun h3 => ?_)
    ·
      try simp only [HS] at h3
      refine W_seq ?_
      refine W_region ?_
      refine ev ?_
      refine WO_nil ?_
      refine thenQ_n ?_
      refine W_ret ?_
      refine inBlk_r ?_
      refine thenQ_r ?_
      refine loopQ_r ?_
      refine inBlk_r ?_
      refine thenQ_r ?_
      refine Ends_of (.inr rfl) (ret_okF rfl) (by decide) rfl ?_
      · first | (rw [eqL_len h1]; done) | (rw [eqL_eq h1, hk2, eqGo_at hk0 h2 h1]; simp [eqB, h3]; done) | (rw [eqL_eq h1, hk2, drop_end h2]; rfl)
    try simp only [HS] at h3
    refine W_skip ?_
    refine inBlk_n ?_
    refine thenQ_n ?_
    refine W_region ?_
    refine ev ?_
    refine evI ?_
    refine ev ?_
    refine WO_nil ?_
    refine loopQ_n _ (by (try dsimp only); repeat (first | exact Sub.nil' | refine Sub.cons' rfl ?_ )) (by (try dsimp only); repeat (first | exact SubM.nil' | refine SubM.cons' rfl ?_ )) ?_ ?_
    · try dsimp only
      refine ⟨by omega, by omega, ?_⟩; rw [hk2, eqGo_at hk0 h2 h1]; simp [eqB, h3]
    · (show Int.toNat _ < Int.toNat _); omega
  try simp only [HS] at h2
  refine W_exit ?_
  refine thenQ_e ?_
  refine loopQ_e ?_
  refine inBlk_y ?_
  refine thenQ_n ?_
  refine W_seq ?_
  refine W_region ?_
  refine ev ?_
  refine WO_nil ?_
  refine thenQ_n ?_
  refine W_ret ?_
  refine Ends_of (.inr rfl) (ret_okF rfl) (by decide) rfl ?_
  · first | (rw [eqL_len h1]; done) | (rw [eqL_eq h1, hk2, eqGo_at hk0 h2 h1]; simp [eqB, h3]; done) | (rw [eqL_eq h1, hk2, drop_end h2]; rfl)


/-- An act. -/
inductive Act where
  | mk (kind chan n : Int) (cases : List Act)
def Act.kind : Act → Int | .mk k _ _ _ => k
def Act.chan : Act → Int | .mk _ c _ _ => c
def Act.n : Act → Int | .mk _ _ n _ => n
def Act.cases : Act → List Act | .mk _ _ _ l => l
theorem Act.eta (a : Act) : Act.mk a.kind a.chan a.n a.cases = a := by cases a; rfl
theorem Act.lt {a b : Act} (h : b ∈ a.cases) : SizeOf.sizeOf b < SizeOf.sizeOf a := by
  cases a with
  | mk k c n l => have := List.sizeOf_lt_of_mem h; simp [Act.cases] at this ⊢; omega
theorem Act.ind {p : Act → Prop} (h : ∀ a, (∀ b, b ∈ a.cases → p b) → p a) (a : Act) : p a := h a fun b hb => Act.ind h b
termination_by SizeOf.sizeOf a
decreasing_by exact Act.lt hb
mutual
def Act.toT : Act → T
  | .mk k c n l => .agg [T.int k, T.int c, T.int n, .list 4 (Act.toTs l)]
def Act.toTs : List Act → List T
  | [] => []
  | a :: l => Act.toT a :: Act.toTs l
end
theorem Act.toTs_eq : ∀ l, Act.toTs l = l.map Act.toT
  | [] => by simp [Act.toTs]
  | a :: l => by rw [Act.toTs, Act.toTs_eq l]; rfl
def Act.tt (a : Act) : T := .agg [T.int a.kind, T.int a.chan, T.int a.n, .list 4 (a.cases.map Act.toT)]
theorem Act.toT_eq (a : Act) : a.toT = a.tt := by
  cases a with
  | mk k c n l => rw [Act.toT, Act.toTs_eq]; rfl
theorem getAct (l : List Act) {i : Int} (h0 : 0 ≤ i) (h1 : i < l.length) : (l.map Act.toT)[i.toNat]? = some ((l[i.toNat]'(by omega)).tt) := by
  rw [getT _ _ h0 h1, Act.toT_eq]
inductive Act.ok (B : Nat) : Act → Prop
  | mk {k c n : Int} {l : List Act} : l.length ≤ B → (∀ a, a ∈ l → Act.ok B a) → Act.ok B (.mk k c n l)
theorem Act.ok.cases' {B : Nat} {a : Act} (h : a.ok B) : okL B (Act.ok B) a.cases := by
  cases h with
  | mk h1 h2 => exact ⟨h1, h2⟩
theorem Act.ok.of {B : Nat} {a : Act} (h : okL B (Act.ok B) a.cases) : a.ok B := by
  rw [← Act.eta a]; exact .mk h.1 h.2
mutual
def szAct : Act → Int → Int
  | .mk _ _ _ l, left => if (if left - l.length < 0 then -1 else szActG l (left - l.length)) < 0 then -1 else (if left - l.length < 0 then -1 else szActG l (left - l.length))
def szActG : List Act → Int → Int
  | [], left => left
  | a :: l, left => if szAct a left < 0 then -1 else szActG l (szAct a left)
end
theorem szActG_eq : ∀ l left, szActG l left = szGo szAct l left
  | [], left => by simp [szActG, szGo]
  | a :: l, left => by rw [szActG, szGo, szActG_eq l]
theorem szAct_eq (a : Act) (left : Int) : szAct a left = szSeq [szL szAct a.cases] left := by
  cases a with
  | mk k c n l => rw [szAct, szActG_eq]; rfl
theorem szAct_g : SzG szAct (Act.ok 1048576) := fun a => Act.ind (p := fun a => SzA (szAct a) (Act.ok 1048576 a)) (fun a ih left h0 hh => by
  rw [szAct_eq]
  have h := szSeq_step (szL_a ih) szSeq_nil left h0 hh
  exact ⟨h.1, h.2.1, fun h' => .of (h.2.2 h').1⟩) a
mutual
def eqAct : Act → Act → Bool
  | .mk k c n l, .mk k' c' n' l' => eqI k k' && (eqI c c' && (eqI n n' && (l.length == l'.length && eqActG l l')))
def eqActG : List Act → List Act → Bool
  | a :: l, b :: l' => eqAct a b && eqActG l l'
  | [], _ => true
  | _, [] => true
end
theorem eqActG_eq : ∀ l l', eqActG l l' = eqGo eqAct l l'
  | [], _ => by simp [eqActG, eqGo]
  | a :: l, [] => by simp [eqActG, eqGo]
  | a :: l, b :: l' => by rw [eqActG, eqGo, eqActG_eq l]
theorem eqAct_eq (a b : Act) : eqAct a b = (eqI a.kind b.kind && (eqI a.chan b.chan && (eqI a.n b.n && eqL eqAct a.cases b.cases))) := by
  cases a; cases b; rw [eqAct, eqActG_eq]; rfl
theorem eqL_refl' {α : Type} {f : α → α → Bool} {l : List α} (h : ∀ x, x ∈ l → f x x = true) : eqL f l l = true := by
  unfold eqL
  rw [Bool.and_eq_true]
  refine ⟨by simp, ?_⟩
  induction l with
  | nil => rfl
  | cons x l ih => rw [eqGo, h x (List.mem_cons_self ..), ih fun y hy => h y (List.mem_cons_of_mem _ hy)]; rfl
theorem eqAct_refl (a : Act) : eqAct a a = true := Act.ind (p := fun a => eqAct a a = true) (fun a ih => by rw [eqAct_eq, eqL_refl' ih]; simp [eqI]) a

abbrev Act.dd (a : Act) : D := .agg [.t (T.int a.kind), .t (T.int a.chan), .t (T.int a.n), .own (.list 4 (a.cases.map Act.toT))]
abbrev T.Acts (l : List (Act)) : T := .list 4 (l.map Act.toT)
theorem szActS_g : SzG (szL szAct) (okL 1048576 (Act.ok 1048576)) := szL_g szAct_g

theorem szActS_fun (l : List (Act)) (left : Int) (hl : okL 9223372036854775807 (Act.ok 9223372036854775807) l) (h0 : 0 ≤ left) (hh : left ≤ 1048576) (hf : ∀ y, y ∈ l → ∀ left : Int, 0 ≤ left → left ≤ 1048576 → Fun Try.prog 93 [.t (Act.tt y), .t (.int left)] (.t (.int (szAct y left)))) : Fun Try.prog 52 [.t (T.Acts l), .t (.int left)] (tupD [.t (.int (szL szAct l left))]) := by
  have hl1 := hl.1
  refine Fun.begin tys Try.func52 rfl rfl (N := 27) [(0, .t (T.Acts l)), (1, .t (.int left))] rfl rfl (fun w0 G F0 => ?_)
  refine W_seq ?_
  refine W_region ?_
  refine ev ?_
  refine WO_nil ?_
  refine thenQ_n ?_
  refine W_seq ?_
  refine W_region ?_
  refine ev ?_
  refine ev ?_
  refine evE ?_
  refine evI ?_
  refine ev ?_
  refine WO_nil ?_
  refine thenQ_n ?_
  iterate 2 (refine W_seq ?_)
  refine W_region ?_
  refine ev ?_
  refine ev ?_
  refine WO_nil ?_
  refine thenQ_n ?_
  refine W_cond rfl (fun h1 => ?_) (fun h1 => ?_)
  ·
    try simp only [HS] at h1
    refine W_seq ?_
    refine W_keep [0, 1, 4] rfl ?_
    refine W_region ?_
    refine ev ?_
    refine WO_nil ?_
    refine thenQ_n ?_
    refine W_ret ?_
    refine thenQ_r ?_
    refine Ends_of (.inr rfl) (ret_okF rfl) (by decide) rfl ?_
    · first | (rw [szL, if_pos h1]; done) | (rw [szL, if_neg (by omega), hk4, drop_at hk0 (by omega), szGo, if_pos h3]; done) | (rw [szL, if_neg (by omega), hk4, drop_end (by omega), szGo]; done)
  try simp only [HS] at h1
  refine W_skip ?_
  refine thenQ_n ?_
  iterate 2 (refine W_seq ?_)
  refine W_keep [0, 1, 4] rfl ?_
  refine W_region ?_
  refine ev ?_
  refine WO_nil ?_
  refine thenQ_n ?_
  refine W_block ?_
  refine W_loopK (α := Int × Int) [0] [] (fun (x : Int × Int) => [(5, .t (.int (x.1))), (1, .t (.int (x.2)))]) (fun (x : Int × Int) => []) (fun (x : Int × Int) => 0 ≤ (x.1) ∧ (x.1) ≤ l.length ∧ 0 ≤ (x.2) ∧ (x.2) ≤ 1048576 ∧ szGo szAct l (left - l.length) = szGo szAct (l.drop (x.1).toNat) (x.2)) (fun (x : Int × Int) => Int.toNat (l.length - (x.1))) (0, left - l.length) ?_ ?_ ?_ (fun x hx => ?_)
  · repeat (first | exact Sub.nil' | refine Sub.cons' rfl ?_ )
  · repeat (first | exact SubM.nil' | refine SubM.cons' rfl ?_ )
  · exact ⟨by omega, by omega, by omega, by omega, by simp⟩
  obtain ⟨k, lf⟩ := x
  obtain ⟨hk0, hk1, hk2, hk3, hk4⟩ := hx
  try dsimp only at hk0 hk1 hk2 hk3 hk4 ⊢
  refine W_norm rfl ?_
  iterate 2 (refine W_seq ?_)
  refine W_region ?_
  refine ev ?_
  refine ev ?_
  refine evE ?_
  refine ev ?_
  refine WO_nil ?_
  refine thenQ_n ?_
  refine W_cond rfl (fun h2 => ?_) (fun h2 => ?_)
  ·
    try simp only [HS] at h2
    refine W_skip ?_
    refine thenQ_n ?_
    refine W_seq ?_
    refine W_block ?_
    refine W_seq ?_
    refine W_region ?_
    refine ev ?_
    refine ev ?_
    first | refine WO_idxT tys rfl rfl (lt_of rfl) rfl rfl rfl rfl rfl rfl rfl (by omega) _ (getAct _ (by omega) (by omega)) ?_ | refine WO_idxS tys rfl rfl (lt_of rfl) rfl rfl rfl rfl rfl rfl rfl rfl (by omega) (by omega) ?_
    first | (refine ev ?_; try refine WO_le (Le.freeze (u := 21) rfl) ?_) | refine WO_loadL tys rfl rfl (lt_of rfl) rfl rfl rfl rfl (getT _ _ (by omega) (by omega)) rfl ?_ | refine WO_loadL tys rfl rfl (lt_of rfl) rfl rfl rfl rfl (getT0 _ _ (by omega) (by omega)) rfl ?_
    refine WO_norm rfl ?_
    refine ev ?_
    refine WO_keep [0, 1, 5, 12, 13, 14, 15, 18, 19, 20, 21, 22] rfl ?_
    refine callB ?_
    refine ⟨_, hf _ (List.getElem_mem _) _ (by omega) (by omega), rfl, ?_⟩
    refine ev ?_
    refine WO_nil ?_
    refine thenQ_n ?_
    refine W_seq ?_
    refine W_region ?_
    refine ev ?_
    refine ev ?_
    refine WO_nil ?_
    refine thenQ_n ?_
    refine W_cond rfl (fun h3 => ?_) (fun h3 => ?_)
    ·
      try simp only [HS] at h3
      refine W_seq ?_
      refine W_region ?_
      refine ev ?_
      refine WO_nil ?_
      refine thenQ_n ?_
      refine W_ret ?_
      refine inBlk_r ?_
      refine thenQ_r ?_
      refine loopQ_r ?_
      refine inBlk_r ?_
      refine thenQ_r ?_
      refine Ends_of (.inr rfl) (ret_okF rfl) (by decide) rfl ?_
      · first | (rw [szL, if_pos h1]; done) | (rw [szL, if_neg (by omega), hk4, drop_at hk0 (by omega), szGo, if_pos h3]; done) | (rw [szL, if_neg (by omega), hk4, drop_end (by omega), szGo]; done)
    try simp only [HS] at h3
    refine W_skip ?_
    refine inBlk_n ?_
    refine thenQ_n ?_
    refine W_region ?_
    refine ev ?_
    refine evI ?_
    refine ev ?_
    refine WO_nil ?_
    refine loopQ_n (_, _) (by (try dsimp only); repeat (first | exact Sub.nil' | refine Sub.cons' rfl ?_ )) (by (try dsimp only); repeat (first | exact SubM.nil' | refine SubM.cons' rfl ?_ )) ?_ ?_
    · try dsimp only
      (have hb := szAct_g (l[k.toNat]'(by omega)) lf hk2 hk3; refine ⟨by omega, by omega, by omega, by omega, ?_⟩; rw [hk4, drop_at hk0 (by omega), szGo, if_neg (by omega)])
    · (show Int.toNat _ < Int.toNat _); omega
  try simp only [HS] at h2
  refine W_exit ?_
  refine thenQ_e ?_
  refine loopQ_e ?_
  refine inBlk_y ?_
  refine thenQ_n ?_
  refine W_seq ?_
  refine W_region ?_
  refine ev ?_
  refine ev ?_
  refine WO_nil ?_
  refine thenQ_n ?_
  refine W_ret ?_
  refine Ends_of (.inr rfl) (ret_okF rfl) (by decide) rfl ?_
  · first | (rw [szL, if_pos h1]; done) | (rw [szL, if_neg (by omega), hk4, drop_at hk0 (by omega), szGo, if_pos h3]; done) | (rw [szL, if_neg (by omega), hk4, drop_end (by omega), szGo]; done)

theorem toActS_fun (l : List (Act)) (hl : okL 1048576 (Act.ok 1048576) l) (hf : ∀ y, y ∈ l → Fun Try.prog 96 [.t (Act.tt y)] (Act.dd y)) : Fun Try.prog 55 [.t (T.Acts l)] (tupD [.own (T.Acts l)]) := by
  have hl1 := hl.1
  refine Fun.begin tys Try.func55 rfl rfl (N := 23) [(0, .t (T.Acts l))] rfl rfl (fun w0 G F0 => ?_)
  refine W_seq ?_
  refine W_region ?_
  refine ev ?_
  refine WO_nil ?_
  refine thenQ_n ?_
  refine W_seq ?_
  refine W_region ?_
  refine ev ?_
  refine evE ?_
  refine WO_make tys (.agg [.v (.int .i64 0), .v (.int .i64 0), .v (.int .i64 0), .list 4 []]) _ rfl rfl (lt_of rfl) rfl rfl rfl rfl rfl (by repeat (first | exact AbsL.nil' | refine AbsL.v' ?_ | refine AbsL.none' ?_)) rfl (by omega) (by decide) ?_
  refine WO_norm rfl ?_
  refine ev ?_
  refine WO_nil ?_
  refine thenQ_n ?_
  iterate 2 (refine W_seq ?_)
  refine W_region ?_
  refine ev ?_
  refine WO_nil ?_
  refine thenQ_n ?_
  refine W_block ?_
  refine W_loopK (α := Int × List T) [0, 3] [] (fun (x : Int × List T) => [(4, .t (.int (x.1)))]) (fun (x : Int × List T) => [(7, .L 4 (x.2))]) (fun (x : Int × List T) => 0 ≤ (x.1) ∧ (x.1) ≤ l.length ∧ (x.2).length = l.length ∧ (x.2).take (x.1).toNat = (l.take (x.1).toNat).map Act.toT) (fun (x : Int × List T) => Int.toNat (l.length - (x.1))) (0, List.replicate l.length (.agg [.v (.int .i64 0), .v (.int .i64 0), .v (.int .i64 0), .list 4 []])) ?_ ?_ ?_ (fun x hx => ?_)
  · repeat (first | exact Sub.nil' | refine Sub.cons' rfl ?_ )
  · repeat (first | exact SubM.nil' | refine SubM.cons' rfl ?_ )
  · exact ⟨by omega, by omega, by simp, by simp⟩
  obtain ⟨k, xs⟩ := x
  obtain ⟨hk0, hk1, hk2, hk3⟩ := hx
  try dsimp only at hk0 hk1 hk2 hk3 ⊢
  refine W_norm rfl ?_
  iterate 2 (refine W_seq ?_)
  refine W_region ?_
  refine ev ?_
  refine ev ?_
  refine evE ?_
  refine ev ?_
  refine WO_nil ?_
  refine thenQ_n ?_
  refine W_cond rfl (fun h1 => ?_) (fun h1 => ?_)
  ·
    try simp only [HS] at h1
    refine W_skip ?_
    refine thenQ_n ?_
    refine W_seq ?_
    refine W_block ?_
    refine W_region ?_
    iterate 4 (refine ev ?_)
    first | refine WO_idxT tys rfl rfl (lt_of rfl) rfl rfl rfl rfl rfl rfl rfl (by omega) _ (getAct _ (by omega) (by omega)) ?_ | refine WO_idxS tys rfl rfl (lt_of rfl) rfl rfl rfl rfl rfl rfl rfl rfl (by omega) (by omega) ?_
    refine WO_keep [0, 3, 4, 8, 9, 10, 11, 14, 15, 16, 17, 18] rfl ?_
    first | (refine ev ?_; try refine WO_le (Le.freeze (u := 19) rfl) ?_) | refine WO_loadL tys rfl rfl (lt_of rfl) rfl rfl rfl rfl (getT _ _ (by omega) (by omega)) rfl ?_ | refine WO_loadL tys rfl rfl (lt_of rfl) rfl rfl rfl rfl (getT0 _ _ (by omega) (by omega)) rfl ?_
    refine WO_norm rfl ?_
    refine callB ?_
    refine ⟨_, hf _ (List.getElem_mem _), rfl, ?_⟩
    first | refine WO_idxT tys rfl rfl (lt_of rfl) rfl rfl rfl rfl rfl rfl rfl (by omega) _ (getAct _ (by omega) (by omega)) ?_ | refine WO_idxS tys rfl rfl (lt_of rfl) rfl rfl rfl rfl rfl rfl rfl rfl (by omega) (by omega) ?_
    first | refine WO_storeE tys (Act.tt _) rfl rfl rfl rfl rfl rfl (by first | exact Nat.zero_add _ | rfl) (by omega) rfl (by repeat (first | exact AbsL.nil' | refine AbsL.v' ?_ | refine AbsL.own' ?_)) rfl rfl rfl ?_ | refine WO_storeL tys _ rfl rfl rfl rfl rfl rfl (getT _ _ (by omega) (by omega)) rfl (by repeat (first | exact AbsL.nil' | refine AbsL.v' ?_ | refine AbsL.own' ?_)) rfl (by decide) (by decide) ?_
    refine WO_norm rfl ?_
    refine WO_nil ?_
    refine inBlk_n ?_
    refine thenQ_n ?_
    refine W_region ?_
    refine ev ?_
    refine evI ?_
    refine ev ?_
    refine WO_nil ?_
    refine loopQ_n (_, _) (by (try dsimp only); repeat (first | exact Sub.nil' | refine Sub.cons' rfl ?_ )) (by (try dsimp only); repeat (first | exact SubM.nil' | refine SubM.cons' rfl ?_ )) ?_ ?_
    · try dsimp only
      exact ⟨by omega, by omega, by simpa using hk2, by rw [← Act.toT_eq]; exact fill_step hk0 (by omega) hk2 hk3⟩
    · (show Int.toNat _ < Int.toNat _); omega
  try simp only [HS] at h1
  refine W_exit ?_
  refine thenQ_e ?_
  refine loopQ_e ?_
  refine inBlk_y ?_
  refine thenQ_n ?_
  refine W_seq ?_
  refine W_region ?_
  refine ev ?_
  refine ev ?_
  refine WO_nil ?_
  refine thenQ_n ?_
  refine W_le (Le.gather (u := 2) (id := 7) rfl rfl (by omega)) ?_
  refine W_ret ?_
  refine Ends_of (.inr rfl) (ret_okF rfl) (by decide) rfl ?_
  · rw [List.take_of_length_le (by omega), fill_end (by omega) hk2 hk3]

theorem eqActS_fun (a b : List (Act)) (ha : okL 9223372036854775807 (Act.ok 9223372036854775807) a) (hb : okL 9223372036854775807 (Act.ok 9223372036854775807) b) (hf : ∀ y, y ∈ a → ∀ z, Act.ok 9223372036854775807 z → Fun Try.prog 102 [.t (Act.tt y), .t (Act.tt z)] (.t (.bool (eqAct y z)))) : Fun Try.prog 57 [.t (T.Acts a), .t (T.Acts b)] (tupD [.t (.bool (eqL eqAct a b))]) := by
  have ha1 := ha.1
  have hb1 := hb.1
  refine Fun.begin tys Try.func57 rfl rfl (N := 27) [(0, .t (T.Acts a)), (1, .t (T.Acts b))] rfl rfl (fun w0 G F0 => ?_)
  refine W_seq ?_
  refine W_region ?_
  refine ev ?_
  refine WO_nil ?_
  refine thenQ_n ?_
  iterate 2 (refine W_seq ?_)
  refine W_region ?_
  refine ev ?_
  refine evE ?_
  refine ev ?_
  refine evE ?_
  refine ev ?_
  refine WO_nil ?_
  refine thenQ_n ?_
  refine W_cond rfl (fun h1 => ?_) (fun h1 => ?_)
  ·
    try simp only [HS] at h1
    refine W_seq ?_
    refine W_region ?_
    refine ev ?_
    refine WO_nil ?_
    refine thenQ_n ?_
    refine W_ret ?_
    refine thenQ_r ?_
    refine Ends_of (.inr rfl) (ret_okF rfl) (by decide) rfl ?_
    · first | (rw [eqL_len h1]; done) | (rw [eqL_eq h1, hk2, eqGo_at hk0 h2 h1]; simp [h3]; done) | (rw [eqL_eq h1, hk2, drop_end h2]; rfl)
  try simp only [HS] at h1
  refine W_skip ?_
  refine thenQ_n ?_
  iterate 2 (refine W_seq ?_)
  refine W_region ?_
  refine ev ?_
  refine WO_nil ?_
  refine thenQ_n ?_
  refine W_block ?_
  refine W_loopK (α := Int) [0, 1] [] (fun (x : Int) => [(5, .t (.int x))]) (fun (x : Int) => []) (fun (x : Int) => 0 ≤ x ∧ x ≤ a.length ∧ eqGo eqAct a b = eqGo eqAct (a.drop x.toNat) (b.drop x.toNat)) (fun (x : Int) => Int.toNat (a.length - x)) 0 ?_ ?_ ?_ (fun k hx => ?_)
  · repeat (first | exact Sub.nil' | refine Sub.cons' rfl ?_ )
  · repeat (first | exact SubM.nil' | refine SubM.cons' rfl ?_ )
  · exact ⟨by omega, by omega, rfl⟩
  obtain ⟨hk0, hk1, hk2⟩ := hx
  refine W_norm rfl ?_
  iterate 2 (refine W_seq ?_)
  refine W_region ?_
  refine ev ?_
  refine ev ?_
  refine evE ?_
  refine ev ?_
  refine WO_nil ?_
  refine thenQ_n ?_
  refine W_cond rfl (fun h2 => ?_) (fun h2 => ?_)
  ·
    try simp only [HS] at h2
    refine W_skip ?_
    refine thenQ_n ?_
    refine W_seq ?_
    refine W_block ?_
    refine W_seq ?_
    refine W_regionD mixed (by kernel_rfl) ?_
    refine evQ ?_
    refine evQ ?_
    refine QL_norm rfl ?_
    first | refine QL_idxT tys rfl rfl (lt_of rfl) rfl rfl rfl rfl rfl rfl rfl (by omega) _ (getAct _ (by omega) (by omega)) ?_ | refine QL_idxS tys rfl rfl (lt_of rfl) rfl rfl rfl rfl rfl rfl rfl rfl (by omega) (by omega) ?_
    first | refine QL_evZ tys rfl rfl (lt_of rfl) rfl rfl ?_ | refine evQ ?_ | refine QL_loadL tys rfl rfl (lt_of rfl) rfl rfl rfl rfl (getT _ _ (by omega) (by omega)) rfl ?_ | refine QL_loadL tys rfl rfl (lt_of rfl) rfl rfl rfl rfl (getT0 _ _ (by omega) (by omega)) rfl ?_
    refine evQ ?_
    refine evQ ?_
    first | refine QL_idxT tys rfl rfl (lt_of rfl) rfl rfl rfl rfl rfl rfl rfl (by omega) _ (getAct _ (by omega) (by omega)) ?_ | refine QL_idxS tys rfl rfl (lt_of rfl) rfl rfl rfl rfl rfl rfl rfl rfl (by omega) (by omega) ?_
    first | refine QL_evZ tys rfl rfl (lt_of rfl) rfl rfl ?_ | refine evQ ?_ | refine QL_loadL tys rfl rfl (lt_of rfl) rfl rfl rfl rfl (getT _ _ (by omega) (by omega)) rfl ?_ | refine QL_loadL tys rfl rfl (lt_of rfl) rfl rfl rfl rfl (getT0 _ _ (by omega) (by omega)) rfl ?_
    refine QL_norm rfl ?_
    refine callBQ ?_
    refine ⟨_, hf _ (List.getElem_mem _) _ (hb.2 _ (List.getElem_mem _)), rfl, ?_⟩
    refine evQ ?_
    refine QL_nil ?_
    refine thenQ_n ?_
    refine W_cond rfl (fun h3 => ?_) (fun h3 => ?_)
    ·
      try simp only [HS] at h3
      refine W_seq ?_
      refine W_region ?_
      refine ev ?_
      refine WO_nil ?_
      refine thenQ_n ?_
      refine W_ret ?_
      refine inBlk_r ?_
      refine thenQ_r ?_
      refine loopQ_r ?_
      refine inBlk_r ?_
      refine thenQ_r ?_
      refine Ends_of (.inr rfl) (ret_okF rfl) (by decide) rfl ?_
      · first | (rw [eqL_len h1]; done) | (rw [eqL_eq h1, hk2, eqGo_at hk0 h2 h1]; simp [h3]; done) | (rw [eqL_eq h1, hk2, drop_end h2]; rfl)
    try simp only [HS] at h3
    refine W_skip ?_
    refine inBlk_n ?_
    refine thenQ_n ?_
    refine W_region ?_
    refine ev ?_
    refine evI ?_
    refine ev ?_
    refine WO_nil ?_
    refine loopQ_n _ (by (try dsimp only); repeat (first | exact Sub.nil' | refine Sub.cons' rfl ?_ )) (by (try dsimp only); repeat (first | exact SubM.nil' | refine SubM.cons' rfl ?_ )) ?_ ?_
    · try dsimp only
      refine ⟨by omega, by omega, ?_⟩; rw [hk2, eqGo_at hk0 h2 h1]; simp [h3]
    · (show Int.toNat _ < Int.toNat _); omega
  try simp only [HS] at h2
  refine W_exit ?_
  refine thenQ_e ?_
  refine loopQ_e ?_
  refine inBlk_y ?_
  refine thenQ_n ?_
  refine W_seq ?_
  refine W_region ?_
  refine ev ?_
  refine WO_nil ?_
  refine thenQ_n ?_
  refine W_ret ?_
  refine Ends_of (.inr rfl) (ret_okF rfl) (by decide) rfl ?_
  · first | (rw [eqL_len h1]; done) | (rw [eqL_eq h1, hk2, eqGo_at hk0 h2 h1]; simp [h3]; done) | (rw [eqL_eq h1, hk2, drop_end h2]; rfl)


theorem szAct_fun0 (x : Act) (left : Int) (h0 : 0 ≤ left) (hh : left ≤ 1048576) (hs : Fun Try.prog 52 [.t (T.Acts x.cases), .t (.int left)] (.t (.int (szL szAct x.cases left)))) : Fun Try.prog 93 [.t x.tt, .t (.int left)] (tupD [.t (.int (szAct x left))]) := by
  refine Fun.begin tys Try.func93 rfl rfl (N := 12) [(0, .t x.tt), (1, .t (.int left))] rfl rfl (fun w0 G F0 => ?_)
  refine W_seq ?_
  refine W_region ?_
  refine WO_box rfl rfl (lt_of rfl) rfl rfl ?_
  refine WO_norm rfl ?_
  refine ev ?_
  refine WO_nil ?_
  refine thenQ_n ?_
  refine W_seq ?_
  refine W_region ?_
  iterate 3 (refine ev ?_)
  refine callB ?_
  refine ⟨_, hs, rfl, ?_⟩
  refine ev ?_
  refine WO_nil ?_
  refine thenQ_n ?_
  iterate 2 (refine W_seq ?_)
  refine W_keep [1, 4] rfl ?_
  refine W_region ?_
  refine ev ?_
  refine ev ?_
  refine WO_nil ?_
  refine thenQ_n ?_
  refine W_cond rfl (fun h1 => ?_) (fun h1 => ?_)
  ·
    try simp only [HS] at h1
    refine W_seq ?_
    refine W_region ?_
    refine ev ?_
    refine WO_nil ?_
    refine thenQ_n ?_
    refine W_ret ?_
    refine thenQ_r ?_
    refine Ends_of (.inr rfl) (ret_okF rfl) (by decide) rfl ?_
    · (rw [szAct_eq]; simp only [szSeq]; repeat (first | rw [if_neg (by omega)] | rw [if_pos (by omega)]))
  try simp only [HS] at h1
  refine W_skip ?_
  refine thenQ_n ?_
  refine W_seq ?_
  refine W_region ?_
  refine ev ?_
  refine ev ?_
  refine WO_nil ?_
  refine thenQ_n ?_
  refine W_ret ?_
  refine Ends_of (.inr rfl) (ret_okF rfl) (by decide) rfl ?_
  · (rw [szAct_eq]; simp only [szSeq]; repeat (first | rw [if_neg (by omega)] | rw [if_pos (by omega)]))
theorem szAct_fun (x : Act) (left : Int) (hx : x.ok 9223372036854775807) (h0 : 0 ≤ left) (hh : left ≤ 1048576) : Fun Try.prog 93 [.t x.tt, .t (.int left)] (.t (.int (szAct x left))) :=
  Act.ind (p := fun x => ∀ left : Int, x.ok 9223372036854775807 → 0 ≤ left → left ≤ 1048576 → Fun Try.prog 93 [.t x.tt, .t (.int left)] (.t (.int (szAct x left))))
    (fun x ih left hx h0 hh => szAct_fun0 x left h0 hh (szActS_fun x.cases left hx.cases' h0 hh fun y hy left h0 hh => ih y hy left (hx.cases'.2 y hy) h0 hh)) x left hx h0 hh

theorem toAct_fun0 (x : Act) (hs : Fun Try.prog 55 [.t (T.Acts x.cases)] (.own (T.Acts x.cases))) : Fun Try.prog 96 [.t x.tt] (tupD [x.dd]) := by
  refine Fun.begin tys Try.func96 rfl rfl (N := 18) [(0, .t x.tt)] rfl rfl (fun w0 G F0 => ?_)
  refine W_seq ?_
  refine W_region ?_
  refine WO_box rfl rfl (lt_of rfl) rfl rfl ?_
  refine WO_norm rfl ?_
  refine WO_alloc tys rfl rfl (lt_of rfl) rfl rfl rfl ?_
  refine WO_norm rfl ?_
  refine WO_nil ?_
  refine thenQ_n ?_
  refine W_seq ?_
  refine W_region ?_
  refine WO_alloc tys rfl rfl (lt_of rfl) rfl rfl rfl ?_
  refine WO_norm rfl ?_
  refine WO_nil ?_
  refine thenQ_n ?_
  refine W_seq ?_
  refine W_region ?_
  iterate 3 (refine ev ?_)
  refine WO_store tys rfl rfl rfl rfl rfl rfl rfl rfl (lt_of rfl) ?_
  refine WO_norm rfl ?_
  refine WO_nil ?_
  refine thenQ_n ?_
  refine W_seq ?_
  refine W_keep [1, 2, 3] rfl ?_
  refine W_region ?_
  iterate 3 (refine ev ?_)
  refine WO_store tys rfl rfl rfl rfl rfl rfl rfl rfl (lt_of rfl) ?_
  refine WO_norm rfl ?_
  refine WO_nil ?_
  refine thenQ_n ?_
  refine W_seq ?_
  refine W_region ?_
  iterate 3 (refine ev ?_)
  refine WO_store tys rfl rfl rfl rfl rfl rfl rfl rfl (lt_of rfl) ?_
  refine WO_norm rfl ?_
  refine WO_nil ?_
  refine thenQ_n ?_
  refine W_seq ?_
  refine W_keep [1, 2, 3] rfl ?_
  refine W_region ?_
  refine ev ?_
  refine ev ?_
  refine callB ?_
  refine ⟨_, hs, rfl, ?_⟩
  refine ev ?_
  refine WO_store tys rfl rfl rfl rfl rfl rfl rfl rfl (lt_of rfl) ?_
  refine WO_norm rfl ?_
  refine WO_nil ?_
  refine thenQ_n ?_
  refine W_seq ?_
  refine W_region ?_
  first | (refine ev ?_; try refine WO_le (Le.freeze (u := 17) rfl) ?_) | refine WO_loadMove tys rfl rfl (lt_of rfl) rfl rfl rfl rfl rfl rfl ?_
  refine WO_norm rfl ?_
  refine WO_store tys rfl rfl rfl rfl rfl rfl rfl rfl (lt_of rfl) ?_
  refine WO_norm rfl ?_
  refine WO_nil ?_
  refine thenQ_n ?_
  refine W_ret ?_
  refine Ends_of (.inr rfl) (ret_okF rfl) (by decide) rfl ?_
  · rfl
theorem toAct_fun (x : Act) (hx : x.ok 1048576) : Fun Try.prog 96 [.t x.tt] x.dd :=
  Act.ind (p := fun x => x.ok 1048576 → Fun Try.prog 96 [.t x.tt] x.dd)
    (fun x ih hx => toAct_fun0 x (toActS_fun x.cases hx.cases' fun y hy => ih y hy (hx.cases'.2 y hy))) x hx

theorem eqAct_fun0 (a b : Act) (hs : Fun Try.prog 57 [.t (T.Acts a.cases), .t (T.Acts b.cases)] (.t (.bool (eqL eqAct a.cases b.cases)))) : Fun Try.prog 102 [.t a.tt, .t b.tt] (tupD [.t (.bool (eqAct a b))]) := by
  refine Fun.begin tys Try.func102 rfl rfl (N := 26) [(0, .t a.tt), (1, .t b.tt)] rfl rfl (fun w0 G F0 => ?_)
  refine W_seq ?_
  refine W_region ?_
  refine WO_box rfl rfl (lt_of rfl) rfl rfl ?_
  refine WO_norm rfl ?_
  refine WO_box rfl rfl (lt_of rfl) rfl rfl ?_
  refine WO_norm rfl ?_
  refine ev ?_
  refine WO_nil ?_
  refine thenQ_n ?_
  iterate 2 (refine W_seq ?_)
  refine W_region ?_
  iterate 5 (refine ev ?_)
  refine WO_nil ?_
  refine thenQ_n ?_
  refine W_cond rfl (fun h1 => ?_) (fun h1 => ?_)
  ·
    try simp only [HS] at h1
    refine W_seq ?_
    refine W_keep [2, 3, 4] rfl ?_
    refine W_region ?_
    refine ev ?_
    refine WO_nil ?_
    refine thenQ_n ?_
    refine W_ret ?_
    refine thenQ_r ?_
    refine Ends_of (.inr rfl) (ret_okF rfl) (by decide) rfl ?_
    · (rw [eqAct_eq]; simp_all [eqI])
  try simp only [HS] at h1
  refine W_skip ?_
  refine thenQ_n ?_
  iterate 2 (refine W_seq ?_)
  refine W_keep [2, 3, 4] rfl ?_
  refine W_region ?_
  iterate 5 (refine ev ?_)
  refine WO_nil ?_
  refine thenQ_n ?_
  refine W_cond rfl (fun h2 => ?_) (fun h2 => ?_)
  ·
    try simp only [HS] at h2
    refine W_seq ?_
    refine W_region ?_
    refine ev ?_
    refine WO_nil ?_
    refine thenQ_n ?_
    refine W_ret ?_
    refine thenQ_r ?_
    refine Ends_of (.inr rfl) (ret_okF rfl) (by decide) rfl ?_
    · (rw [eqAct_eq]; simp_all [eqI])
  try simp only [HS] at h2
  refine W_skip ?_
  refine thenQ_n ?_
  iterate 2 (refine W_seq ?_)
  refine W_region ?_
  iterate 4 (refine ev ?_)
  refine WO_keep [2, 3, 4, 16, 18] rfl ?_
  refine ev ?_
  refine WO_nil ?_
  refine thenQ_n ?_
  refine W_cond rfl (fun h3 => ?_) (fun h3 => ?_)
  ·
    try simp only [HS] at h3
    refine W_seq ?_
    refine W_region ?_
    refine ev ?_
    refine WO_nil ?_
    refine thenQ_n ?_
    refine W_ret ?_
    refine thenQ_r ?_
    refine Ends_of (.inr rfl) (ret_okF rfl) (by decide) rfl ?_
    · (rw [eqAct_eq]; simp_all [eqI])
  try simp only [HS] at h3
  refine W_skip ?_
  refine thenQ_n ?_
  iterate 2 (refine W_seq ?_)
  refine W_region ?_
  iterate 4 (refine ev ?_)
  refine callB ?_
  refine ⟨_, hs, rfl, ?_⟩
  refine ev ?_
  refine WO_nil ?_
  refine thenQ_n ?_
  refine W_cond rfl (fun h4 => ?_) (fun h4 => ?_)
  ·
    try simp only [HS] at h4
    refine W_seq ?_
    refine W_keep [4] rfl ?_
    refine W_region ?_
    refine ev ?_
    refine WO_nil ?_
    refine thenQ_n ?_
    refine W_ret ?_
    refine thenQ_r ?_
    refine Ends_of (.inr rfl) (ret_okF rfl) (by decide) rfl ?_
    · (rw [eqAct_eq]; simp_all [eqI])
  try simp only [HS] at h4
  refine W_skip ?_
  refine thenQ_n ?_
  refine W_seq ?_
  refine W_keep [4] rfl ?_
  refine W_region ?_
  refine ev ?_
  refine WO_nil ?_
  refine thenQ_n ?_
  refine W_ret ?_
  refine Ends_of (.inr rfl) (ret_okF rfl) (by decide) rfl ?_
  · (rw [eqAct_eq]; simp_all [eqI])
theorem eqAct_fun (a b : Act) (ha : a.ok 9223372036854775807) (hb : b.ok 9223372036854775807) : Fun Try.prog 102 [.t a.tt, .t b.tt] (.t (.bool (eqAct a b))) :=
  Act.ind (p := fun a => ∀ b, a.ok 9223372036854775807 → b.ok 9223372036854775807 → Fun Try.prog 102 [.t a.tt, .t b.tt] (.t (.bool (eqAct a b))))
    (fun a ih b ha hb => eqAct_fun0 a b (eqActS_fun a.cases b.cases ha.cases' hb.cases' fun y hy z hz => ih y hy z (ha.cases'.2 y hy) hz)) a b ha hb

theorem szActSo_fun (l : List Act) (left : Int) (hl : okL 9223372036854775807 (Act.ok 9223372036854775807) l) (h0 : 0 ≤ left) (hh : left ≤ 1048576) : Fun Try.prog 52 [.t (T.Acts l), .t (.int left)] (.t (.int (szL szAct l left))) :=
  szActS_fun l left hl h0 hh fun y hy left h0 hh => szAct_fun y left (hl.2 y hy) h0 hh
theorem toActSo_fun (l : List Act) (hl : okL 1048576 (Act.ok 1048576) l) : Fun Try.prog 55 [.t (T.Acts l)] (.own (T.Acts l)) := toActS_fun l hl fun y hy => toAct_fun y (hl.2 y hy)
theorem eqActSo_fun (a b : List Act) (ha : okL 9223372036854775807 (Act.ok 9223372036854775807) a) (hb : okL 9223372036854775807 (Act.ok 9223372036854775807) b) : Fun Try.prog 57 [.t (T.Acts a), .t (T.Acts b)] (.t (.bool (eqL eqAct a b))) :=
  eqActS_fun a b ha hb fun y hy z hz => eqAct_fun y z (ha.2 y hy) hz

structure Task where
  acts : List (Act)
  pos : Int
  state : Int
  last : Int

def Task.tt (x : Task) : T := .agg [T.Acts x.acts, T.int x.pos, T.int x.state, T.int x.last]

def Task.ok (B : Nat) (x : Task) : Prop := okL B (Act.ok B) x.acts ∧ True

def szTask (x : Task) : Int → Int := szSeq [(szL szAct) x.acts]

theorem szTask_g : SzG szTask (Task.ok 1048576) := fun x left h0 hh => by
  have := szSeq_step (szActS_g x.acts) (szSeq_nil)
  exact this left h0 hh

def eqTask (a b : Task) : Bool := (eqL eqAct) a.acts b.acts && eqI a.pos b.pos && eqI a.state b.state && eqI a.last b.last && true

theorem eqTask_refl (a : Task) : eqTask a a = true := by
  unfold eqTask; simp only [eqI_refl, eqL_refl eqAct_refl, Bool.and_self]

theorem szTask_fun (x : Task) (left : Int) (hx : Task.ok 9223372036854775807 x) (h0 : 0 ≤ left) (hh : left ≤ 1048576) : Fun Try.prog 75 [.t (Task.tt x), .t (.int left)] (tupD [.t (.int (szTask x left))]) := by
  refine Fun.begin tys Try.func75 rfl rfl (N := 12) [(0, .t (Task.tt x)), (1, .t (.int left))] rfl rfl (fun w0 G F0 => ?_)
  refine W_seq ?_
  refine W_region ?_
  refine WO_box rfl rfl (lt_of rfl) rfl rfl ?_
  refine WO_norm rfl ?_
  refine ev ?_
  refine WO_nil ?_
  refine thenQ_n ?_
  refine W_seq ?_
  refine W_region ?_
  iterate 3 (refine ev ?_)
  refine callB ?_
  refine ⟨_, szActSo_fun _ _ (hx.1) (by omega) (by  omega), rfl, ?_⟩
  refine ev ?_
  refine WO_nil ?_
  refine thenQ_n ?_
  iterate 2 (refine W_seq ?_)
  refine W_keep [1, 4] rfl ?_
  refine W_region ?_
  refine ev ?_
  refine ev ?_
  refine WO_nil ?_
  refine thenQ_n ?_
  refine W_cond rfl (fun h1 => ?_) (fun h1 => ?_)
  ·
    try simp only [HS] at h1
    refine W_seq ?_
    refine W_region ?_
    refine ev ?_
    refine WO_nil ?_
    refine thenQ_n ?_
    refine W_ret ?_
    refine thenQ_r ?_
    refine Ends_of (.inr rfl) (ret_okF rfl) (by decide) rfl ?_
    · (simp only [szTask, szSeq]; repeat (first | rw [if_neg (by omega)] | rw [if_pos (by omega)]))
  try simp only [HS] at h1
  refine W_skip ?_
  refine thenQ_n ?_
  refine W_seq ?_
  refine W_region ?_
  refine ev ?_
  refine ev ?_
  refine WO_nil ?_
  refine thenQ_n ?_
  refine W_ret ?_
  refine Ends_of (.inr rfl) (ret_okF rfl) (by decide) rfl ?_
  · (simp only [szTask, szSeq]; repeat (first | rw [if_neg (by omega)] | rw [if_pos (by omega)]))

theorem toTask_fun (x : Task) (hx : Task.ok 1048576 x) : Fun Try.prog 79 [.t (Task.tt x)] (tupD [.agg [.own (T.Acts x.acts), .t (T.int x.pos), .t (T.int x.state), .t (T.int x.last)]]) := by
  refine Fun.begin tys Try.func79 rfl rfl (N := 18) [(0, .t (Task.tt x))] rfl rfl (fun w0 G F0 => ?_)
  refine W_seq ?_
  refine W_region ?_
  refine WO_box rfl rfl (lt_of rfl) rfl rfl ?_
  refine WO_norm rfl ?_
  refine WO_alloc tys rfl rfl (lt_of rfl) rfl rfl rfl ?_
  refine WO_norm rfl ?_
  refine WO_nil ?_
  refine thenQ_n ?_
  refine W_seq ?_
  refine W_region ?_
  refine WO_alloc tys rfl rfl (lt_of rfl) rfl rfl rfl ?_
  refine WO_norm rfl ?_
  refine WO_nil ?_
  refine thenQ_n ?_
  refine W_seq ?_
  refine W_region ?_
  refine ev ?_
  refine ev ?_
  refine callB ?_
  refine ⟨_, toActSo_fun _ (by first | exact hx.1), rfl, ?_⟩
  refine ev ?_
  refine WO_store tys rfl rfl rfl rfl rfl rfl rfl rfl (lt_of rfl) ?_
  refine WO_norm rfl ?_
  refine WO_nil ?_
  refine thenQ_n ?_
  refine W_seq ?_
  refine W_keep [1, 2, 3] rfl ?_
  refine W_region ?_
  iterate 3 (refine ev ?_)
  refine WO_store tys rfl rfl rfl rfl rfl rfl rfl rfl (lt_of rfl) ?_
  refine WO_norm rfl ?_
  refine WO_nil ?_
  refine thenQ_n ?_
  refine W_seq ?_
  refine W_region ?_
  iterate 3 (refine ev ?_)
  refine WO_store tys rfl rfl rfl rfl rfl rfl rfl rfl (lt_of rfl) ?_
  refine WO_norm rfl ?_
  refine WO_nil ?_
  refine thenQ_n ?_
  refine W_seq ?_
  refine W_keep [1, 2, 3] rfl ?_
  refine W_region ?_
  iterate 3 (refine ev ?_)
  refine WO_store tys rfl rfl rfl rfl rfl rfl rfl rfl (lt_of rfl) ?_
  refine WO_norm rfl ?_
  refine WO_nil ?_
  refine thenQ_n ?_
  refine W_seq ?_
  refine W_region ?_
  first | (refine ev ?_; try refine WO_le (Le.freeze (u := 17) rfl) ?_) | refine WO_loadMove tys rfl rfl (lt_of rfl) rfl rfl rfl rfl rfl rfl ?_
  refine WO_norm rfl ?_
  refine WO_store tys rfl rfl rfl rfl rfl rfl rfl rfl (lt_of rfl) ?_
  refine WO_norm rfl ?_
  refine WO_nil ?_
  refine thenQ_n ?_
  refine W_ret ?_
  refine Ends_of (.inr rfl) (ret_okF rfl) (by decide) rfl ?_
  · rfl

theorem eqTask_fun (a b : Task) (ha : Task.ok 9223372036854775807 a) (hb : Task.ok 9223372036854775807 b) : Fun Try.prog 87 [.t (Task.tt a), .t (Task.tt b)] (tupD [.t (.bool (eqTask a b))]) := by
  refine Fun.begin tys Try.func87 rfl rfl (N := 26) [(0, .t (Task.tt a)), (1, .t (Task.tt b))] rfl rfl (fun w0 G F0 => ?_)
  refine W_seq ?_
  refine W_region ?_
  refine WO_box rfl rfl (lt_of rfl) rfl rfl ?_
  refine WO_norm rfl ?_
  refine WO_box rfl rfl (lt_of rfl) rfl rfl ?_
  refine WO_norm rfl ?_
  refine ev ?_
  refine WO_nil ?_
  refine thenQ_n ?_
  iterate 2 (refine W_seq ?_)
  refine W_region ?_
  iterate 4 (refine ev ?_)
  refine callB ?_
  refine ⟨_, eqActSo_fun _ _ (by first | exact ha.1) (by first | exact hb.1), rfl, ?_⟩
  refine ev ?_
  refine WO_keep [2, 3, 4, 10] rfl ?_
  refine WO_nil ?_
  refine thenQ_n ?_
  refine W_cond rfl (fun h1 => ?_) (fun h1 => ?_)
  ·
    try simp only [HS] at h1
    refine W_seq ?_
    refine W_region ?_
    refine ev ?_
    refine WO_nil ?_
    refine thenQ_n ?_
    refine W_ret ?_
    refine thenQ_r ?_
    refine Ends_of (.inr rfl) (ret_okF rfl) (by decide) rfl ?_
    · simp_all [eqTask, eqI, eqB]
  try simp only [HS] at h1
  refine W_skip ?_
  refine thenQ_n ?_
  iterate 2 (refine W_seq ?_)
  refine W_region ?_
  iterate 5 (refine ev ?_)
  refine WO_nil ?_
  refine thenQ_n ?_
  refine W_cond rfl (fun h2 => ?_) (fun h2 => ?_)
  ·
    try simp only [HS] at h2
    refine W_seq ?_
    refine W_region ?_
    refine ev ?_
    refine WO_nil ?_
    refine thenQ_n ?_
    refine W_ret ?_
    refine thenQ_r ?_
    refine Ends_of (.inr rfl) (ret_okF rfl) (by decide) rfl ?_
    · simp_all [eqTask, eqI, eqB]
  try simp only [HS] at h2
  refine W_skip ?_
  refine thenQ_n ?_
  iterate 2 (refine W_seq ?_)
  refine W_region ?_
  iterate 4 (refine ev ?_)
  refine WO_keep [2, 3, 4, 17, 19] rfl ?_
  refine ev ?_
  refine WO_nil ?_
  refine thenQ_n ?_
  refine W_cond rfl (fun h3 => ?_) (fun h3 => ?_)
  ·
    try simp only [HS] at h3
    refine W_seq ?_
    refine W_region ?_
    refine ev ?_
    refine WO_nil ?_
    refine thenQ_n ?_
    refine W_ret ?_
    refine thenQ_r ?_
    refine Ends_of (.inr rfl) (ret_okF rfl) (by decide) rfl ?_
    · simp_all [eqTask, eqI, eqB]
  try simp only [HS] at h3
  refine W_skip ?_
  refine thenQ_n ?_
  iterate 2 (refine W_seq ?_)
  refine W_region ?_
  iterate 5 (refine ev ?_)
  refine WO_nil ?_
  refine thenQ_n ?_
  refine W_cond rfl (fun h4 => ?_) (fun h4 => ?_)
  ·
    try simp only [HS] at h4
    refine W_seq ?_
    refine W_region ?_
    refine ev ?_
    refine WO_nil ?_
    refine thenQ_n ?_
    refine W_ret ?_
    refine thenQ_r ?_
    refine Ends_of (.inr rfl) (ret_okF rfl) (by decide) rfl ?_
    · simp_all [eqTask, eqI, eqB]
  try simp only [HS] at h4
  refine W_skip ?_
  refine thenQ_n ?_
  refine W_seq ?_
  refine W_region ?_
  refine ev ?_
  refine WO_nil ?_
  refine thenQ_n ?_
  refine W_ret ?_
  refine Ends_of (.inr rfl) (ret_okF rfl) (by decide) rfl ?_
  · simp_all [eqTask, eqI, eqB]

abbrev T.Tasks (l : List (Task)) : T := .list 4 (l.map Task.tt)
theorem szTaskS_g : SzG (szL szTask) (okL 1048576 (Task.ok 1048576)) := szL_g szTask_g

theorem szTaskS_fun (l : List (Task)) (left : Int) (hl : okL 9223372036854775807 (Task.ok 9223372036854775807) l) (h0 : 0 ≤ left) (hh : left ≤ 1048576) : Fun Try.prog 39 [.t (T.Tasks l), .t (.int left)] (tupD [.t (.int (szL szTask l left))]) := by
  have hl1 := hl.1
  refine Fun.begin tys Try.func39 rfl rfl (N := 27) [(0, .t (T.Tasks l)), (1, .t (.int left))] rfl rfl (fun w0 G F0 => ?_)
  refine W_seq ?_
  refine W_region ?_
  refine ev ?_
  refine WO_nil ?_
  refine thenQ_n ?_
  refine W_seq ?_
  refine W_region ?_
  refine ev ?_
  refine ev ?_
  refine evE ?_
  refine evI ?_
  refine ev ?_
  refine WO_nil ?_
  refine thenQ_n ?_
  iterate 2 (refine W_seq ?_)
  refine W_region ?_
  refine ev ?_
  refine ev ?_
  refine WO_nil ?_
  refine thenQ_n ?_
  refine W_cond rfl (fun h1 => ?_) (fun h1 => ?_)
  ·
    try simp only [HS] at h1
    refine W_seq ?_
    refine W_keep [0, 1, 4] rfl ?_
    refine W_region ?_
    refine ev ?_
    refine WO_nil ?_
    refine thenQ_n ?_
    refine W_ret ?_
    refine thenQ_r ?_
    refine Ends_of (.inr rfl) (ret_okF rfl) (by decide) rfl ?_
    · first | (rw [szL, if_pos h1]; done) | (rw [szL, if_neg (by omega), hk4, drop_at hk0 (by omega), szGo, if_pos h3]; done) | (rw [szL, if_neg (by omega), hk4, drop_end (by omega), szGo]; done)
  try simp only [HS] at h1
  refine W_skip ?_
  refine thenQ_n ?_
  iterate 2 (refine W_seq ?_)
  refine W_keep [0, 1, 4] rfl ?_
  refine W_region ?_
  refine ev ?_
  refine WO_nil ?_
  refine thenQ_n ?_
  refine W_block ?_
  refine W_loopK (α := Int × Int) [0] [] (fun (x : Int × Int) => [(5, .t (.int (x.1))), (1, .t (.int (x.2)))]) (fun (x : Int × Int) => []) (fun (x : Int × Int) => 0 ≤ (x.1) ∧ (x.1) ≤ l.length ∧ 0 ≤ (x.2) ∧ (x.2) ≤ 1048576 ∧ szGo szTask l (left - l.length) = szGo szTask (l.drop (x.1).toNat) (x.2)) (fun (x : Int × Int) => Int.toNat (l.length - (x.1))) (0, left - l.length) ?_ ?_ ?_ (fun x hx => ?_)
  · repeat (first | exact Sub.nil' | refine Sub.cons' rfl ?_ )
  · repeat (first | exact SubM.nil' | refine SubM.cons' rfl ?_ )
  · exact ⟨by omega, by omega, by omega, by omega, by simp⟩
  obtain ⟨k, lf⟩ := x
  obtain ⟨hk0, hk1, hk2, hk3, hk4⟩ := hx
  try dsimp only at hk0 hk1 hk2 hk3 hk4 ⊢
  refine W_norm rfl ?_
  iterate 2 (refine W_seq ?_)
  refine W_region ?_
  refine ev ?_
  refine ev ?_
  refine evE ?_
  refine ev ?_
  refine WO_nil ?_
  refine thenQ_n ?_
  refine W_cond rfl (fun h2 => ?_) (fun h2 => ?_)
  ·
    try simp only [HS] at h2
    refine W_skip ?_
    refine thenQ_n ?_
    refine W_seq ?_
    refine W_block ?_
    refine W_seq ?_
    refine W_region ?_
    refine ev ?_
    refine ev ?_
    first | refine WO_idxT tys rfl rfl (lt_of rfl) rfl rfl rfl rfl rfl rfl rfl (by omega) _ (getT _ _ (by omega) (by omega)) ?_ | refine WO_idxS tys rfl rfl (lt_of rfl) rfl rfl rfl rfl rfl rfl rfl rfl (by omega) (by omega) ?_
    first | (refine ev ?_; try refine WO_le (Le.freeze (u := 21) rfl) ?_) | refine WO_loadL tys rfl rfl (lt_of rfl) rfl rfl rfl rfl (getT _ _ (by omega) (by omega)) rfl ?_ | refine WO_loadL tys rfl rfl (lt_of rfl) rfl rfl rfl rfl (getT0 _ _ (by omega) (by omega)) rfl ?_
    refine WO_norm rfl ?_
    refine ev ?_
    refine WO_keep [0, 1, 5, 12, 13, 14, 15, 18, 19, 20, 21, 22] rfl ?_
    refine callB ?_
    refine ⟨_, szTask_fun _ _ (hl.2 _ (List.getElem_mem _)) (by omega) (by omega), rfl, ?_⟩
    refine ev ?_
    refine WO_nil ?_
    refine thenQ_n ?_
    refine W_seq ?_
    refine W_region ?_
    refine ev ?_
    refine ev ?_
    refine WO_nil ?_
    refine thenQ_n ?_
    refine W_cond rfl (fun h3 => ?_) (fun h3 => ?_)
    ·
      try simp only [HS] at h3
      refine W_seq ?_
      refine W_region ?_
      refine ev ?_
      refine WO_nil ?_
      refine thenQ_n ?_
      refine W_ret ?_
      refine inBlk_r ?_
      refine thenQ_r ?_
      refine loopQ_r ?_
      refine inBlk_r ?_
      refine thenQ_r ?_
      refine Ends_of (.inr rfl) (ret_okF rfl) (by decide) rfl ?_
      · first | (rw [szL, if_pos h1]; done) | (rw [szL, if_neg (by omega), hk4, drop_at hk0 (by omega), szGo, if_pos h3]; done) | (rw [szL, if_neg (by omega), hk4, drop_end (by omega), szGo]; done)
    try simp only [HS] at h3
    refine W_skip ?_
    refine inBlk_n ?_
    refine thenQ_n ?_
    refine W_region ?_
    refine ev ?_
    refine evI ?_
    refine ev ?_
    refine WO_nil ?_
    refine loopQ_n (_, _) (by (try dsimp only); repeat (first | exact Sub.nil' | refine Sub.cons' rfl ?_ )) (by (try dsimp only); repeat (first | exact SubM.nil' | refine SubM.cons' rfl ?_ )) ?_ ?_
    · try dsimp only
      (have hb := szTask_g (l[k.toNat]'(by omega)) lf hk2 hk3; refine ⟨by omega, by omega, by omega, by omega, ?_⟩; rw [hk4, drop_at hk0 (by omega), szGo, if_neg (by omega)])
    · (show Int.toNat _ < Int.toNat _); omega
  try simp only [HS] at h2
  refine W_exit ?_
  refine thenQ_e ?_
  refine loopQ_e ?_
  refine inBlk_y ?_
  refine thenQ_n ?_
  refine W_seq ?_
  refine W_region ?_
  refine ev ?_
  refine ev ?_
  refine WO_nil ?_
  refine thenQ_n ?_
  refine W_ret ?_
  refine Ends_of (.inr rfl) (ret_okF rfl) (by decide) rfl ?_
  · first | (rw [szL, if_pos h1]; done) | (rw [szL, if_neg (by omega), hk4, drop_at hk0 (by omega), szGo, if_pos h3]; done) | (rw [szL, if_neg (by omega), hk4, drop_end (by omega), szGo]; done)

theorem toTaskS_fun (l : List (Task)) (hl : okL 1048576 (Task.ok 1048576) l) : Fun Try.prog 43 [.t (T.Tasks l)] (tupD [.own (T.Tasks l)]) := by
  have hl1 := hl.1
  refine Fun.begin tys Try.func43 rfl rfl (N := 23) [(0, .t (T.Tasks l))] rfl rfl (fun w0 G F0 => ?_)
  refine W_seq ?_
  refine W_region ?_
  refine ev ?_
  refine WO_nil ?_
  refine thenQ_n ?_
  refine W_seq ?_
  refine W_region ?_
  refine ev ?_
  refine evE ?_
  refine WO_make tys (.agg [.list 4 [], .v (.int .i64 0), .v (.int .i64 0), .v (.int .i64 0)]) _ rfl rfl (lt_of rfl) rfl rfl rfl rfl rfl (by repeat (first | exact AbsL.nil' | refine AbsL.v' ?_ | refine AbsL.none' ?_)) rfl (by omega) (by decide) ?_
  refine WO_norm rfl ?_
  refine ev ?_
  refine WO_nil ?_
  refine thenQ_n ?_
  iterate 2 (refine W_seq ?_)
  refine W_region ?_
  refine ev ?_
  refine WO_nil ?_
  refine thenQ_n ?_
  refine W_block ?_
  refine W_loopK (α := Int × List T) [0, 3] [] (fun (x : Int × List T) => [(4, .t (.int (x.1)))]) (fun (x : Int × List T) => [(7, .L 4 (x.2))]) (fun (x : Int × List T) => 0 ≤ (x.1) ∧ (x.1) ≤ l.length ∧ (x.2).length = l.length ∧ (x.2).take (x.1).toNat = (l.take (x.1).toNat).map Task.tt) (fun (x : Int × List T) => Int.toNat (l.length - (x.1))) (0, List.replicate l.length (.agg [.list 4 [], .v (.int .i64 0), .v (.int .i64 0), .v (.int .i64 0)])) ?_ ?_ ?_ (fun x hx => ?_)
  · repeat (first | exact Sub.nil' | refine Sub.cons' rfl ?_ )
  · repeat (first | exact SubM.nil' | refine SubM.cons' rfl ?_ )
  · exact ⟨by omega, by omega, by simp, by simp⟩
  obtain ⟨k, xs⟩ := x
  obtain ⟨hk0, hk1, hk2, hk3⟩ := hx
  try dsimp only at hk0 hk1 hk2 hk3 ⊢
  refine W_norm rfl ?_
  iterate 2 (refine W_seq ?_)
  refine W_region ?_
  refine ev ?_
  refine ev ?_
  refine evE ?_
  refine ev ?_
  refine WO_nil ?_
  refine thenQ_n ?_
  refine W_cond rfl (fun h1 => ?_) (fun h1 => ?_)
  ·
    try simp only [HS] at h1
    refine W_skip ?_
    refine thenQ_n ?_
    refine W_seq ?_
    refine W_block ?_
    refine W_region ?_
    iterate 4 (refine ev ?_)
    first | refine WO_idxT tys rfl rfl (lt_of rfl) rfl rfl rfl rfl rfl rfl rfl (by omega) _ (getT _ _ (by omega) (by omega)) ?_ | refine WO_idxS tys rfl rfl (lt_of rfl) rfl rfl rfl rfl rfl rfl rfl rfl (by omega) (by omega) ?_
    refine WO_keep [0, 3, 4, 8, 9, 10, 11, 14, 15, 16, 17, 18] rfl ?_
    first | (refine ev ?_; try refine WO_le (Le.freeze (u := 19) rfl) ?_) | refine WO_loadL tys rfl rfl (lt_of rfl) rfl rfl rfl rfl (getT _ _ (by omega) (by omega)) rfl ?_ | refine WO_loadL tys rfl rfl (lt_of rfl) rfl rfl rfl rfl (getT0 _ _ (by omega) (by omega)) rfl ?_
    refine WO_norm rfl ?_
    refine callB ?_
    refine ⟨_, toTask_fun _ (hl.2 _ (List.getElem_mem _)), rfl, ?_⟩
    first | refine WO_idxT tys rfl rfl (lt_of rfl) rfl rfl rfl rfl rfl rfl rfl (by omega) _ (getT _ _ (by omega) (by omega)) ?_ | refine WO_idxS tys rfl rfl (lt_of rfl) rfl rfl rfl rfl rfl rfl rfl rfl (by omega) (by omega) ?_
    first | refine WO_storeE tys (Task.tt _) rfl rfl rfl rfl rfl rfl (by first | exact Nat.zero_add _ | rfl) (by omega) rfl (by repeat (first | exact AbsL.nil' | refine AbsL.v' ?_ | refine AbsL.own' ?_)) rfl rfl rfl ?_ | refine WO_storeL tys _ rfl rfl rfl rfl rfl rfl (getT _ _ (by omega) (by omega)) rfl (by repeat (first | exact AbsL.nil' | refine AbsL.v' ?_ | refine AbsL.own' ?_)) rfl (by decide) (by decide) ?_
    refine WO_norm rfl ?_
    refine WO_nil ?_
    refine inBlk_n ?_
    refine thenQ_n ?_
    refine W_region ?_
    refine ev ?_
    refine evI ?_
    refine ev ?_
    refine WO_nil ?_
    refine loopQ_n (_, _) (by (try dsimp only); repeat (first | exact Sub.nil' | refine Sub.cons' rfl ?_ )) (by (try dsimp only); repeat (first | exact SubM.nil' | refine SubM.cons' rfl ?_ )) ?_ ?_
    · try dsimp only
      exact ⟨by omega, by omega, by simpa using hk2, by exact fill_step hk0 (by omega) hk2 hk3⟩
    · (show Int.toNat _ < Int.toNat _); omega
  try simp only [HS] at h1
  refine W_exit ?_
  refine thenQ_e ?_
  refine loopQ_e ?_
  refine inBlk_y ?_
  refine thenQ_n ?_
  refine W_seq ?_
  refine W_region ?_
  refine ev ?_
  refine ev ?_
  refine WO_nil ?_
  refine thenQ_n ?_
  refine W_le (Le.gather (u := 2) (id := 7) rfl rfl (by omega)) ?_
  refine W_ret ?_
  refine Ends_of (.inr rfl) (ret_okF rfl) (by decide) rfl ?_
  · rw [List.take_of_length_le (by omega), fill_end (by omega) hk2 hk3]

theorem eqTaskS_fun (a b : List (Task)) (ha : okL 9223372036854775807 (Task.ok 9223372036854775807) a) (hb : okL 9223372036854775807 (Task.ok 9223372036854775807) b) : Fun Try.prog 47 [.t (T.Tasks a), .t (T.Tasks b)] (tupD [.t (.bool (eqL eqTask a b))]) := by
  have ha1 := ha.1
  have hb1 := hb.1
  refine Fun.begin tys Try.func47 rfl rfl (N := 27) [(0, .t (T.Tasks a)), (1, .t (T.Tasks b))] rfl rfl (fun w0 G F0 => ?_)
  refine W_seq ?_
  refine W_region ?_
  refine ev ?_
  refine WO_nil ?_
  refine thenQ_n ?_
  iterate 2 (refine W_seq ?_)
  refine W_region ?_
  refine ev ?_
  refine evE ?_
  refine ev ?_
  refine evE ?_
  refine ev ?_
  refine WO_nil ?_
  refine thenQ_n ?_
  refine W_cond rfl (fun h1 => ?_) (fun h1 => ?_)
  ·
    try simp only [HS] at h1
    refine W_seq ?_
    refine W_region ?_
    refine ev ?_
    refine WO_nil ?_
    refine thenQ_n ?_
    refine W_ret ?_
    refine thenQ_r ?_
    refine Ends_of (.inr rfl) (ret_okF rfl) (by decide) rfl ?_
    · first | (rw [eqL_len h1]; done) | (rw [eqL_eq h1, hk2, eqGo_at hk0 h2 h1]; simp [h3]; done) | (rw [eqL_eq h1, hk2, drop_end h2]; rfl)
  try simp only [HS] at h1
  refine W_skip ?_
  refine thenQ_n ?_
  iterate 2 (refine W_seq ?_)
  refine W_region ?_
  refine ev ?_
  refine WO_nil ?_
  refine thenQ_n ?_
  refine W_block ?_
  refine W_loopK (α := Int) [0, 1] [] (fun (x : Int) => [(5, .t (.int x))]) (fun (x : Int) => []) (fun (x : Int) => 0 ≤ x ∧ x ≤ a.length ∧ eqGo eqTask a b = eqGo eqTask (a.drop x.toNat) (b.drop x.toNat)) (fun (x : Int) => Int.toNat (a.length - x)) 0 ?_ ?_ ?_ (fun k hx => ?_)
  · repeat (first | exact Sub.nil' | refine Sub.cons' rfl ?_ )
  · repeat (first | exact SubM.nil' | refine SubM.cons' rfl ?_ )
  · exact ⟨by omega, by omega, rfl⟩
  obtain ⟨hk0, hk1, hk2⟩ := hx
  refine W_norm rfl ?_
  iterate 2 (refine W_seq ?_)
  refine W_region ?_
  refine ev ?_
  refine ev ?_
  refine evE ?_
  refine ev ?_
  refine WO_nil ?_
  refine thenQ_n ?_
  refine W_cond rfl (fun h2 => ?_) (fun h2 => ?_)
  ·
    try simp only [HS] at h2
    refine W_skip ?_
    refine thenQ_n ?_
    refine W_seq ?_
    refine W_block ?_
    refine W_seq ?_
    refine W_regionD mixed (by kernel_rfl) ?_
    refine evQ ?_
    refine evQ ?_
    refine QL_norm rfl ?_
    first | refine QL_idxT tys rfl rfl (lt_of rfl) rfl rfl rfl rfl rfl rfl rfl (by omega) _ (getT _ _ (by omega) (by omega)) ?_ | refine QL_idxS tys rfl rfl (lt_of rfl) rfl rfl rfl rfl rfl rfl rfl rfl (by omega) (by omega) ?_
    first | refine QL_evZ tys rfl rfl (lt_of rfl) rfl rfl ?_ | refine evQ ?_ | refine QL_loadL tys rfl rfl (lt_of rfl) rfl rfl rfl rfl (getT _ _ (by omega) (by omega)) rfl ?_ | refine QL_loadL tys rfl rfl (lt_of rfl) rfl rfl rfl rfl (getT0 _ _ (by omega) (by omega)) rfl ?_
    refine evQ ?_
    refine evQ ?_
    first | refine QL_idxT tys rfl rfl (lt_of rfl) rfl rfl rfl rfl rfl rfl rfl (by omega) _ (getT _ _ (by omega) (by omega)) ?_ | refine QL_idxS tys rfl rfl (lt_of rfl) rfl rfl rfl rfl rfl rfl rfl rfl (by omega) (by omega) ?_
    first | refine QL_evZ tys rfl rfl (lt_of rfl) rfl rfl ?_ | refine evQ ?_ | refine QL_loadL tys rfl rfl (lt_of rfl) rfl rfl rfl rfl (getT _ _ (by omega) (by omega)) rfl ?_ | refine QL_loadL tys rfl rfl (lt_of rfl) rfl rfl rfl rfl (getT0 _ _ (by omega) (by omega)) rfl ?_
    refine QL_norm rfl ?_
    refine callBQ ?_
    refine ⟨_, eqTask_fun _ _ (ha.2 _ (List.getElem_mem _)) (hb.2 _ (List.getElem_mem _)), rfl, ?_⟩
    refine evQ ?_
    refine QL_nil ?_
    refine thenQ_n ?_
    refine W_cond rfl (fun h3 => ?_) (fun h3 => ?_)
    ·
      try simp only [HS] at h3
      refine W_seq ?_
      refine W_region ?_
      refine ev ?_
      refine WO_nil ?_
      refine thenQ_n ?_
      refine W_ret ?_
      refine inBlk_r ?_
      refine thenQ_r ?_
      refine loopQ_r ?_
      refine inBlk_r ?_
      refine thenQ_r ?_
      refine Ends_of (.inr rfl) (ret_okF rfl) (by decide) rfl ?_
      · first | (rw [eqL_len h1]; done) | (rw [eqL_eq h1, hk2, eqGo_at hk0 h2 h1]; simp [h3]; done) | (rw [eqL_eq h1, hk2, drop_end h2]; rfl)
    try simp only [HS] at h3
    refine W_skip ?_
    refine inBlk_n ?_
    refine thenQ_n ?_
    refine W_region ?_
    refine ev ?_
    refine evI ?_
    refine ev ?_
    refine WO_nil ?_
    refine loopQ_n _ (by (try dsimp only); repeat (first | exact Sub.nil' | refine Sub.cons' rfl ?_ )) (by (try dsimp only); repeat (first | exact SubM.nil' | refine SubM.cons' rfl ?_ )) ?_ ?_
    · try dsimp only
      refine ⟨by omega, by omega, ?_⟩; rw [hk2, eqGo_at hk0 h2 h1]; simp [h3]
    · (show Int.toNat _ < Int.toNat _); omega
  try simp only [HS] at h2
  refine W_exit ?_
  refine thenQ_e ?_
  refine loopQ_e ?_
  refine inBlk_y ?_
  refine thenQ_n ?_
  refine W_seq ?_
  refine W_region ?_
  refine ev ?_
  refine WO_nil ?_
  refine thenQ_n ?_
  refine W_ret ?_
  refine Ends_of (.inr rfl) (ret_okF rfl) (by decide) rfl ?_
  · first | (rw [eqL_len h1]; done) | (rw [eqL_eq h1, hk2, eqGo_at hk0 h2 h1]; simp [h3]; done) | (rw [eqL_eq h1, hk2, drop_end h2]; rfl)

structure World where
  room : List Int
  held : List (List Int)
  shut : List Bool
  tasks : List (Task)
  trace : List Int

def World.tt (x : World) : T := .agg [T.ints x.room, intss x.held, T.bools x.shut, T.Tasks x.tasks, T.ints x.trace]

def World.ok (B : Nat) (x : World) : Prop := okN B x.room ∧ okL B (okN B) x.held ∧ okN B x.shut ∧ okL B (Task.ok B) x.tasks ∧ okN B x.trace ∧ True

def szWorld (x : World) : Int → Int := szSeq [szIntS x.room, szIntSS x.held, szLen x.shut, (szL szTask) x.tasks, szIntS x.trace]

theorem szWorld_g : SzG szWorld (World.ok 1048576) := fun x left h0 hh => by
  have := szSeq_step (szIntS_g x.room) (szSeq_step (szIntSS_g x.held) (szSeq_step (szBoolS_g x.shut) (szSeq_step (szTaskS_g x.tasks) (szSeq_step (szIntS_g x.trace) (szSeq_nil)))))
  exact this left h0 hh

def eqWorld (a b : World) : Bool := (eqL eqI) a.room b.room && (eqL (eqL eqI)) a.held b.held && (eqL eqB) a.shut b.shut && (eqL eqTask) a.tasks b.tasks && (eqL eqI) a.trace b.trace && true

theorem eqWorld_refl (a : World) : eqWorld a a = true := by
  unfold eqWorld; simp only [eqL_refl (eqL_refl eqI_refl), eqL_refl eqB_refl, eqL_refl eqI_refl, eqL_refl eqTask_refl, Bool.and_self]

theorem szWorld_fun (x : World) (left : Int) (hx : World.ok 9223372036854775807 x) (h0 : 0 ≤ left) (hh : left ≤ 1048576) : Fun Try.prog 9 [.t (World.tt x), .t (.int left)] (tupD [.t (.int (szWorld x left))]) := by
  refine Fun.begin tys Try.func9 rfl rfl (N := 36) [(0, .t (World.tt x)), (1, .t (.int left))] rfl rfl (fun w0 G F0 => ?_)
  refine W_seq ?_
  refine W_region ?_
  refine WO_box rfl rfl (lt_of rfl) rfl rfl ?_
  refine WO_norm rfl ?_
  refine ev ?_
  refine WO_nil ?_
  refine thenQ_n ?_
  refine W_seq ?_
  refine W_region ?_
  iterate 3 (refine ev ?_)
  refine callB ?_
  refine ⟨_, szIntSo_fun _ _ (hx.1) (by omega) (by  omega), rfl, ?_⟩
  refine ev ?_
  refine WO_nil ?_
  refine thenQ_n ?_
  iterate 2 (refine W_seq ?_)
  refine W_keep [1, 2, 4] rfl ?_
  refine W_region ?_
  refine ev ?_
  refine ev ?_
  refine WO_nil ?_
  refine thenQ_n ?_
  refine W_cond rfl (fun h1 => ?_) (fun h1 => ?_)
  ·
    try simp only [HS] at h1
    refine W_seq ?_
    refine W_region ?_
    refine ev ?_
    refine WO_nil ?_
    refine thenQ_n ?_
    refine W_ret ?_
    refine thenQ_r ?_
    refine Ends_of (.inr rfl) (ret_okF rfl) (by decide) rfl ?_
    · (simp only [szWorld, szSeq]; repeat (first | rw [if_neg (by omega)] | rw [if_pos (by omega)]))
  try simp only [HS] at h1
  refine W_skip ?_
  refine thenQ_n ?_
  refine W_seq ?_
  refine W_region ?_
  iterate 3 (refine ev ?_)
  refine callB ?_
  refine ⟨_, szIntSSo_fun _ _ (hx.2.1) (by omega) (by have g0 := szIntS_g x.room left (by omega) (by omega); omega), rfl, ?_⟩
  refine ev ?_
  refine WO_nil ?_
  refine thenQ_n ?_
  iterate 2 (refine W_seq ?_)
  refine W_keep [1, 2, 4] rfl ?_
  refine W_region ?_
  refine ev ?_
  refine ev ?_
  refine WO_nil ?_
  refine thenQ_n ?_
  refine W_cond rfl (fun h2 => ?_) (fun h2 => ?_)
  ·
    try simp only [HS] at h2
    refine W_seq ?_
    refine W_region ?_
    refine ev ?_
    refine WO_nil ?_
    refine thenQ_n ?_
    refine W_ret ?_
    refine thenQ_r ?_
    refine Ends_of (.inr rfl) (ret_okF rfl) (by decide) rfl ?_
    · (simp only [szWorld, szSeq]; repeat (first | rw [if_neg (by omega)] | rw [if_pos (by omega)]))
  try simp only [HS] at h2
  refine W_skip ?_
  refine thenQ_n ?_
  refine W_seq ?_
  refine W_region ?_
  iterate 3 (refine ev ?_)
  refine callB ?_
  refine ⟨_, szBoolS_fun _ _ (hx.2.2.1) (by omega) (by have g0 := szIntS_g x.room left (by omega) (by omega); have g1 := szIntSS_g x.held (szIntS x.room left) (by omega) (by omega); omega), rfl, ?_⟩
  refine ev ?_
  refine WO_nil ?_
  refine thenQ_n ?_
  iterate 2 (refine W_seq ?_)
  refine W_keep [1, 2, 4] rfl ?_
  refine W_region ?_
  refine ev ?_
  refine ev ?_
  refine WO_nil ?_
  refine thenQ_n ?_
  refine W_cond rfl (fun h3 => ?_) (fun h3 => ?_)
  ·
    try simp only [HS] at h3
    refine W_seq ?_
    refine W_region ?_
    refine ev ?_
    refine WO_nil ?_
    refine thenQ_n ?_
    refine W_ret ?_
    refine thenQ_r ?_
    refine Ends_of (.inr rfl) (ret_okF rfl) (by decide) rfl ?_
    · (simp only [szWorld, szSeq]; repeat (first | rw [if_neg (by omega)] | rw [if_pos (by omega)]))
  try simp only [HS] at h3
  refine W_skip ?_
  refine thenQ_n ?_
  refine W_seq ?_
  refine W_region ?_
  iterate 3 (refine ev ?_)
  refine callB ?_
  refine ⟨_, szTaskS_fun _ _ (hx.2.2.2.1) (by omega) (by have g0 := szIntS_g x.room left (by omega) (by omega); have g1 := szIntSS_g x.held (szIntS x.room left) (by omega) (by omega); have g2 := szBoolS_g x.shut (szIntSS x.held (szIntS x.room left)) (by omega) (by omega); omega), rfl, ?_⟩
  refine ev ?_
  refine WO_nil ?_
  refine thenQ_n ?_
  iterate 2 (refine W_seq ?_)
  refine W_keep [1, 2, 4] rfl ?_
  refine W_region ?_
  refine ev ?_
  refine ev ?_
  refine WO_nil ?_
  refine thenQ_n ?_
  refine W_cond rfl (fun h4 => ?_) (fun h4 => ?_)
  ·
    try simp only [HS] at h4
    refine W_seq ?_
    refine W_region ?_
    refine ev ?_
    refine WO_nil ?_
    refine thenQ_n ?_
    refine W_ret ?_
    refine thenQ_r ?_
    refine Ends_of (.inr rfl) (ret_okF rfl) (by decide) rfl ?_
    · (simp only [szWorld, szSeq]; repeat (first | rw [if_neg (by omega)] | rw [if_pos (by omega)]))
  try simp only [HS] at h4
  refine W_skip ?_
  refine thenQ_n ?_
  refine W_seq ?_
  refine W_region ?_
  iterate 3 (refine ev ?_)
  refine callB ?_
  refine ⟨_, szIntSo_fun _ _ (hx.2.2.2.2.1) (by omega) (by have g0 := szIntS_g x.room left (by omega) (by omega); have g1 := szIntSS_g x.held (szIntS x.room left) (by omega) (by omega); have g2 := szBoolS_g x.shut (szIntSS x.held (szIntS x.room left)) (by omega) (by omega); have g3 := szTaskS_g x.tasks (szLen x.shut (szIntSS x.held (szIntS x.room left))) (by omega) (by omega); omega), rfl, ?_⟩
  refine ev ?_
  refine WO_nil ?_
  refine thenQ_n ?_
  iterate 2 (refine W_seq ?_)
  refine W_keep [1, 4] rfl ?_
  refine W_region ?_
  refine ev ?_
  refine ev ?_
  refine WO_nil ?_
  refine thenQ_n ?_
  refine W_cond rfl (fun h5 => ?_) (fun h5 => ?_)
  ·
    try simp only [HS] at h5
    refine W_seq ?_
    refine W_region ?_
    refine ev ?_
    refine WO_nil ?_
    refine thenQ_n ?_
    refine W_ret ?_
    refine thenQ_r ?_
    refine Ends_of (.inr rfl) (ret_okF rfl) (by decide) rfl ?_
    · (simp only [szWorld, szSeq]; repeat (first | rw [if_neg (by omega)] | rw [if_pos (by omega)]))
  try simp only [HS] at h5
  refine W_skip ?_
  refine thenQ_n ?_
  refine W_seq ?_
  refine W_region ?_
  refine ev ?_
  refine ev ?_
  refine WO_nil ?_
  refine thenQ_n ?_
  refine W_ret ?_
  refine Ends_of (.inr rfl) (ret_okF rfl) (by decide) rfl ?_
  · (simp only [szWorld, szSeq]; repeat (first | rw [if_neg (by omega)] | rw [if_pos (by omega)]))

theorem toWorld_fun (x : World) (hx : World.ok 1048576 x) : Fun Try.prog 11 [.t (World.tt x)] (tupD [.agg [.own (T.ints x.room), .own (intss x.held), .own (T.bools x.shut), .own (T.Tasks x.tasks), .own (T.ints x.trace)]]) := by
  refine Fun.begin tys Try.func11 rfl rfl (N := 25) [(0, .t (World.tt x))] rfl rfl (fun w0 G F0 => ?_)
  refine W_seq ?_
  refine W_region ?_
  refine WO_box rfl rfl (lt_of rfl) rfl rfl ?_
  refine WO_norm rfl ?_
  refine WO_alloc tys rfl rfl (lt_of rfl) rfl rfl rfl ?_
  refine WO_norm rfl ?_
  refine WO_nil ?_
  refine thenQ_n ?_
  refine W_seq ?_
  refine W_region ?_
  refine WO_alloc tys rfl rfl (lt_of rfl) rfl rfl rfl ?_
  refine WO_norm rfl ?_
  refine WO_nil ?_
  refine thenQ_n ?_
  refine W_seq ?_
  refine W_region ?_
  refine ev ?_
  refine ev ?_
  refine callB ?_
  refine ⟨_, toIntSo_fun _ (by first | exact hx.1 | exact hx.2.2.2.2.1), rfl, ?_⟩
  refine ev ?_
  refine WO_store tys rfl rfl rfl rfl rfl rfl rfl rfl (lt_of rfl) ?_
  refine WO_norm rfl ?_
  refine WO_nil ?_
  refine thenQ_n ?_
  refine W_seq ?_
  refine W_keep [1, 2, 3] rfl ?_
  refine W_region ?_
  refine ev ?_
  refine ev ?_
  refine callB ?_
  refine ⟨_, toIntSSo_fun _ (by first | exact hx.2.1), rfl, ?_⟩
  refine ev ?_
  refine WO_store tys rfl rfl rfl rfl rfl rfl rfl rfl (lt_of rfl) ?_
  refine WO_norm rfl ?_
  refine WO_nil ?_
  refine thenQ_n ?_
  refine W_seq ?_
  refine W_region ?_
  refine ev ?_
  refine ev ?_
  refine callB ?_
  refine ⟨_, toBoolS_fun _ (by first | exact hx.2.2.1), rfl, ?_⟩
  refine ev ?_
  refine WO_keep [1, 2, 3, 14, 15] rfl ?_
  refine WO_store tys rfl rfl rfl rfl rfl rfl rfl rfl (lt_of rfl) ?_
  refine WO_norm rfl ?_
  refine WO_nil ?_
  refine thenQ_n ?_
  refine W_seq ?_
  refine W_region ?_
  refine ev ?_
  refine ev ?_
  refine callB ?_
  refine ⟨_, toTaskS_fun _ (by first | exact hx.2.2.2.1), rfl, ?_⟩
  refine ev ?_
  refine WO_store tys rfl rfl rfl rfl rfl rfl rfl rfl (lt_of rfl) ?_
  refine WO_norm rfl ?_
  refine WO_nil ?_
  refine thenQ_n ?_
  refine W_seq ?_
  refine W_region ?_
  refine ev ?_
  refine ev ?_
  refine callB ?_
  refine ⟨_, toIntSo_fun _ (by first | exact hx.1 | exact hx.2.2.2.2.1), rfl, ?_⟩
  refine WO_keep [2, 3, 22] rfl ?_
  refine ev ?_
  refine WO_store tys rfl rfl rfl rfl rfl rfl rfl rfl (lt_of rfl) ?_
  refine WO_norm rfl ?_
  refine WO_nil ?_
  refine thenQ_n ?_
  refine W_seq ?_
  refine W_region ?_
  first | (refine ev ?_; try refine WO_le (Le.freeze (u := 24) rfl) ?_) | refine WO_loadMove tys rfl rfl (lt_of rfl) rfl rfl rfl rfl rfl rfl ?_
  refine WO_norm rfl ?_
  refine WO_store tys rfl rfl rfl rfl rfl rfl rfl rfl (lt_of rfl) ?_
  refine WO_norm rfl ?_
  refine WO_nil ?_
  refine thenQ_n ?_
  refine W_ret ?_
  refine Ends_of (.inr rfl) (ret_okF rfl) (by decide) rfl ?_
  · rfl

theorem eqWorld_fun (a b : World) (ha : World.ok 9223372036854775807 a) (hb : World.ok 9223372036854775807 b) : Fun Try.prog 13 [.t (World.tt a), .t (World.tt b)] (tupD [.t (.bool (eqWorld a b))]) := by
  refine Fun.begin tys Try.func13 rfl rfl (N := 35) [(0, .t (World.tt a)), (1, .t (World.tt b))] rfl rfl (fun w0 G F0 => ?_)
  refine W_seq ?_
  refine W_region ?_
  refine WO_box rfl rfl (lt_of rfl) rfl rfl ?_
  refine WO_norm rfl ?_
  refine WO_box rfl rfl (lt_of rfl) rfl rfl ?_
  refine WO_norm rfl ?_
  refine ev ?_
  refine WO_nil ?_
  refine thenQ_n ?_
  iterate 2 (refine W_seq ?_)
  refine W_region ?_
  iterate 4 (refine ev ?_)
  refine callB ?_
  refine ⟨_, eqIntSo_fun _ _ (by first | exact ha.1 | exact ha.2.2.2.2.1) (by first | exact hb.1 | exact hb.2.2.2.2.1), rfl, ?_⟩
  refine ev ?_
  refine WO_keep [2, 3, 4, 10] rfl ?_
  refine WO_nil ?_
  refine thenQ_n ?_
  refine W_cond rfl (fun h1 => ?_) (fun h1 => ?_)
  ·
    try simp only [HS] at h1
    refine W_seq ?_
    refine W_region ?_
    refine ev ?_
    refine WO_nil ?_
    refine thenQ_n ?_
    refine W_ret ?_
    refine thenQ_r ?_
    refine Ends_of (.inr rfl) (ret_okF rfl) (by decide) rfl ?_
    · simp_all [eqWorld, eqI, eqB]
  try simp only [HS] at h1
  refine W_skip ?_
  refine thenQ_n ?_
  iterate 2 (refine W_seq ?_)
  refine W_region ?_
  iterate 4 (refine ev ?_)
  refine callB ?_
  refine ⟨_, eqIntSSo_fun _ _ (by first | exact ha.2.1) (by first | exact hb.2.1), rfl, ?_⟩
  refine ev ?_
  refine WO_nil ?_
  refine thenQ_n ?_
  refine W_cond rfl (fun h2 => ?_) (fun h2 => ?_)
  ·
    try simp only [HS] at h2
    refine W_seq ?_
    refine W_region ?_
    refine ev ?_
    refine WO_nil ?_
    refine thenQ_n ?_
    refine W_ret ?_
    refine thenQ_r ?_
    refine Ends_of (.inr rfl) (ret_okF rfl) (by decide) rfl ?_
    · simp_all [eqWorld, eqI, eqB]
  try simp only [HS] at h2
  refine W_skip ?_
  refine thenQ_n ?_
  iterate 2 (refine W_seq ?_)
  refine W_region ?_
  iterate 3 (refine ev ?_)
  refine WO_keep [2, 3, 4, 18, 19] rfl ?_
  refine ev ?_
  refine callB ?_
  refine ⟨_, eqBoolS_fun _ _ (by first | exact ha.2.2.1) (by first | exact hb.2.2.1), rfl, ?_⟩
  refine ev ?_
  refine WO_nil ?_
  refine thenQ_n ?_
  refine W_cond rfl (fun h3 => ?_) (fun h3 => ?_)
  ·
    try simp only [HS] at h3
    refine W_seq ?_
    refine W_region ?_
    refine ev ?_
    refine WO_nil ?_
    refine thenQ_n ?_
    refine W_ret ?_
    refine thenQ_r ?_
    refine Ends_of (.inr rfl) (ret_okF rfl) (by decide) rfl ?_
    · simp_all [eqWorld, eqI, eqB]
  try simp only [HS] at h3
  refine W_skip ?_
  refine thenQ_n ?_
  iterate 2 (refine W_seq ?_)
  refine W_region ?_
  iterate 4 (refine ev ?_)
  refine callB ?_
  refine ⟨_, eqTaskS_fun _ _ (by first | exact ha.2.2.2.1) (by first | exact hb.2.2.2.1), rfl, ?_⟩
  refine ev ?_
  refine WO_keep [2, 3, 4, 28] rfl ?_
  refine WO_nil ?_
  refine thenQ_n ?_
  refine W_cond rfl (fun h4 => ?_) (fun h4 => ?_)
  ·
    try simp only [HS] at h4
    refine W_seq ?_
    refine W_region ?_
    refine ev ?_
    refine WO_nil ?_
    refine thenQ_n ?_
    refine W_ret ?_
    refine thenQ_r ?_
    refine Ends_of (.inr rfl) (ret_okF rfl) (by decide) rfl ?_
    · simp_all [eqWorld, eqI, eqB]
  try simp only [HS] at h4
  refine W_skip ?_
  refine thenQ_n ?_
  iterate 2 (refine W_seq ?_)
  refine W_region ?_
  iterate 4 (refine ev ?_)
  refine callB ?_
  refine ⟨_, eqIntSo_fun _ _ (by first | exact ha.1 | exact ha.2.2.2.2.1) (by first | exact hb.1 | exact hb.2.2.2.2.1), rfl, ?_⟩
  refine ev ?_
  refine WO_nil ?_
  refine thenQ_n ?_
  refine W_cond rfl (fun h5 => ?_) (fun h5 => ?_)
  ·
    try simp only [HS] at h5
    refine W_seq ?_
    refine W_region ?_
    refine ev ?_
    refine WO_nil ?_
    refine thenQ_n ?_
    refine W_ret ?_
    refine thenQ_r ?_
    refine Ends_of (.inr rfl) (ret_okF rfl) (by decide) rfl ?_
    · simp_all [eqWorld, eqI, eqB]
  try simp only [HS] at h5
  refine W_skip ?_
  refine thenQ_n ?_
  refine W_seq ?_
  refine W_region ?_
  refine ev ?_
  refine WO_nil ?_
  refine thenQ_n ?_
  refine W_ret ?_
  refine Ends_of (.inr rfl) (ret_okF rfl) (by decide) rfl ?_
  · simp_all [eqWorld, eqI, eqB]


end Go.Proofs.Ytbkamkmmljbedaa
