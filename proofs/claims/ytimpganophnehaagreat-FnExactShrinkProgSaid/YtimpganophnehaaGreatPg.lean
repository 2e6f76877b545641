/- Walks and laws of the claim. -/
import Derived.Test.YtimpganophnehaaGreatFa
set_option linter.unusedVariables false
set_option linter.unusedSimpArgs false
set_option maxRecDepth 10000
set_option maxHeartbeats 1000000
namespace Go.Proofs.YtimpganophnehaaGreat
open Go.Eng
open Go.Eng
def kids (l : List Stmt) (m : Int) : List Int × List Int := match l[m.toNat]? with
 | some s => (s.thn, s.els)
 | none => ([], [])
theorem kids_at {l : List Stmt} {m : Int} (h : m.toNat < l.length) : kids l m = ((l[m.toNat]).thn, (l[m.toNat]).els) := by
 unfold kids; rw [List.getElem?_eq_getElem h]
def inBB (N i : Int) (b : List Int) : Bool := b.all fun x => decide (i ≤ x ∧ x < N)
theorem inBB_iff {N i : Int} {b : List Int} : inBB N i b = true ↔ inB N i b := by
 unfold inBB inB; rw [List.all_eq_true]; simp
def downBB (l : List Stmt) : Bool := (upto l.length).all fun m => inBB l.length (m + 1) (kids l m).1 && inBB l.length (m + 1) (kids l m).2
theorem downBB_iff {l : List Stmt} : downBB l = true ↔ downB l.length (kids l) := by
 unfold downBB downB
 rw [List.all_eq_true]
 constructor
 ·intro h m h0 h1
  have := h m (mem_upto.2 ⟨h0, h1⟩)
  rw [Bool.and_eq_true, inBB_iff, inBB_iff] at this
  exact this
 ·intro h m hm
  have h2 := mem_upto.1 hm
  rw [Bool.and_eq_true, inBB_iff, inBB_iff]
  exact h m h2.1 h2.2
def shapeB (l : List Stmt) (body : List Int) : Bool := downBB l && (inBB l.length 0 body && (ord l.length (kids l) body == upto l.length))
theorem shapeB_iff {l : List Stmt} {body : List Int} : shapeB l body = true ↔ downB l.length (kids l) ∧ inB l.length 0 body ∧ ord l.length (kids l) body = upto l.length := by
 unfold shapeB; rw [Bool.and_eq_true, Bool.and_eq_true, downBB_iff, inBB_iff, beq_iff_eq]
def blkGo : List Stmt → Int → List (Int × List Int)
 | [], _ => []
 | s :: l, k => (k, s.thn) :: (k, s.els) :: blkGo l (k + 1)
def blkO (l : List Stmt) (body : List Int) : List (Int × List Int) := (-1, body) :: blkGo l 0
theorem blkGo_len : ∀ (l : List Stmt) (k : Int), (blkGo l k).length = 2 * l.length
 | [], _ => rfl
 | s :: l, k => by rw [blkGo, List.length_cons, List.length_cons, blkGo_len l, List.length_cons]; omega
theorem blkGo_mem : ∀ {l : List Stmt} {k : Int} {p : Int × List Int}, p ∈ blkGo l k ↔ ∃ j : Nat, ∃ h : j < l.length, p = (k + j, (l[j]).thn) ∨ p = (k + j, (l[j]).els)
  | [], k, p => by simp [blkGo]
  | s :: l, k, p => by
    rw [blkGo, List.mem_cons, List.mem_cons, blkGo_mem]
    constructor
    · rintro (h | h | ⟨j, hj, h⟩)
      · exact ⟨0, by simp, .inl (by simpa using h)⟩
      · exact ⟨0, by simp, .inr (by simpa using h)⟩
      · refine ⟨j + 1, by simp; omega, ?_⟩
        rcases h with h | h
        · exact .inl (by rw [h]; simp; omega)
        · exact .inr (by rw [h]; simp; omega)
    · rintro ⟨j, hj, h⟩
      cases j with
      | zero => rcases h with h | h
                · exact .inl (by simpa using h)
                · exact .inr (.inl (by simpa using h))
      | succ j =>
        refine .inr (.inr ⟨j, by simpa using hj, ?_⟩)
        rcases h with h | h
        · exact .inl (by rw [h]; simp; omega)
        · exact .inr (by rw [h]; simp; omega)
def riseP (l : List Int) (lo hi : Int) : Prop := (∀ x, x ∈ l → lo ≤ x ∧ x ≤ hi) ∧ l.Pairwise (· < ·)
instance (l : List Int) (lo hi : Int) : Decidable (riseP l lo hi) := by unfold riseP; infer_instance
def riseB (l : List Int) (lo hi : Int) : Bool := decide (riseP l lo hi)
def cntF (l : List Int) (x : Int) : Int := l.count x
def onceB (N : Nat) (l : List Int) : Bool := (upto N).all fun x => decide (cntF l x = 1)
def blkB (N : Int) (p : Int × List Int) : Bool := riseB p.2 0 (N - 1) && p.2.all fun n => decide (p.1 < n)
def blocksB (l : List Stmt) (body : List Int) : Bool := (blkO l body).all (blkB l.length) && onceB l.length ((blkO l body).map (·.2)).flatten
theorem upto_succ (N : Nat) : upto (N + 1) = 0 :: (upto N).map (· + 1) := by
 unfold upto
 rw [List.range_succ_eq_map, List.map_cons, List.map_map, List.map_map]
 rfl
theorem allB_blk : ∀ (l : List Stmt) (k : Int), ((blkGo l k).map (·.2)).flatten = (upto l.length).flatMap (both (kids l))
 | [], _ => rfl
 | s :: l, k => by
  rw [blkGo, List.map_cons, List.map_cons, List.flatten_cons, List.flatten_cons, allB_blk l, List.length_cons, upto_succ, List.flatMap_cons, List.flatMap_map]
  rw [show both (kids (s :: l)) 0 = s.thn ++ s.els from rfl, List.append_assoc]
  congr 2
  refine flatMap_congr' fun x hx => ?_
  have h := mem_upto.1 hx
  unfold both kids
  rw [show (x + 1).toNat = x.toNat + 1 from by omega]
  rfl
theorem blkO_flat (l : List Stmt) (body : List Int) : ((blkO l body).map (·.2)).flatten = allB l.length (kids l) body := by
 rw [blkO, List.map_cons, List.flatten_cons, allB_blk, allB]
theorem onceB_iff {N : Nat} {l : List Int} : onceB N l = true ↔ ∀ x : Int, 0 ≤ x → x < N → l.count x = 1 := by
 unfold onceB cntF
 rw [List.all_eq_true]
 constructor
 ·intro h x h0 h1; have := h x (mem_upto.2 ⟨h0, h1⟩); simp at this; omega
 ·intro h x hx; have := h x (mem_upto.1 hx).1 (mem_upto.1 hx).2; simp; omega
theorem blocksB_iff {l : List Stmt} {body : List Int} : blocksB l body = true ↔ inB l.length 0 body ∧ body.Pairwise (· < ·) ∧ downB l.length (kids l) ∧ (∀ m : Int, 0 ≤ m → m < l.length → (kids l m).1.Pairwise (· < ·) ∧ (kids l m).2.Pairwise (· < ·)) ∧ ∀ x : Int, 0 ≤ x → x < l.length → (allB l.length (kids l) body).count x = 1 := by
 unfold blocksB
 rw [Bool.and_eq_true, onceB_iff, blkO_flat, blkO, List.all_cons, Bool.and_eq_true, List.all_eq_true]
 have hb : ∀ (o : Int) (b : List Int), blkB l.length (o, b) = true ↔ inB l.length 0 b ∧ b.Pairwise (· < ·) ∧ ∀ x, x ∈ b → o < x := by
  intro o b
  unfold blkB riseB
  rw [Bool.and_eq_true, decide_eq_true_iff, List.all_eq_true]
  unfold riseP inB
  simp only [decide_eq_true_eq]
  constructor
  ·rintro ⟨⟨h1, h2⟩, h3⟩; exact ⟨fun x hx => by have := h1 x hx; omega, h2, h3⟩
  ·rintro ⟨h1, h2, h3⟩; exact ⟨⟨fun x hx => by have := h1 x hx; omega, h2⟩, h3⟩
 rw [hb]
 constructor
 ·rintro ⟨⟨⟨h1, h2, _⟩, h4⟩, h5⟩
  have hk : ∀ m : Int, 0 ≤ m → m < l.length → (inB l.length (m + 1) (kids l m).1 ∧ inB l.length (m + 1) (kids l m).2) ∧ (kids l m).1.Pairwise (· < ·) ∧ (kids l m).2.Pairwise (· < ·) := by
   intro m m0 m1
   have q1 := (hb _ _).1 (h4 (m, (l[m.toNat]'(by omega)).thn) (blkGo_mem.2 ⟨m.toNat, by omega, .inl (by congr 1; omega)⟩))
   have q2 := (hb _ _).1 (h4 (m, (l[m.toNat]'(by omega)).els) (blkGo_mem.2 ⟨m.toNat, by omega, .inr (by congr 1; omega)⟩))
   rw [kids_at (by omega)]
   exact ⟨⟨fun x hx => by have := q1.1 x hx; have := q1.2.2 x hx; omega, fun x hx => by have := q2.1 x hx; have := q2.2.2 x hx; omega⟩, q1.2.1, q2.2.1⟩
  exact ⟨h1, h2, fun m m0 m1 => (hk m m0 m1).1, fun m m0 m1 => (hk m m0 m1).2, h5⟩
 ·rintro ⟨h1, h2, h3, h4, h5⟩
  refine ⟨⟨⟨h1, h2, fun x hx => by have := h1 x hx; omega⟩, fun p hp => ?_⟩, h5⟩
  obtain ⟨j, hj, hp⟩ := blkGo_mem.1 hp
  have q3 := h3 j (by omega) (by omega)
  have q4 := h4 j (by omega) (by omega)
  rw [kids_at (by omega)] at q3 q4
  rcases hp with rfl | rfl
  ·refine (hb _ _).2 ⟨fun x hx => ?_, q4.1, fun x hx => ?_⟩
   ·have := q3.1 x hx; omega
   ·have := q3.1 x hx; omega
  ·refine (hb _ _).2 ⟨fun x hx => ?_, q4.2, fun x hx => ?_⟩
   ·have := q3.2 x hx; omega
   ·have := q3.2 x hx; omega
theorem upto_len (N : Nat) : (upto N).length = N := by unfold upto; simp
theorem upto_at {N k : Nat} (h : k < (upto N).length) : (upto N)[k] = k := by simp [upto]
theorem shape_blocks {l : List Stmt} {body : List Int} : shapeB l body = true ↔ blocksB l body = true ∧ ∀ (k : Nat) (h : k < (ord l.length (kids l) body).length), (ord l.length (kids l) body)[k] = (k : Int) := by
 rw [shapeB_iff, blocksB_iff]
 constructor
 ·rintro ⟨hd, hb, ho⟩
  have := once_of_ord hd hb ho
  refine ⟨⟨hb, this.2.1, hd, this.2.2, this.1⟩, fun k h => ?_⟩
  have h2 : k < (upto l.length).length := by rw [← ho]; exact h
  rw [← upto_at h2]
  congr 1
 ·rintro ⟨⟨hb, _, hd, _, ha⟩, ho⟩
  refine ⟨hd, hb, ?_⟩
  have hp := (ord_len hd hb ha).length_eq
  refine List.ext_getElem hp fun k h1 h2 => ?_
  rw [ho k h1, upto_at h2]
theorem blocks_len {l : List Stmt} {body : List Int} (h : blocksB l body = true) : (ord l.length (kids l) body).length = l.length := by
 have h := blocksB_iff.1 h
 rw [(ord_len h.2.2.1 h.1 h.2.2.2.2).length_eq, upto_len]
def usesF : List Stmt → Nat
 | [] => 0
 | s :: l => s.thn.length + s.els.length + usesF l
theorem usesF_flat (l : List Stmt) : usesF l = ((upto l.length).flatMap (both (kids l))).length := by
 rw [← allB_blk l 0]
 generalize (0 : Int) = k
 induction l generalizing k with
 | nil => rfl
 | cons s l ih =>
  rw [usesF, ih (k + 1), blkGo]
  simp only [List.map_cons, List.flatten_cons, List.length_append]
  omega
theorem count_sum (N : Nat) : ∀ {l : List Int}, (∀ x, x ∈ l → 0 ≤ x ∧ x < N) → (∀ x : Int, 0 ≤ x → x < N → l.count x = 1) → l.length = N := by
 intro l h1 h2
 have : l.Perm (upto N) := by
  rw [List.perm_iff_count]
  intro x
  by_cases hx : 0 ≤ x ∧ x < N
  ·rw [h2 x hx.1 hx.2, count_upto hx.1 hx.2]
  ·rw [List.count_eq_zero_of_not_mem fun h => hx (h1 x h), List.count_eq_zero_of_not_mem fun h => hx (mem_upto.1 h)]
 rw [this.length_eq, upto_len]
theorem shape_uses {l : List Stmt} {body : List Int} (h : shapeB l body = true) : body.length + usesF l = l.length := by
 have h := shapeB_iff.1 h
 have h2 := (once_of_ord h.1 h.2.1 h.2.2).1
 have := count_sum l.length (l := allB l.length (kids l) body) (fun x hx => by
  rcases List.mem_append.1 hx with hx | hx
  ·exact h.2.1 x hx
  ·obtain ⟨m, hm, hx⟩ := List.mem_flatMap.1 hx
   have hm := mem_upto.1 hm
   have hk := h.1 m hm.1 hm.2
   rcases List.mem_append.1 hx with hx | hx
   ·have := hk.1 x hx; omega
   ·have := hk.2 x hx; omega) h2
 unfold allB at this
 rw [List.length_append, ← usesF_flat] at this
 exact this
theorem usesF_drop (l : List Stmt) {k : Nat} (h : k < l.length) : usesF (l.drop k) = (l[k]).thn.length + (l[k]).els.length + usesF (l.drop (k + 1)) := by
 rw [List.drop_eq_getElem_cons h, usesF]
theorem usesF_le (l : List Stmt) : ∀ (n : Nat), usesF (l.drop n) ≤ usesF l := by
 induction l with
 | nil => intro n; simp
 | cons s l ih =>
  intro n
  cases n with
  | zero => exact Nat.le_refl _
  | succ n => have := ih n; rw [List.drop_succ_cons, usesF]; omega
theorem ord_bound {l : List Stmt} (hd : downB l.length (kids l)) : ∀ (k : Nat) (i : Nat) {b : List Int}, l.length - i ≤ k → inB l.length i b → (ord l.length (kids l) b).length ≤ b.length * 2 ^ usesF (l.drop i)
 | k, i, [], hk, hb => by rw [ord_nil]; simp
 | 0, i, x :: b, hk, hb => by have := hb x (List.mem_cons_self ..); omega
 | k + 1, i, x :: b, hk, hb => by
  have hx := hb x (List.mem_cons_self ..)
  have hr := ord_bound hd (k + 1) i (b := b) hk fun y hy => hb y (List.mem_cons_of_mem _ hy)
  have hkd := hd x (by omega) hx.2
  rw [ord_cons hd (inB_lower hb (by omega))]
  have r1 := ord_bound hd k (x.toNat + 1) (b := (kids l x).1) (by omega) (by rw [show ((x.toNat + 1 : Nat) : Int) = x + 1 from by omega]; exact hkd.1)
  have r2 := ord_bound hd k (x.toNat + 1) (b := (kids l x).2) (by omega) (by rw [show ((x.toNat + 1 : Nat) : Int) = x + 1 from by omega]; exact hkd.2)
  have hu := usesF_drop l (k := x.toNat) (by omega)
  have hle : ∀ (n j : Nat), usesF (l.drop (j + n)) ≤ usesF (l.drop j) := by
   intro n
   induction n with
   | zero => intro j; simp
   | succ n ih =>
    intro j
    have h1 := ih (j + 1)
    rw [show j + 1 + n = j + (n + 1) from by omega] at h1
    by_cases hj : j < l.length
    ·have := usesF_drop l hj; omega
    ·rw [List.drop_of_length_le (by omega : l.length ≤ j + (n + 1))]; simp [usesF]
  have h3 := hle (x.toNat - i) i
  rw [show i + (x.toNat - i) = x.toNat from by omega] at h3
  rw [kids_at (by omega)] at r1 r2 ⊢
  dsimp only at r1 r2 ⊢
  generalize (l[x.toNat]'(by omega)).thn = t1 at *
  generalize (l[x.toNat]'(by omega)).els = t2 at *
  generalize usesF (l.drop (x.toNat + 1)) = u at *
  generalize usesF (l.drop x.toNat) = v at *
  generalize usesF (l.drop i) = z at *
  rw [List.length_append, List.length_cons, List.length_append, List.length_cons, Nat.succ_mul]
  have h4 : 1 + (t1.length * 2 ^ u + t2.length * 2 ^ u) ≤ 2 ^ z := by
   have h5 : 2 ^ v ≤ 2 ^ z := Nat.pow_le_pow_right (by omega) h3
   have h6 : 2 ^ v = 2 ^ (t1.length + t2.length) * 2 ^ u := by rw [hu, Nat.pow_add]
   have h7 : t1.length + t2.length + 1 ≤ 2 ^ (t1.length + t2.length) := Nat.lt_two_pow_self
   have h8 : (t1.length + t2.length + 1) * 2 ^ u ≤ 2 ^ (t1.length + t2.length) * 2 ^ u := Nat.mul_le_mul_right _ h7
   have h9 : 1 ≤ 2 ^ u := Nat.one_le_two_pow
   rw [Nat.add_mul, Nat.add_mul] at h8
   omega
  omega
theorem ord_bound' {l : List Stmt} (hd : downB l.length (kids l)) {b : List Int} (hb : inB l.length 0 b) (h : b.length ≤ 16) (hn : usesF l ≤ 16) : (ord l.length (kids l) b).length ≤ 1048576 := by
 have := ord_bound hd l.length 0 (b := b) (by omega) hb
 rw [List.drop_zero] at this
 have h2 : 2 ^ usesF l ≤ 2 ^ 16 := Nat.pow_le_pow_right (by omega) (by omega)
 have h3 : b.length * 2 ^ usesF l ≤ 16 * 2 ^ 16 := Nat.mul_le_mul (by omega) h2
 omega
open Go.Eng
theorem rise_step {l : List Int} {lo hi k : Int} (h0 : 0 ≤ k) (h1 : k < l.length) (h : riseP (l.take k.toNat) lo hi) (h2 : lo ≤ l[k.toNat]'(by omega) ∧ l[k.toNat]'(by omega) ≤ hi)
  (h3 : ∀ h : 0 < k, l[(k - 1).toNat]'(by omega) < l[k.toNat]'(by omega)) : riseP (l.take (k + 1).toNat) lo hi := by
 rw [take_at h0 h1]
 refine ⟨fun x hx => ?_, ?_⟩
 ·rcases List.mem_append.1 hx with hx | hx
  ·exact h.1 x hx
  ·rw [List.mem_singleton.1 hx]; exact h2
 ·rw [List.pairwise_append]
  refine ⟨h.2, List.pairwise_singleton _ _, fun a ha b hb => ?_⟩
  rw [List.mem_singleton.1 hb]
  obtain ⟨j, hj, rfl⟩ := List.getElem_of_mem ha
  rw [List.length_take] at hj
  have h4 := h3 (by omega)
  by_cases hjk : j = (k - 1).toNat
  ·subst hjk; rw [List.getElem_take]; exact h4
  ·have := List.pairwise_iff_getElem.1 h.2 j (k - 1).toNat (by rw [List.length_take]; omega) (by rw [List.length_take]; omega) (by omega)
   rw [List.getElem_take, List.getElem_take] at this
   rw [List.getElem_take]
   omega
theorem rise_no1 {l : List Int} {lo hi k : Int} (h0 : 0 ≤ k) (h1 : k < l.length) (h2 : ¬ (lo ≤ l[k.toNat]'(by omega) ∧ l[k.toNat]'(by omega) ≤ hi)) : riseB l lo hi = false := by
 unfold riseB; rw [decide_eq_false_iff_not]; intro h; exact h2 (h.1 _ (List.getElem_mem _))
theorem rise_no2 {l : List Int} {lo hi k : Int} (h0 : 0 < k) (h1 : k < l.length) (h2 : l[k.toNat]'(by omega) ≤ l[(k - 1).toNat]'(by omega)) : riseB l lo hi = false := by
 unfold riseB; rw [decide_eq_false_iff_not]; intro h
 have := List.pairwise_iff_getElem.1 h.2 (k - 1).toNat k.toNat (by omega) (by omega) (by omega)
 omega
theorem rise_yes {l : List Int} {lo hi k : Int} (h1 : (l.length : Int) ≤ k) (h : riseP (l.take k.toNat) lo hi) : riseB l lo hi = true := by
 rw [take_end h1] at h; unfold riseB; exact decide_eq_true h
theorem l1Rising_fun (l : List Int) (lo hi : Int) (hl : l.length ≤ 1073741824) : Fun Tryz.prog 224 [.t (T.ints l), .t (.int lo), .t (.int hi)] (tupD [.t (.bool (riseB l lo hi))]) := by
 refine Fun.begin tys Tryz.func224 Z Z (N := 35) [(0, .t (T.ints l)), (1, .t (.int lo)), (2, .t (.int hi))] Z Z (fun w0 G F0 => ?_)
 refine sQ (rG (eZ Z (oN (tN (sQ (sQ (rG (eZ Z (evE ?_)))))))))
 refine eZ Z (oN (tN (W_block ?_)))
 refine lK (α := Int) [0, 1, 2, 9, 10] [] (fun x => [(11, .t (.int x))]) (fun x => []) (fun x => 0 ≤ x ∧ x ≤ l.length ∧ riseP (l.take x.toNat) lo hi) (fun x => Int.toNat (l.length - x)) 0 ?_ (fun k hx => ?_)
 ·exact ⟨by omega, by omega, fun x hx => by simp at hx, by simp⟩
 obtain ⟨hk0, hk1, hk2⟩ := hx
 refine nY Z (sQ (rG (eZ Z (oN (tN (sQ ?_))))))
 refine W_cond Z (fun h1 => ?_) (fun h1 => ?_)
 ·
  simp only [HS] at h1
  refine W_skip (tN (sQ (W_block (sQ (rG (eZ Z (WO_idxT tys Z Z (lt_of Z) Z Z Z Z Z Z Z (by omega) _ (getT _ _ (by omega) (by omega)) (eK 3 Z (oN (tN (sQ (rG (eK 3 Z (kZ [0,1,2,7,8,9,10,11,12,13,14,15,16,17,18] Z (callB ?_)))))))))))))))
  refine ⟨_, l1In_fun _ _ _, rfl, ?_⟩
  refine eK 2 Z ?_
  refine WO_guard Z Z Z Z (lt_of Z) (fun h2 => ?_) (fun h2 => ?_)
  rotate_left
  ·
   simp only [HS] at h2
   refine gM Z (gM Z (gM Z (gM Z (gM Z (gM Z (kZ [0,1,2,7,8,9,10,11,12,13,14,15,16,17,18,19,20,21,22,23,24,25,26,27,28] Z (gM Z (gM Z (gM Z (gM Z (eZ Z (oN (tN (W_condT Z (sQ ?_)))))))))))))))
   refine rG (eZ Z (oN (tN (rT (bR (tR (loopQ_r (bR (tR (eR ?_))))))))))
   ·exact retB (rise_no1 hk0 (by omega) h2).symm
  simp only [HS] at h2
  refine eZ Z (gY Z (eZ Z (gY Z (eZ Z ?_))))
  refine WO_guard Z Z Z Z (lt_of Z) (fun h3 => ?_) (fun h3 => ?_)
  rotate_left
  ·
   simp only [HS] at h3
   refine gM Z (gM Z (gM Z (kZ [0,1,2,7,8,9,10,11,12,13,14,15,16,17,18,19,20,21,22,23,24,25,26,27,28] Z (gM Z (gM Z (gM Z (gY Z (eK 2 Z (oN (tN (W_condF Z (W_skip (bN (tN (rG ?_)))))))))))))))
   refine evI ?_
   refine eZ Z (oN ?_)
   refine lQ _ ?_ ?_
   ·skip
    exact ⟨by omega, by omega, rise_step hk0 (by omega) hk2 h2 (fun h => by omega)⟩
   ·(show Int.toNat _ < Int.toNat _); omega
  simp only [HS] at h3
  refine eZ Z (gY Z (eZ Z (gY Z (evI ?_))))
  refine kZ [0,1,2,7,8,9,10,11,12,13,14,15,16,17,18,19,20,21,22,23,24,25,26,27] Z (gY Z (WO_idxT tys Z Z (lt_of Z) Z Z Z Z Z Z Z (by omega) _ (getT _ _ (by omega) (by omega)) (gY Z (eZ Z (gY Z (eZ Z (gY Z (eZ Z (gY Z (eK 2 Z (oN (tN ?_))))))))))))
  refine W_cond Z (fun h4 => ?_) (fun h4 => ?_)
  ·
   simp only [HS] at h4
   refine sQ (rG (eZ Z (oN (tN (rT (bR (tR (loopQ_r (bR (tR (eR ?_)))))))))))
   ·exact retB (rise_no2 (by assumption) (by omega) (by assumption)).symm
  simp only [HS] at h4
  refine W_skip (bN (tN (rG (evI ?_))))
  refine eZ Z (oN ?_)
  refine lQ _ ?_ ?_
  ·skip
   exact ⟨by omega, by omega, rise_step hk0 (by omega) hk2 h2 (fun h => by omega)⟩
  ·(show Int.toNat _ < Int.toNat _); omega
 simp only [HS] at h1
 refine W_exit (tE (loopQ_e (inBlk_y (tN (sQ (rG (eZ Z (oN (tN (rT (eR ?_)))))))))))
 ·exact retB (rise_yes (by omega) hk2).symm
theorem readI (l : List Int) : ∀ x, x ∈ l.map T.int → (T.cells x).length = 1 ∧ ∀ y, y ∈ T.cells x → ∃ v, y = .v v := by
 intro x hx
 obtain ⟨a, _, rfl⟩ := List.mem_map.1 hx
 exact ⟨rfl, fun y hy => ⟨_, List.mem_singleton.1 hy⟩⟩
def ordF (f : Func) (b : List Int) : List Int := ord f.stmts.length (kids f.stmts) b
theorem ordF_step {f : Func} (hd : downB f.stmts.length (kids f.stmts)) {b : List Int} (hb : inB f.stmts.length 0 b) {k : Int} (h0 : 0 ≤ k) (h1 : k < b.length) (hn : (b[k.toNat]'(by omega)).toNat < f.stmts.length) :
  ordF f (b.drop k.toNat) = b[k.toNat]'(by omega) :: (ordF f (f.stmts[(b[k.toNat]'(by omega)).toNat]'hn).thn ++ (ordF f (f.stmts[(b[k.toNat]'(by omega)).toNat]'hn).els ++ ordF f (b.drop (k + 1).toNat))) := by
 have e := drop_at h0 h1
 rw [e]
 unfold ordF
 rw [ord_cons hd fun x hx => hb x (by rw [← e] at hx; exact List.mem_of_mem_drop hx), kids_at hn]
 simp only [List.cons_append, List.append_assoc]
theorem ordF_nil {f : Func} : ordF f [] = [] := ord_nil
theorem l3Order_fun0 (f : Func) (b : List Int) (hf : f.ok 1048576) (hd : downB f.stmts.length (kids f.stmts)) (hb : inB f.stmts.length 0 b) (hbl : b.length ≤ 1048576) (hlen : (ordF f b).length ≤ 1048576) (ih : ∀ n, n ∈ b → ∀ h : n.toNat < f.stmts.length, Fun Tryz.prog 201 [.t f.tt, .t (T.ints (f.stmts[n.toNat]).thn)] (.own (T.ints (ordF f (f.stmts[n.toNat]).thn))) ∧ Fun Tryz.prog 201 [.t f.tt, .t (T.ints (f.stmts[n.toNat]).els)] (.own (T.ints (ordF f (f.stmts[n.toNat]).els)))) : Fun Tryz.prog 201 [.t f.tt, .t (T.ints b)] (tupD [.own (T.ints (ordF f b))]) := by
 have hl : f.stmts.length ≤ 1048576 := hf.2.1.1
 refine Fun.begin tys Tryz.func201 Z Z (N := 40) [(0, .t f.tt), (1, .t (T.ints b))] Z Z (fun w0 G F0 => ?_)
 refine sQ (rG (WO_box Z Z (lt_of Z) Z Z (nZ Z (eZ Z (oN (tN (sQ (rG (eZ Z (WO_le (Le.nilOwn (u := 5) 1 Z) (WO_le (Le.adoptE (u := 5) 5 Z Z) (nZ Z (oN (tN (sQ ?_)))))))))))))))
 refine sQ (rG (eZ Z (evE ?_)))
 refine eZ Z (oN (tN (W_block ?_)))
 refine lK (α := Int × Nat × List T) [2, 8, 9] [2] (fun x => [(10, .t (.int (x.1))), (5, .sl 5 0 (x.2.1))]) (fun x => [(5, .L 1 (x.2.2))]) (fun x => 0 ≤ (x.1) ∧ (x.1) ≤ b.length ∧ (x.2.1) = (x.2.2).length ∧ ∃ done : List Int, (x.2.2) = done.map T.int ∧ ordF f b = done ++ ordF f (b.drop (x.1).toNat)) (fun x => Int.toNat (b.length - (x.1))) (0, 0, []) ?_ (fun x hx => ?_)
 ·exact ⟨by omega, by omega, rfl, [], rfl, rfl⟩
 obtain ⟨k, m, xs⟩ := x
 obtain ⟨hk0, hk1, hm, done, hx, he⟩ := hx
 dsimp only at hk0 hk1 hm hx he ⊢
 refine nY Z (sQ (rG (eZ Z (oN (tN (sQ ?_))))))
 refine W_cond Z (fun h1 => ?_) (fun h1 => ?_)
 ·
  simp only [HS] at h1
  refine W_skip (tN (sQ (W_block (sQ (rG (WO_idxT tys Z Z (lt_of Z) Z Z Z Z Z Z Z (by omega) _ (getT _ _ (by omega) (by omega)) (eZ Z ?_)))))))
  have hn := hb _ (List.getElem_mem (l := b) (n := k.toNat) (by omega))
  have hs := ordF_step hd hb hk0 h1 (by omega)
  have hq := congrArg List.length he
  rw [hs] at hq
  simp only [List.length_append, List.length_cons] at hq
  have hxl := congrArg List.length hx
  rw [List.length_map] at hxl
  refine eZ Z (oN (tN (sQ (rG (eK 2 Z ?_)))))
  refine WO_buildSlice tys [T.int (b[k.toNat]'(by omega))] Z Z (lt_of Z) Z Z Z Z Z (lt_of Z) (by repeat (first | exact PartsOk.nil' | refine PartsOk.cons' rfl (by repeat (first | exact AbsL.nil' | refine AbsL.v' ?_ | refine AbsL.own' ?_ | refine AbsL.none' ?_)) Z ?_)) (by first | exact List.nodup_nil | exact nodup1 _ | decide | exact nodupB_sound Z) Z (by decide) ?_
  refine nZ Z (WO_append tys Z Z (lt_of Z) Z Z Z Z Z (.own Z (by first | omega | (simp only [List.length_append]; omega))) Z (.own Z (by first | decide | omega)) (by decide) (by simp only [List.length_take, List.length_cons, List.length_nil]; omega) (by decide) Z ?_)
  refine nZ Z (eZ Z (kZ [2,5,7,8,9,10,11,12,13,14,15,16,17] Z (oN (tN (sQ (W_regionDm 9 mixed Z (by kernel_rfl) (by kernel_rfl) (evQ ?_)))))))
  refine evQ ?_
  refine evQ ?_
  refine evQ ?_
  refine evQ ?_
  refine QL_idxT tys Z Z (lt_of Z) Z Z Z Z Z Z Z (by omega) _ (getT _ _ (by omega) (by omega)) (QL_norm Z (evQ ?_))
  refine evQ ?_
  refine callBQ ?_
  refine ⟨_, (ih _ (List.getElem_mem _) _).1, rfl, ?_⟩
  refine QL_nil (nZ Z (WO_le (Le.freeze (u := 26) Z) (nZ Z (WO_append tys Z Z (lt_of Z) Z Z Z Z Z (.own Z (by first | omega | (simp only [List.length_append]; omega))) Z (.read (readI _)) (by decide) (by simp only [List.length_take, List.length_append, List.length_map, List.length_cons, List.length_nil]; omega) (by decide) Z ?_))))
  refine nZ Z (eZ Z (oN (tN (W_regionDm 9 mixed Z (by kernel_rfl) (by kernel_rfl) (evQ ?_)))))
  refine evQ ?_
  refine evQ ?_
  refine evQ ?_
  refine QL_norm Z (evQ ?_)
  refine QL_idxT tys Z Z (lt_of Z) Z Z Z Z Z Z Z (by omega) _ (getT _ _ (by omega) (by omega)) (evQ ?_)
  refine evQ ?_
  refine callBQ ?_
  refine ⟨_, (ih _ (List.getElem_mem _) _).2, rfl, ?_⟩
  refine QL_nil (nZ Z (WO_le (Le.freeze (u := 36) Z) (nZ Z (WO_append tys Z Z (lt_of Z) Z Z Z Z Z (.own Z (by first | omega | (simp only [List.length_append]; omega))) Z (.read (readI _)) (by decide) (by simp only [List.length_take, List.length_append, List.length_map, List.length_cons, List.length_nil]; omega) (by decide) Z ?_))))
  refine nZ Z (eZ Z (oN (bN (tN (rG (evI ?_))))))
  refine eZ Z (oN ?_)
  refine lQ (_, _, _) ?_ ?_
  ·dsimp only
   refine ⟨by omega, by omega, by simp, done ++ b[k.toNat]'(by omega) :: (ordF f (f.stmts[(b[k.toNat]'(by omega)).toNat]'(by omega)).thn ++ ordF f (f.stmts[(b[k.toNat]'(by omega)).toNat]'(by omega)).els), ?_, ?_⟩
   ·subst hm hx; repeat rw [List.take_of_length_le (by simp)]
    simp
   ·rw [he, hs]; simp
  ·(show Int.toNat _ < Int.toNat _); omega
 simp only [HS] at h1
 refine W_exit (tE (loopQ_e (inBlk_y (tN (sQ (rG (eK 2 Z (oN (tN (W_le (Le.gather (u := 4) (id := 5) Z Z (by omega)) (rT (eR ?_))))))))))))
 ·(rw [he, drop_end h1, ordF_nil, List.append_nil, hm, List.take_length, hx]; rfl)
theorem ordF_sub {f : Func} (hd : downB f.stmts.length (kids f.stmts)) : ∀ {b : List Int}, inB f.stmts.length 0 b → ∀ n, n ∈ b → ∀ h : n.toNat < f.stmts.length, (ordF f (f.stmts[n.toNat]).thn).length + (ordF f (f.stmts[n.toNat]).els).length ≤ (ordF f b).length
 | [], _, n, hn, _ => by cases hn
 | x :: b, hb, n, hn, h => by
  have e := ordF_step hd hb (k := 0) (by omega) (by simp) (by have := hb x (List.mem_cons_self ..); simp; omega)
  have e2 := congrArg List.length e
  simp only [Int.toNat_zero, List.drop_zero, List.getElem_cons_zero, List.length_cons, List.length_append, Int.zero_add, List.drop_succ_cons, Int.reduceToNat] at e2
  rcases List.mem_cons.1 hn with rfl | hn
  ·omega
  ·have := ordF_sub hd (fun y hy => hb y (List.mem_cons_of_mem _ hy)) n hn h
   omega
theorem stmt_ok {f : Func} (hf : f.ok 1048576) {n : Nat} (h : n < f.stmts.length) : (f.stmts[n]).thn.length ≤ 1048576 ∧ (f.stmts[n]).els.length ≤ 1048576 ∧ (f.stmts[n]).ex.length ≤ 1048576 := by
 have := hf.2.1.2 _ (List.getElem_mem h)
 exact ⟨this.2.1, this.2.2.1, this.1⟩
theorem l3Order_fun (f : Func) (hf : f.ok 1048576) (hd : downB f.stmts.length (kids f.stmts)) : ∀ (k : Nat) (i : Int) (b : List Int), 0 ≤ i → f.stmts.length - i ≤ k → inB f.stmts.length i b → b.length ≤ 1048576 → (ordF f b).length ≤ 1048576 →
  Fun Tryz.prog 201 [.t f.tt, .t (T.ints b)] (.own (T.ints (ordF f b)))
 | k, i, b, hi, hk, hb, hbl, hlen => by
  refine l3Order_fun0 f b hf hd (inB_lower hb hi) hbl hlen fun n hn h => ?_
  have h1 := hb n hn
  have h2 := hd n (by omega) h1.2
  have h3 := ordF_sub hd (inB_lower hb hi) n hn h
  have h4 := stmt_ok hf h
  rw [kids_at h] at h2
  match k, hk with
  | 0, hk => omega
  | k + 1, hk => exact ⟨l3Order_fun f hf hd k (n + 1) _ (by omega) (by omega) h2.1 h4.1 (by omega), l3Order_fun f hf hd k (n + 1) _ (by omega) (by omega) h2.2 h4.2.1 (by omega)⟩
theorem l3Order_fun' (f : Func) (hf : f.ok 1048576) (hd : downB f.stmts.length (kids f.stmts)) {b : List Int} (hb : inB f.stmts.length 0 b) (hbl : b.length ≤ 1048576) (hlen : (ordF f b).length ≤ 1048576) :
  Fun Tryz.prog 201 [.t f.tt, .t (T.ints b)] (.own (T.ints (ordF f b))) := l3Order_fun f hf hd f.stmts.length 0 b (by omega) (by omega) hb hbl hlen
theorem ordO {F : Nat} {ds : List D} {o : List Int} {y : T} {z : List T} (h : z = o.map T.int) (hf : FunO Tryz.prog F ds (T.ints o) y) : FunO Tryz.prog F ds (.list 1 z) y := by rw [h]; exact hf
theorem orderOf_fun0 (f : Func) (b o : List Int) (hf : f.ok 1048576) (hd : downB f.stmts.length (kids f.stmts)) (hb : inB f.stmts.length 0 b) (hbl : b.length ≤ 1048576) (hlen : o.length + (ordF f b).length ≤ 2097152) (ih : ∀ n, n ∈ b → ∀ h : n.toNat < f.stmts.length, ∀ o : List Int, (o.length + (ordF f (f.stmts[n.toNat]).thn).length ≤ 2097152 → FunO Tryz.prog 128 [.t f.tt, .t (T.ints (f.stmts[n.toNat]).thn)] (T.ints o) (T.ints (o ++ ordF f (f.stmts[n.toNat]).thn))) ∧ (o.length + (ordF f (f.stmts[n.toNat]).els).length ≤ 2097152 → FunO Tryz.prog 128 [.t f.tt, .t (T.ints (f.stmts[n.toNat]).els)] (T.ints o) (T.ints (o ++ ordF f (f.stmts[n.toNat]).els)))) : FunO Tryz.prog 128 [.t f.tt, .t (T.ints b)] ((T.ints o)) ((T.ints (o ++ ordF f b))) := by
 have hl : f.stmts.length ≤ 1048576 := hf.2.1.1
 refine FunO.intro tys Tryz.func128 Z Z (N := 39) (ds := [.t f.tt, .t (T.ints b)]) Z (fun w0 G F0 => ?_)
 refine nY Z (W_le (Le.adoptE (u := 2) 2 Z Z) (nY Z (sQ (rG (WO_box Z Z (lt_of Z) Z Z (nZ Z (eZ Z (oN (tN (sQ (sQ (rG (eZ Z (evE ?_))))))))))))))
 refine eZ Z (oN (tN (W_block ?_)))
 refine lK (α := Int × Nat × List T) [3, 9, 10] [3] (fun x => [(11, .t (.int (x.1))), (2, .sl 2 0 (x.2.1))]) (fun x => [(2, .L 1 (x.2.2))]) (fun x => 0 ≤ (x.1) ∧ (x.1) ≤ b.length ∧ (x.2.1) = (x.2.2).length ∧ ∃ done : List Int, (x.2.2) = done.map T.int ∧ o ++ ordF f b = done ++ ordF f (b.drop (x.1).toNat)) (fun x => Int.toNat (b.length - (x.1))) (0, (o.map T.int).length, o.map T.int) ?_ (fun x hx => ?_)
 ·exact ⟨by omega, by omega, rfl, o, rfl, rfl⟩
 obtain ⟨k, m, xs⟩ := x
 obtain ⟨hk0, hk1, hm, done, hx, he⟩ := hx
 dsimp only at hk0 hk1 hm hx he ⊢
 refine nY Z (sQ (rG (eZ Z (oN (tN (sQ ?_))))))
 refine W_cond Z (fun h1 => ?_) (fun h1 => ?_)
 ·
  simp only [HS] at h1
  refine W_skip (tN (sQ (W_block (sQ (rG (WO_idxT tys Z Z (lt_of Z) Z Z Z Z Z Z Z (by omega) _ (getT _ _ (by omega) (by omega)) (eZ Z ?_)))))))
  have hn := hb _ (List.getElem_mem (l := b) (n := k.toNat) (by omega))
  have hs := ordF_step hd hb hk0 h1 (by omega)
  have hq := congrArg List.length he
  rw [hs] at hq
  simp only [List.length_append, List.length_cons] at hq
  have hxl := congrArg List.length hx
  rw [List.length_map] at hxl
  refine eZ Z (oN (tN (sQ (rG (eK 2 Z ?_)))))
  refine WO_buildSlice tys [T.int (b[k.toNat]'(by omega))] Z Z (lt_of Z) Z Z Z Z Z (lt_of Z) (by repeat (first | exact PartsOk.nil' | refine PartsOk.cons' rfl (by repeat (first | exact AbsL.nil' | refine AbsL.v' ?_ | refine AbsL.own' ?_ | refine AbsL.none' ?_)) Z ?_)) (by first | exact List.nodup_nil | exact nodup1 _ | decide | exact nodupB_sound Z) Z (by decide) ?_
  refine nZ Z (WO_append tys Z Z (lt_of Z) Z Z Z Z Z (.own Z (by first | omega | (simp only [List.length_append]; omega))) Z (.own Z (by first | decide | omega)) (by decide) (by simp only [List.length_take, List.length_cons, List.length_nil]; omega) (by decide) Z ?_)
  refine nZ Z (eZ Z (kZ [2,3,8,9,10,11,12,13,14,15,16,17,18] Z (oN (tN (sQ (W_regionDm 8 mixed Z (by kernel_rfl) (by kernel_rfl) (evQ ?_)))))))
  refine evQ ?_
  refine evQ ?_
  refine evQ ?_
  refine QL_idxT tys Z Z (lt_of Z) Z Z Z Z Z Z Z (by omega) _ (getT _ _ (by omega) (by omega)) (evQ ?_)
  refine QL_norm Z (evQ ?_)
  refine evQ ?_
  refine QL_nil (WO_le (Le.freeze (u := 19) Z) ?_)
  skip
  refine nZ Z (WO_le (Le.gather (u := 26) (id := 2) Z Z (by first | (simp; done) | (simp; omega) | omega)) ?_)
  refine nZ Z (WO_callO (u := 26) (az := [.tmp 19, .tmp 25]) Z Z (lt_of Z) Z Z Z Z (.inl ⟨rfl, rfl⟩) (ordO (o := done ++ [b[k.toNat]'(by omega)]) (by subst hm hx; (repeat rw [List.take_of_length_le (by simp)]); simp) ((ih _ (List.getElem_mem _) _ _).1 (by simp only [List.length_append, List.length_cons, List.length_nil]; omega))) ?_)
  refine WO_le (Le.adoptE (u := 27) 2 Z (by first | exact lenN | exact Z)) ?_
  refine nZ Z (eZ Z (oN (tN (W_regionDm 8 mixed Z (by kernel_rfl) (by kernel_rfl) (evQ ?_)))))
  refine evQ ?_
  refine evQ ?_
  refine evQ ?_
  refine QL_norm Z (QL_idxT tys Z Z (lt_of Z) Z Z Z Z Z Z Z (by omega) _ (getT _ _ (by omega) (by omega)) (evQ ?_))
  refine evQ ?_
  refine evQ ?_
  refine QL_nil (WO_le (Le.freeze (u := 28) Z) ?_)
  skip
  refine nZ Z (WO_le (Le.gather (u := 35) (id := 2) Z Z (by first | (simp; done) | (simp; omega) | omega)) ?_)
  refine nZ Z (WO_callO (u := 35) (az := [.tmp 28, .tmp 34]) Z Z (lt_of Z) Z Z Z Z (.inl ⟨rfl, rfl⟩) (ordO (o := done ++ [b[k.toNat]'(by omega)] ++ ordF f (f.stmts[(b[k.toNat]'(by omega)).toNat]'(by omega)).thn) (by rw [List.take_of_length_le (by simp)]) ((ih _ (List.getElem_mem _) _ _).2 (by simp only [List.length_append, List.length_cons, List.length_nil]; omega))) ?_)
  refine WO_le (Le.adoptE (u := 36) 2 Z (by first | exact lenN | exact Z)) ?_
  refine nZ Z (eZ Z (oN (bN (tN (rG (evI ?_))))))
  refine eZ Z (oN ?_)
  refine lQ (_, _, _) ?_ ?_
  ·dsimp only
   exact ⟨by omega, by omega, by simp, done ++ [b[k.toNat]'(by omega)] ++ ordF f (f.stmts[(b[k.toNat]'(by omega)).toNat]'(by omega)).thn ++ ordF f (f.stmts[(b[k.toNat]'(by omega)).toNat]'(by omega)).els, rfl, by rw [he, hs]; simp⟩
  ·(show Int.toNat _ < Int.toNat _); omega
 simp only [HS] at h1
 refine W_exit (tE (loopQ_e (inBlk_y (tN (sQ (rG (eK 2 Z (oN (tN (W_le (Le.gather (u := 6) (id := 2) Z Z (by omega)) (rT (eR ?_))))))))))))
 ·(rw [he, drop_end h1, ordF_nil, List.append_nil, hm, List.take_length, hx]; rfl)
theorem orderOf_fun (f : Func) (hf : f.ok 1048576) (hd : downB f.stmts.length (kids f.stmts)) : ∀ (k : Nat) (i : Int) (b o : List Int), 0 ≤ i → f.stmts.length - i ≤ k → inB f.stmts.length i b → b.length ≤ 1048576 → o.length + (ordF f b).length ≤ 2097152 →
  FunO Tryz.prog 128 [.t f.tt, .t (T.ints b)] (T.ints o) (T.ints (o ++ ordF f b))
 | k, i, b, o, hi, hk, hb, hbl, hlen => by
  refine orderOf_fun0 f b o hf hd (inB_lower hb hi) hbl hlen fun n hn h o => ?_
  have h1 := hb n hn
  have h2 := hd n (by omega) h1.2
  have h4 := stmt_ok hf h
  rw [kids_at h] at h2
  match k, hk with
  | 0, hk => omega
  | k + 1, hk => exact ⟨orderOf_fun f hf hd k (n + 1) _ o (by omega) (by omega) h2.1 h4.1, orderOf_fun f hf hd k (n + 1) _ o (by omega) (by omega) h2.2 h4.2.1⟩
theorem orderOf_fun' (f : Func) (hf : f.ok 1048576) (hd : downB f.stmts.length (kids f.stmts)) {b : List Int} (hb : inB f.stmts.length 0 b) (hbl : b.length ≤ 1048576) (hlen : (ordF f b).length ≤ 1048576) :
  FunO Tryz.prog 128 [.t f.tt, .t (T.ints b)] (.list 1 []) (T.ints (ordF f b)) := orderOf_fun f hf hd f.stmts.length 0 b [] (by omega) (by omega) hb hbl (by simp; omega)
open Go.Eng
theorem blkO_len (l : List Stmt) (body : List Int) : (blkO l body).length = 1 + 2 * l.length := by rw [blkO, List.length_cons, blkGo_len]; omega
theorem blkGo_take (l : List Stmt) : ∀ (n : Nat) (h : n < l.length) (k : Int), (blkGo l k).take (2 * (n + 1)) = (blkGo l k).take (2 * n) ++ [(k + n, (l[n]).thn), (k + n, (l[n]).els)] := by
 induction l with
 | nil => intro n h; simp at h
 | cons s l ih =>
  intro n h k
  cases n with
  | zero => simp [blkGo]
  | succ n =>
   have := ih n (by simpa using h) (k + 1)
   rw [blkGo, show 2 * (n + 1 + 1) = 2 * (n + 1) + 1 + 1 from by omega, List.take_succ_cons, List.take_succ_cons, this, show 2 * (n + 1) = 2 * n + 1 + 1 from by omega, List.take_succ_cons, List.take_succ_cons]
   simp
   omega
theorem blkO_take {l : List Stmt} {body : List Int} {k : Int} (h0 : 0 ≤ k) (h1 : k < l.length) : (blkO l body).take (1 + 2 * (k + 1).toNat) = (blkO l body).take (1 + 2 * k.toNat) ++ [(k, (l[k.toNat]'(by omega)).thn), (k, (l[k.toNat]'(by omega)).els)] := by
 have := blkGo_take l k.toNat (by omega) 0
 rw [blkO, show (k + 1).toNat = k.toNat + 1 from by omega, show 1 + 2 * (k.toNat + 1) = 2 * (k.toNat + 1) + 1 from by omega, List.take_succ_cons, this, show 1 + 2 * k.toNat = 2 * k.toNat + 1 from by omega, List.take_succ_cons]
 have e : (0 : Int) + k.toNat = k := by omega
 rw [e]; rfl
theorem blkO_mem {f : Func} (hf : f.ok 1048576) {p : Int × List Int} (h : p ∈ blkO f.stmts f.body) : p.2.length ≤ 1048576 := by
 rw [blkO] at h
 rcases List.mem_cons.1 h with rfl | h
 ·exact hf.1
 ·obtain ⟨j, hj, h⟩ := blkGo_mem.1 h
  have := stmt_ok hf hj
  rcases h with rfl | rfl
  ·exact this.1
  ·exact this.2.1
def cnts (N : Nat) (l : List Int) : List Int := (upto N).map (cntF l)
theorem cnts_len (N : Nat) (l : List Int) : (cnts N l).length = N := by rw [cnts, List.length_map, upto_len]
theorem cnts_at {N : Nat} {l : List Int} {n : Int} (h0 : 0 ≤ n) (h1 : n < N) : (cnts N l)[n.toNat]'(by rw [cnts_len]; omega) = cntF l n := by
 unfold cnts
 rw [List.getElem_map, upto_at (by rw [upto_len]; omega), show ((n.toNat : Nat) : Int) = n from by omega]
theorem cnts_set {N : Nat} {l : List Int} {n : Int} (h0 : 0 ≤ n) (h1 : n < N) : (cnts N l).set n.toNat (cntF l n + 1) = cnts N (l ++ [n]) := by
 refine List.ext_getElem (by rw [List.length_set, cnts_len, cnts_len]) fun i h2 h3 => ?_
 rw [cnts_len] at h3
 have e : ∀ l, (cnts N l)[i]? = some (cntF l i) := fun l => by
  rw [List.getElem?_eq_getElem (by rw [cnts_len]; omega)]
  have := cnts_at (l := l) (n := (i : Int)) (by omega) (by omega : (i : Int) < N)
  rw [← this]; rfl
 rw [List.getElem_set]
 have e1 := e l
 have e2 := e (l ++ [n])
 rw [List.getElem?_eq_getElem (by rw [cnts_len]; omega), Option.some_inj] at e1 e2
 rw [e1, e2]
 unfold cntF
 rw [List.count_append]
 split
 ·rename_i hi
  rw [show n = (i : Int) from by omega]; simp
 ·rename_i hi
  rw [List.count_singleton]
  have : (n == (i : Int)) = false := by simp; omega
  simp [this]
theorem cntsT {N : Nat} {l : List Int} {n : Int} {ys : List T} (h : ys = (cnts N l).map T.int) (h0 : 0 ≤ n) (h1 : n < N) : ys.set n.toNat (T.int (cntF l n + 1)) = (cnts N (l ++ [n])).map T.int := by
 rw [h, ← List.map_set, cnts_set h0 h1]
theorem argI {F : Nat} {ds : List D} {r : D} {l : List Int} {xs : List T} (h : xs = l.map T.int) (hf : Fun Tryz.prog F (.t (T.ints l) :: ds) r) : Fun Tryz.prog F (.t (.list 1 xs) :: ds) r := by rw [h]; exact hf
theorem cnts_nil (N : Nat) : cnts N [] = List.replicate N 0 := by
 unfold cnts cntF
 have : ∀ l : List Int, l.map (fun x => ((([] : List Int).count x : Nat) : Int)) = List.replicate l.length 0 := by
  intro l
  induction l with
  | nil => rfl
  | cons x l ih => rw [List.map_cons, ih]; rfl
 rw [this, upto_len]
theorem cnts_once {N : Nat} {l : List Int} : allIn (cnts N l) 1 1 = onceB N l := by
 unfold allIn cnts onceB
 rw [List.all_map]
 congr 1
 funext x
 simp only [Function.comp]
 exact decide_eq_decide.2 (by omega)
theorem cntF_le (l : List Int) (n : Int) : 0 ≤ cntF l n ∧ cntF l n ≤ l.length := by
 unfold cntF; have := List.count_le_length (l := l) (a := n); omega
theorem ownAt {N : Nat} {l : List Int} {n : Int} (h0 : 0 ≤ n) (h1 : n < N) : ((cnts N l).map T.int)[0 + n.toNat]? = some (T.int (cntF l n)) := by
 rw [Nat.zero_add, List.getElem?_map, List.getElem?_eq_getElem (by rw [cnts_len]; omega), cnts_at h0 h1]; rfl
def goneB (B : List (Int × List Int)) (i : Nat) : List Int := ((B.take i).map (·.2)).flatten
theorem goneB_at {B : List (Int × List Int)} {i : Int} (h0 : 0 ≤ i) (h1 : i < B.length) : goneB B (i + 1).toNat = goneB B i.toNat ++ (B[i.toNat]'(by omega)).2 := by
 unfold goneB; rw [take_at h0 h1, List.map_append, List.flatten_append]; simp
theorem goneB_len {B : List (Int × List Int)} (hB : ∀ p, p ∈ B → p.2.length ≤ 1048576) : ∀ i : Nat, i ≤ B.length → (goneB B i).length ≤ i * 1048576
 | 0, _ => by simp [goneB]
 | i + 1, h => by
  have h1 := goneB_len hB i (by omega)
  have h2 := goneB_at (B := B) (i := (i : Int)) (by omega) (by omega)
  have h3 := hB _ (List.getElem_mem (l := B) (n := (i : Int).toNat) (by omega))
  have h4 := congrArg List.length h2
  rw [List.length_append] at h4
  rw [show ((i : Int) + 1).toNat = i + 1 from by omega] at h4
  rw [show (goneB B (i : Int).toNat).length = (goneB B i).length from by rw [show (i : Int).toNat = i from by omega]] at h4
  omega
theorem all_no {α : Type} {p : α → Bool} {l : List α} {k : Int} (h0 : 0 ≤ k) (h1 : k < l.length) (h : p (l[k.toNat]'(by omega)) = false) : l.all p = false :=
 List.all_eq_false.2 ⟨_, List.getElem_mem _, by simpa using h⟩
theorem all_tk {α : Type} {p : α → Bool} {l : List α} {k : Int} (h0 : 0 ≤ k) (h1 : k < l.length) (h : (l.take k.toNat).all p = true) (h2 : p (l[k.toNat]'(by omega)) = true) : (l.take (k + 1).toNat).all p = true := by
 rw [take_at h0 h1, List.all_append, h]; simpa using h2
theorem all_fl {α : Type} {p : α → Bool} {l : List α} {k : Int} (h1 : (l.length : Int) ≤ k) (h : (l.take k.toNat).all p = true) : l.all p = true := by
 rwa [take_end h1] at h
theorem rise_mem {l : List Int} {lo hi : Int} (h : riseB l lo hi = true) {n : Int} (hn : n ∈ l) : lo ≤ n ∧ n ≤ hi := (of_decide_eq_true h).1 n hn
theorem l3Blocks_fun (f : Func) (hf : f.ok 1048576) (hN : f.stmts.length ≤ 16) : Fun Tryz.prog 200 [.t f.tt] (tupD [.t (.bool (blocksB f.stmts f.body))]) := by
 have hbl := blkO_len f.stmts f.body
 refine Fun.begin tys Tryz.func200 Z Z (N := 77) [(0, .t f.tt)] Z Z (fun w0 G F0 => ?_)
 refine sQ (rG (WO_box Z Z (lt_of Z) Z Z (nZ Z (eZ Z (oN (tN (sQ (rG (eK 2 Z (evE ?_))))))))))
 refine WO_make tys (.v (.int .i64 0)) _ Z Z (lt_of Z) Z Z Z Z Z (by repeat (first | exact AbsL.nil' | refine AbsL.v' ?_ | refine AbsL.none' ?_)) Z (by omega) (by decide) ?_
 refine nZ Z (eZ Z (oN (tN (sQ (kY [1,2,3] Z (rG (eK 2 Z (nZ Z ?_))))))))
 refine WO_tell (u := 17) 117 Z (fun v17 => ?_)
 refine nZ Z ?_
 refine WO_buildSlice tys [.v v17] Z Z (lt_of Z) Z Z Z Z Z (lt_of Z) (by repeat (first | exact PartsOk.nil' | refine PartsOk.cons' rfl (by repeat (first | exact AbsL.nil' | refine AbsL.v' ?_ | refine AbsL.own' ?_ | refine AbsL.none' ?_)) Z ?_)) (by first | exact List.nodup_nil | exact nodup1 _ | decide | exact nodupB_sound Z) Z (by decide) ?_
 refine nZ Z (eZ Z (oN (tN (sQ (rG ?_)))))
 refine WO_buildSlice tys [T.int (-1)] Z Z (lt_of Z) Z Z Z Z Z (lt_of Z) (by repeat (first | exact PartsOk.nil' | refine PartsOk.cons' rfl (by repeat (first | exact AbsL.nil' | refine AbsL.v' ?_ | refine AbsL.own' ?_ | refine AbsL.none' ?_)) Z ?_)) (by first | exact List.nodup_nil | exact nodup1 _ | decide | exact nodupB_sound Z) Z (by decide) ?_
 refine nZ Z (eZ Z (oN (tN (sQ (sQ (rG (eK 2 Z (evE ?_))))))))
 refine kZ [1,2,3,4,5,21,22] Z (eZ Z (oN (tN (W_block ?_))))
 refine lK (α := Int × Nat × List T × Nat × List T × List Value × List T) [1, 3, 21, 22] [1, 15] (fun x => [(23, .t (.int (x.1))), (4, .sl 18 0 (x.2.1)), (5, .sl 19 0 (x.2.2.2.1))]) (fun x => [(18, .L 1 (x.2.2.1)), (19, .L 1 (x.2.2.2.2.1)), (117, .ro (x.2.2.2.2.2.1) (x.2.2.2.2.2.2))]) (fun x => 0 ≤ (x.1) ∧ (x.1) ≤ f.stmts.length ∧ (x.2.1) = (x.2.2.1).length ∧ (x.2.2.2.1) = (x.2.2.2.2.1).length ∧ (x.2.2.1) = (x.2.2.2.2.2.1).map T.v ∧ (x.2.2.2.2.2.1).length = 1 + 2 * (x.1).toNat ∧ (x.2.2.2.2.2.2) = ((blkO f.stmts f.body).take (1 + 2 * (x.1).toNat)).map (fun p => T.ints p.2) ∧ (x.2.2.2.2.1) = ((blkO f.stmts f.body).take (1 + 2 * (x.1).toNat)).map (fun p => T.int p.1)) (fun x => Int.toNat (f.stmts.length - (x.1))) (0, 1, [.v v17], 1, [T.int (-1)], [v17], [T.ints f.body]) ?_ (fun x hx => ?_)
 ·exact ⟨by omega, by omega, rfl, rfl, rfl, rfl, rfl, rfl⟩
 obtain ⟨k, m4, xs4, m5, xs5, us, ts⟩ := x
 obtain ⟨hk0, hk1, hm4, hm5, hx4, hul, hts, hx5⟩ := hx
 dsimp only at hk0 hk1 hm4 hm5 hx4 hul hts hx5 ⊢
 refine nY Z (sQ (rG (eZ Z (oN (tN (sQ ?_))))))
 refine W_cond Z (fun h1 => ?_) (fun h1 => ?_)
 ·
  simp only [HS] at h1
  refine W_skip (tN (sQ (W_block (sQ (rG (eZ Z (WO_idxT tys Z Z (lt_of Z) Z Z Z Z Z Z Z (by omega) _ (getT _ _ (by omega) (by omega)) (eZ Z ?_))))))))
  try refine WO_le (Le.freeze (u := 27) rfl) ?_
  refine nZ Z (WO_alloc tys Z Z (lt_of Z) Z Z Z (nZ Z (eZ Z (sT Z (nZ Z (oN (tN (sQ (kY [1,3,4,5,6,7,21,22,23,24,25,26,27] Z (rG (eK 5 Z (nZ Z ?_))))))))))))
  refine WO_tell (u := 30) 130 Z (fun v30 => ?_)
  refine nZ Z ?_
  refine WO_tell (u := 32) 132 Z (fun v32 => ?_)
  refine nZ Z (WO_le (Le.roJoin 117 130 Z Z) (nZ Z (WO_le (Le.roJoin 117 132 Z Z) (nZ Z ?_))))
  refine WO_buildSlice tys [.v v30, .v v32] Z Z (lt_of Z) Z Z Z Z Z (lt_of Z) (by repeat (first | exact PartsOk.nil' | refine PartsOk.cons' rfl (by repeat (first | exact AbsL.nil' | refine AbsL.v' ?_ | refine AbsL.own' ?_ | refine AbsL.none' ?_)) Z ?_)) (by first | exact List.nodup_nil | exact nodup1 _ | decide | exact nodupB_sound Z) Z (by decide) ?_
  refine nZ Z (WO_append tys Z Z (lt_of Z) Z Z Z Z Z (.own Z (by first | omega | (simp only [List.length_append]; omega))) Z (.own Z (by first | decide | omega)) (by decide) (by have q := congrArg List.length hx4; simp only [List.length_map] at q; simp only [List.length_take, List.length_cons, List.length_nil]; omega) (by decide) Z ?_)
  refine nZ Z (eZ Z (oN (tN (kY [1,3,4,5,6,7,21,22,23,24,25,26,27,28,29,30,31,32,33,34] Z (rG (eK 3 Z ?_))))))
  refine WO_buildSlice tys [T.int k, T.int k] Z Z (lt_of Z) Z Z Z Z Z (lt_of Z) (by repeat (first | exact PartsOk.nil' | refine PartsOk.cons' rfl (by repeat (first | exact AbsL.nil' | refine AbsL.v' ?_ | refine AbsL.own' ?_ | refine AbsL.none' ?_)) Z ?_)) (by first | exact List.nodup_nil | exact nodup1 _ | decide | exact nodupB_sound Z) Z (by decide) ?_
  refine nZ Z (WO_append tys Z Z (lt_of Z) Z Z Z Z Z (.own Z (by first | omega | (simp only [List.length_append]; omega))) Z (.own Z (by first | decide | omega)) (by decide) (by have q := congrArg List.length hx5; simp only [List.length_map, List.length_take] at q; simp only [List.length_take, List.length_cons, List.length_nil]; omega) (by decide) Z ?_)
  refine nZ Z (eZ Z (oN (bN (tN (rG (evI ?_))))))
  refine eZ Z (oN ?_)
  refine lQ (_, _, _, _, _, _, _) ?_ ?_
  ·dsimp only
   refine ⟨by omega, by omega, by simp, by simp, ?_, ?_, ?_, ?_⟩
   ·subst hm4 hx4; rw [List.take_of_length_le (by simp)]; simp
   ·simp; omega
   ·rw [hts, blkO_take hk0 (by omega), List.map_append, List.append_assoc]; rfl
   ·subst hm5; rw [List.take_length, hx5, blkO_take hk0 (by omega), List.map_append]; rfl
  ·(show Int.toNat _ < Int.toNat _); omega
 simp only [HS] at h1
 refine W_exit (tE (loopQ_e (inBlk_y (tN (sQ (sQ (rG (eZ Z ?_))))))))
 have hk : k = f.stmts.length := by omega
 have hx6 : xs5 = (blkO f.stmts f.body).map (fun p => T.int p.1) := by rw [hx5, List.take_of_length_le (by omega)]
 refine nZ rfl (WO_le (Le.gather (u := 41) (id := 18) rfl rfl (by omega)) (nZ rfl (WO_le (Le.freeze (u := 41) rfl) (nZ rfl (WO_le (Le.roReadE (u := 41) (id := 117) (ts' := (blkO f.stmts f.body).map (fun p => T.ints p.2)) rfl rfl (by rw [hm4, List.take_length, hx4]) (by rw [hts, List.take_of_length_le (by omega)]) (by rw [hts]; intro t ht; obtain ⟨p, _, rfl⟩ := List.mem_map.1 ht; rfl)) ?_)))))
 refine nZ Z (evE ?_)
 refine eZ Z (oN (tN (W_block ?_)))
 refine lK (α := Int × List T) [1, 3, 5, 41, 42] [1, 19] (fun x => [(43, .t (.int (x.1)))]) (fun x => [(15, .L 1 (x.2))]) (fun x => 0 ≤ (x.1) ∧ (x.1) ≤ (blkO f.stmts f.body).length ∧ (x.2) = (cnts f.stmts.length (goneB (blkO f.stmts f.body) (x.1).toNat)).map T.int ∧ ((blkO f.stmts f.body).take (x.1).toNat).all (blkB f.stmts.length) = true) (fun x => Int.toNat ((blkO f.stmts f.body).length - (x.1))) (0, List.replicate f.stmts.length (T.int 0)) ?_ (fun x hx => ?_)
 ·exact ⟨by omega, by omega, by rw [show goneB (blkO f.stmts f.body) (0 : Int).toNat = [] from rfl, cnts_nil, List.map_replicate], by simp⟩
 obtain ⟨i, xs⟩ := x
 obtain ⟨hi0, hi1, hxs, hall⟩ := hx
 dsimp only at hi0 hi1 hxs hall ⊢
 refine nY Z (sQ (rG (eZ Z (oN (tN (sQ ?_))))))
 refine W_cond Z (fun h2 => ?_) (fun h2 => ?_)
 ·
  simp only [HS] at h2
  refine W_skip (tN (sQ (W_block (sQ (rG (eZ Z (WO_idxT tys Z Z (lt_of Z) Z Z Z Z Z Z Z (by omega) _ (getT _ _ (by omega) (by omega)) (eK 3 Z (oN (tN (sQ (sQ (rG (eK 3 Z (kZ [1,3,5,8,9,41,42,43,44,45,46,47,48,49,50] Z ?_)))))))))))))))
  refine evE ?_
  refine evI ?_
  refine callB ?_
  refine ⟨_, l1Rising_fun _ _ _ (by have := blkO_mem hf (List.getElem_mem (l := blkO f.stmts f.body) (n := i.toNat) (by omega)); omega), rfl, ?_⟩
  refine eZ Z (oN (tN ?_))
  refine W_cond Z (fun h3 => ?_) (fun h3 => ?_)
  ·
   simp only [HS] at h3
   refine sQ (rG (eZ Z (oN (tN (rT (tR (bR (tR (loopQ_r (bR (tR (eR ?_))))))))))))
   ·first
    | exact retB (by rw [blocksB, all_no hi0 h2 (by unfold blkB; rw [h3]; rfl)]; rfl)
  simp only [HS] at h3
  refine W_skip (tN (sQ (rG (eZ Z (evE ?_)))))
  refine eZ Z (oN (tN (W_block ?_)))
  refine lK (α := Int × List T) [1, 3, 5, 8, 41, 42, 43, 55, 56] [1, 19] (fun x => [(57, .t (.int (x.1)))]) (fun x => [(15, .L 1 (x.2))]) (fun x => 0 ≤ (x.1) ∧ (x.1) ≤ ((blkO f.stmts f.body)[i.toNat]'(by omega)).2.length ∧ (x.2) = (cnts f.stmts.length (goneB (blkO f.stmts f.body) i.toNat ++ ((blkO f.stmts f.body)[i.toNat]'(by omega)).2.take (x.1).toNat)).map T.int ∧ (((blkO f.stmts f.body)[i.toNat]'(by omega)).2.take (x.1).toNat).all (fun n => decide (((blkO f.stmts f.body)[i.toNat]'(by omega)).1 < n)) = true) (fun x => Int.toNat (((blkO f.stmts f.body)[i.toNat]'(by omega)).2.length - (x.1))) (0, xs) ?_ (fun x hx => ?_)
  ·exact ⟨by omega, by omega, by rw [hxs]; simp, by simp⟩
  obtain ⟨j, ys⟩ := x
  obtain ⟨hj0, hj1, hys, halj⟩ := hx
  dsimp only at hj0 hj1 hys halj ⊢
  refine nY Z (sQ (rG (eZ Z (oN (tN (sQ ?_))))))
  refine W_cond Z (fun h4 => ?_) (fun h4 => ?_)
  ·
   simp only [HS] at h4
   refine W_skip (tN (sQ (W_block (sQ (rG (WO_idxT tys Z Z (lt_of Z) Z Z Z Z Z Z Z (by omega) _ (getT _ _ (by omega) (by omega)) (eZ Z ?_)))))))
   have hn0 := rise_mem h3 (List.getElem_mem (l := ((blkO f.stmts f.body)[i.toNat]'(by omega)).2) (n := j.toNat) (by omega))
   have hn : 0 ≤ ((blkO f.stmts f.body)[i.toNat]'(by omega)).2[j.toNat]'(by omega) ∧ ((blkO f.stmts f.body)[i.toNat]'(by omega)).2[j.toNat]'(by omega) < f.stmts.length := ⟨hn0.1, by omega⟩
   have hx7 : m5 = (blkO f.stmts f.body).length := by rw [hm5, hx6, List.length_map]
   have hx8 : xs5.length = m5 := hm5.symm
   have hyl : ys.length = f.stmts.length := by rw [hys, List.length_map, cnts_len]
   have hc := cntF_le (goneB (blkO f.stmts f.body) i.toNat ++ ((blkO f.stmts f.body)[i.toNat]'(by omega)).2.take j.toNat) (((blkO f.stmts f.body)[i.toNat]'(by omega)).2[j.toNat]'(by omega))
   have hg := goneB_len (B := blkO f.stmts f.body) (fun p hp => blkO_mem hf hp) i.toNat (by omega)
   have hg2 := blkO_mem hf (List.getElem_mem (l := blkO f.stmts f.body) (n := i.toNat) (by omega))
   rw [List.length_append, List.length_take] at hc
   refine eZ Z (oN (tN (sQ (sQ (rG (eK 3 Z (WO_idxS tys Z Z (lt_of Z) Z Z Z Z Z Z Z Z (by omega) (by omega) (WO_loadL tys Z Z (lt_of Z) Z Z Z Z (by rw [hx6]; exact getT0 (fun p : Int × List Int => T.int p.1) _ (by omega) (by omega)) Z ?_))))))))
   refine kZ [1,3,5,8,11,41,42,43,55,56,57,58,59,60,61,62,63,64,65] Z (eZ Z (oN (tN ?_)))
   refine W_cond Z (fun h5 => ?_) (fun h5 => ?_)
   ·
    simp only [HS] at h5
    refine sQ (rG (eZ Z (oN (tN (rT (tR (bR (tR (loopQ_r (bR (bR (tR (loopQ_r (bR (tR ?_)))))))))))))))
    refine eR ?_
    ·first
     | exact retB (by rw [blocksB, all_no hi0 h2 (by unfold blkB; rw [h3, all_no hj0 h4 (by simp; omega)]; rfl)]; rfl)
   simp only [HS] at h5
   refine W_skip (tN (rG (eK 2 Z (WO_idxS tys Z Z (lt_of Z) Z Z Z Z Z Z Z Z (by omega) (by omega) (WO_loadL tys Z Z (lt_of Z) Z Z Z Z (by rw [hys]; exact ownAt hn.1 hn.2) Z ?_)))))
   refine evI ?_
   refine WO_idxS tys Z Z (lt_of Z) Z Z Z Z Z Z Z Z (by omega) (by omega) ?_
   refine WO_storeE tys (T.int (cntF (goneB (blkO f.stmts f.body) i.toNat ++ ((blkO f.stmts f.body)[i.toNat]'(by omega)).2.take j.toNat) (((blkO f.stmts f.body)[i.toNat]'(by omega)).2[j.toNat]'(by omega)) + 1)) Z Z Z Z Z Z (by first | exact Nat.zero_add _ | rfl) (by omega) Z (by repeat (first | exact AbsL.nil' | refine AbsL.v' ?_ | refine AbsL.own' ?_)) Z Z Z ?_
   refine nZ Z (oN (bN (tN (kY [1,3,5,8,11,41,42,43,55,56,57,58,59,60,61,62,63,64,65,66,67,68,69,70,71,72] Z (rG (evI ?_))))))
   refine eZ Z (oN ?_)
   refine lQ (_, _) ?_ ?_
   ·dsimp only
    refine ⟨by omega, by omega, ?_, ?_⟩
    ·exact (cntsT hys hn.1 hn.2).trans (by rw [take_at hj0 (by omega), List.append_assoc])
    ·exact all_tk hj0 (by omega) halj (by simpa using h5)
   ·(show Int.toNat _ < Int.toNat _); omega
  simp only [HS] at h4
  refine W_exit (tE (loopQ_e (inBlk_y (bN (tN (rG (evI ?_)))))))
  refine eZ Z (oN ?_)
  refine lQ (_, _) ?_ ?_
  ·dsimp only
   refine ⟨by omega, by omega, ?_, ?_⟩
   ·rw [hys, goneB_at hi0 (by omega), take_end (by omega)]
   ·exact all_tk hi0 (by omega) hall (by unfold blkB; rw [h3, all_fl (by omega) halj]; rfl)
  ·(show Int.toNat _ < Int.toNat _); omega
 simp only [HS] at h2
 refine W_exit (tE (loopQ_e (inBlk_y (tN (sQ (rG (eZ Z ?_)))))))
 have hxl : xs.length = f.stmts.length := by rw [hxs, List.length_map, cnts_len]
 refine callB ?_
 refine ⟨_, argI hxs (l1All_fun _ _ _ (by rw [cnts_len]; omega)), rfl, ?_⟩
 refine eZ Z (oN (tN (rT (eR ?_))))
 ·first
  | exact retB (by rw [blocksB, all_fl (by omega) hall, cnts_once, goneB, take_end (by omega)]; rfl)
open Go.Eng
def okNum (f : Func) : Bool := decide (0 ≤ f.params ∧ f.params ≤ 2) && (decide (f.params ≤ f.vars ∧ f.vars ≤ 6) && decide ((f.stmts.length : Int) ≤ 16))
def siteB (f : Func) : Bool := decide (((sitesF f.stmts 0).length : Int) ≤ 4)
def kindAt (f : Func) (n : Int) : Int := match f.stmts[n.toNat]? with
 | some s => s.kind
 | none => 0
theorem kindAt_at {f : Func} {n : Int} (h : n.toNat < f.stmts.length) : kindAt f n = (f.stmts[n.toNat]).kind := by
 unfold kindAt; rw [List.getElem?_eq_getElem h]
def noDef (f : Func) (b : List Int) : Bool := (ordF f b).all fun n => decide (¬ kindAt f n = 3)
def whileOk (f : Func) (s : Stmt) : Bool := if s.kind = 8 then noDef f s.thn else true
def whileB (f : Func) : Bool := f.stmts.all (whileOk f)
def shapeF (f : Func) : Bool := okNum f && (siteB f && (shapeB f.stmts f.body && whileB f))
theorem isShaped1_fun (n i : Int) (f : Func) (hN : f.stmts.length ≤ 1048576) (hi : 0 ≤ i ∧ i ≤ 1048576) : Fun Tryz.prog 210 [.t (.int n), .rp (.agg [T.int i]) 0, .rp f.tt 0] (tupD [.t (.bool (!decide (i + 1 ≤ n ∧ n ≤ f.stmts.length - 1)))]) := by
 refine Fun.begin tys Tryz.func210 Z Z (N := 14) [(0, .t (.int n)), (1, .rp (.agg [T.int i]) 0), (2, .rp f.tt 0)] Z Z (fun w0 G F0 => ?_)
 refine sQ (rG (eZ Z (oN (tN (sQ (rG (eK 2 Z (evI ?_))))))))
 refine eK 2 Z (evE ?_)
 refine evI ?_
 refine callB ?_
 refine ⟨_, within_fun _ _ _, rfl, ?_⟩
 refine kZ [4,12] Z (eK 2 Z (oN (tN (rT (eR ?_)))))
 ·rfl
theorem isShaped2_fun (n : Int) (f : Func) (hN : f.stmts.length ≤ 1048576) : Fun Tryz.prog 211 [.t (.int n), .rp f.tt 0] (tupD [.t (.bool (!decide (0 ≤ n ∧ n ≤ f.stmts.length - 1)))]) := by
 refine Fun.begin tys Tryz.func211 Z Z (N := 11) [(0, .t (.int n)), (1, .rp f.tt 0)] Z Z (fun w0 G F0 => ?_)
 refine sQ (rG (eZ Z (oN (tN (sQ (rG (eK 3 Z (evE ?_))))))))
 refine evI ?_
 refine callB ?_
 refine ⟨_, within_fun _ _ _, rfl, ?_⟩
 refine eK 2 Z (kZ [3] Z (oN (tN (rT (eR ?_)))))
 ·rfl
theorem any_inB {N i : Int} {b : List Int} : (b.any fun n => !decide (i ≤ n ∧ n ≤ N - 1)) = !inBB N i b := by
 unfold inBB
 rw [List.not_all_eq_any_not]
 congr 1
 funext n
 congr 1
 exact decide_eq_decide.2 (by omega)
def blkZ (s : Stmt) (z : Int) : List Int := if z = 0 then s.thn else s.els
theorem pick2 {s : Stmt} {z : Int} (h0 : 0 ≤ z) (h1 : z < 2) : [D.t (.list 1 (s.thn.map T.int)), D.t (.list 1 (s.els.map T.int))][z.toNat]? = some (.t (T.ints (blkZ s z))) := by
 unfold blkZ
 rcases (by omega : z = 0 ∨ z = 1) with rfl | rfl <;> rfl
def usesZ (s : Stmt) (z : Int) : Int := if z = 0 then 0 else if z = 1 then s.thn.length else s.thn.length + s.els.length
theorem usesF_at {l : List Stmt} {k : Int} (h0 : 0 ≤ k) (h1 : k < l.length) : usesF (l.drop k.toNat) = (l[k.toNat]'(by omega)).thn.length + (l[k.toNat]'(by omega)).els.length + usesF (l.drop (k + 1).toNat) := by
 rw [drop_at h0 h1, usesF]
def downTo (f : Func) (k : Int) : Prop := ∀ m : Int, 0 ≤ m → m < k → inB f.stmts.length (m + 1) (kids f.stmts m).1 ∧ inB f.stmts.length (m + 1) (kids f.stmts m).2
theorem downTo_step {f : Func} {k : Int} (h0 : 0 ≤ k) (h1 : k < f.stmts.length) (h : downTo f k) (h2 : inBB f.stmts.length (k + 1) (f.stmts[k.toNat]'(by omega)).thn = true) (h3 : inBB f.stmts.length (k + 1) (f.stmts[k.toNat]'(by omega)).els = true) : downTo f (k + 1) := by
 intro m m0 m1
 by_cases hm : m < k
 ·exact h m m0 hm
 ·obtain rfl : m = k := by omega
  rw [kids_at (by omega)]
  exact ⟨inBB_iff.1 h2, inBB_iff.1 h3⟩
theorem down_no {f : Func} {k z : Int} (h0 : 0 ≤ k) (h1 : k < f.stmts.length) (hz0 : 0 ≤ z) (hz1 : z < 2) (h : ¬ inBB f.stmts.length (k + 1) (blkZ (f.stmts[k.toNat]'(by omega)) z) = true) : shapeB f.stmts f.body = false := by
 rw [Bool.eq_false_iff]
 intro hs
 have hd := (shapeB_iff.1 hs).1 k h0 h1
 rw [kids_at (by omega)] at hd
 apply h
 unfold blkZ
 split
 ·exact inBB_iff.2 hd.1
 ·exact inBB_iff.2 hd.2
theorem ord_no {f : Func} {k : Int} (h0 : 0 ≤ k) (h1 : k < (ordF f f.body).length) (h : ¬ (ordF f f.body)[k.toNat]'(by omega) = k) : shapeB f.stmts f.body = false := by
 rw [Bool.eq_false_iff]
 intro hs
 have := (shape_blocks.1 hs).2 k.toNat (by unfold ordF at h1; omega)
 apply h
 unfold ordF
 rw [this]; omega
theorem ord_yes {f : Func} (hd : downB f.stmts.length (kids f.stmts)) (hb : inB f.stmts.length 0 f.body) (hl : ((ordF f f.body).length : Int) = f.stmts.length) (h : ∀ (k : Nat) (h : k < (ordF f f.body).length), (ordF f f.body)[k] = (k : Int)) : shapeB f.stmts f.body = true := by
 rw [shapeB_iff]
 refine ⟨hd, hb, List.ext_getElem (by rw [upto_len]; unfold ordF at hl; omega) fun k h1 h2 => ?_⟩
 rw [upto_at h2]
 exact h k h1
theorem shape_len {f : Func} (h : shapeB f.stmts f.body = true) : ((ordF f f.body).length : Int) = f.stmts.length := by
 unfold ordF; rw [(shapeB_iff.1 h).2.2, upto_len]
theorem uses_no {f : Func} {k u : Int} (h0 : 0 ≤ k) (h1 : (f.stmts.length : Int) ≤ k) (hu : u + usesF (f.stmts.drop k.toNat) = f.body.length + usesF f.stmts) (h : ¬ u = f.stmts.length) : shapeB f.stmts f.body = false := by
 rw [Bool.eq_false_iff]
 intro hs
 have := shape_uses hs
 have e := drop_end h1
 rw [e] at hu
 simp only [usesF] at hu
 omega
theorem body_no {f : Func} (h : (f.body.any fun n => !decide (0 ≤ n ∧ n ≤ (f.stmts.length : Int) - 1)) = true) : shapeB f.stmts f.body = false := by
 rw [any_inB] at h
 rw [shapeB]
 simp only [Bool.not_eq_true'] at h
 rw [h]; simp
theorem while_no {f : Func} {m : Int} (h0 : 0 ≤ m) (h1 : m < f.stmts.length) (h2 : (f.stmts[m.toNat]'(by omega)).kind = 8) (h : noDef f (f.stmts[m.toNat]'(by omega)).thn = false) : whileB f = false := by
 rw [whileB]
 exact all_no h0 h1 (by unfold whileOk; rw [if_pos h2, h])
theorem isShaped_fun (f : Func) (hf : f.ok 1048576) : Fun Tryz.prog 171 [.t f.tt] (tupD [.t (.bool (shapeF f))]) := by
  have hl : f.stmts.length ≤ 1048576 := hf.2.1.1
  have hbl : f.body.length ≤ 1048576 := hf.1
  refine Fun.begin tys Tryz.func171 Z Z (N := 140) [(0, .t f.tt)] Z Z (fun w0 G F0 => ?_)
  refine sQ (rG (WO_box Z Z (lt_of Z) Z Z (nZ Z (eZ Z (oN (tN (sQ (sQ (rG (eK 2 Z (callB ?_)))))))))))
  refine ⟨_, within_fun _ _ _, rfl, ?_⟩
  refine eK 2 Z ?_
  refine WO_guard Z Z Z Z (lt_of Z) (fun h1 => ?_) (fun h1 => ?_)
  rotate_left
  ·
    simp only [HS] at h1
    refine gM Z (gM Z (kZ [1,2,19,21,22] Z (gM Z (gM Z (gM Z (eK 2 Z (gM Z (gM Z (gM Z (gM Z (kZ [1,2,27,31] Z (eK 2 Z (gM Z (gM Z (gM Z ?_)))))))))))))))
    refine gM Z (eZ Z (oN (tN (W_condT Z (sQ (kY [1,2] Z (rG (eZ Z (oN (tN (rT (tR (eR ?_)))))))))))))
    · first
      | (refine retB ?_; rw [shapeF, okNum]; simp only [h1, decide_false, Bool.false_and]; done)
  simp only [HS] at h1
  refine eZ Z (gY Z (eZ Z (kZ [1,2,19,21] Z (gY Z (eZ Z (gY Z (eZ Z (gY Z (callB ?_)))))))))
  refine ⟨_, within_fun _ _ _, rfl, ?_⟩
  refine gY Z (eK 3 Z ?_)
  refine WO_guard Z Z Z Z (lt_of Z) (fun h2 => ?_) (fun h2 => ?_)
  rotate_left
  ·
    simp only [HS] at h2
    refine gM Z (gM Z (gM Z (kZ [1,2,27,31] Z (eK 2 Z (gM Z (gM Z (gM Z (gM Z (eZ Z (oN (tN (W_condT Z (sQ (kY [1,2] Z (rG ?_)))))))))))))))
    refine eZ Z (oN (tN (rT (tR (eR ?_)))))
    · first
      | (refine retB ?_; rw [shapeF, okNum]; simp only [h2, decide_false, Bool.false_and, Bool.and_false]; done)
  simp only [HS] at h2
  refine eZ Z (gY Z (eZ Z (gY Z (evE ?_))))
  refine kZ [1,2,27,30] Z (gY Z (eK 3 Z ?_))
  refine WO_guard Z Z Z Z (lt_of Z) (fun h3 => ?_) (fun h3 => ?_)
  rotate_left
  ·
    simp only [HS] at h3
    refine gM Z (gM Z (gM Z (eZ Z (oN (tN (W_condT Z (sQ (kY [1,2] Z (rG (eZ Z (oN (tN (rT (tR (eR ?_)))))))))))))))
    · first
      | (refine retB ?_; rw [shapeF, okNum]; simp only [Int.not_le.2 h3, decide_false, Bool.false_and, Bool.and_false]; done)
  simp only [HS] at h3
  refine eZ Z ?_
  try refine WO_le (Le.freeze (u := 34) rfl) ?_
  refine nZ Z (gY Z (callB ?_))
  refine ⟨_, sitesOf_fun f hf, rfl, ?_⟩
  refine WO_le (Le.adoptE (u := 35) 35 Z (by first | exact lenN | exact Z)) ?_
  refine nZ Z (gY Z (evE ?_))
  refine gY Z (eK 2 Z (oN (tN ?_)))
  refine W_cond Z (fun h4 => ?_) (fun h4 => ?_)
  ·
    simp only [HS] at h4
    refine sQ (kY [1,2] Z (rG (eZ Z (oN (tN (rT (tR (eR ?_))))))))
    · first
      | (refine retB ?_; rw [shapeF, siteB]; simp only [Int.not_le.2 h4, decide_false, Bool.false_and, Bool.and_false]; done)
  simp only [HS] at h4
  refine W_skip (tN (sQ (kY [1,2] Z (rG (eK 2 Z (evE ?_))))))
  refine eZ Z (oN (tN (sQ (sQ (rG (eK 2 Z (evE ?_)))))))
  refine eZ Z (oN (tN (W_block ?_)))
  refine lK (α := Int × Int) [1, 43, 44] [1] (fun x => [(45, .t (.int (x.1))), (3, .t (.int (x.2)))]) (fun x => []) (fun x => 0 ≤ (x.1) ∧ (x.1) ≤ f.stmts.length ∧ f.stmts.length ≤ 16 ∧ okNum f = true ∧ siteB f = true ∧ 0 ≤ (x.2) ∧ (x.2) ≤ 1048576 + (x.1) * 2097152 ∧ (x.2) + usesF (f.stmts.drop (x.1).toNat) = f.body.length + usesF f.stmts ∧ downTo f (x.1)) (fun x => Int.toNat (f.stmts.length - (x.1))) (0, f.body.length) ?_ (fun x hx => ?_)
  · exact ⟨by omega, by omega, by omega, by simp [okNum, h1, h2, h3], by simp [siteB, h4], by omega, by omega, by simp, fun m h h' => by omega⟩
  obtain ⟨k, u⟩ := x
  obtain ⟨hk0, hk1, hN, hnum, hsite, hu0, hu1, hu, hdn⟩ := hx
  dsimp only at hk0 hk1 hN hnum hsite hu0 hu1 hu hdn ⊢
  refine nY Z (sQ (rG (eZ Z (oN (tN (sQ ?_))))))
  refine W_cond Z (fun h5 => ?_) (fun h5 => ?_)
  ·
    simp only [HS] at h5
    refine W_skip (tN (sQ (W_block (sQ (rG (eZ Z (WO_idxT tys Z Z (lt_of Z) Z Z Z Z Z Z Z (by omega) _ (getT _ _ (by omega) (by omega)) (eZ Z ?_))))))))
    try refine WO_le (Le.freeze (u := 49) rfl) ?_
    refine nZ Z (WO_alloc tys Z Z (lt_of Z) Z Z Z (nZ Z (WO_alloc tys Z Z (lt_of Z) Z Z Z (nZ Z (sT Z (nZ Z (sT Z (nZ Z (oN (tN (sQ (kY [1,3,4,5,43,44,45,46,47,48,49] Z (rG (eK 4 Z (WO_build2 (e := 25) Z Z (lt_of Z) Z (by kernel_rfl) (by kernel_rfl) (by kernel_rfl) Z Z ?_)))))))))))))))
    refine eZ Z (oN (tN (W_block ?_)))
    refine lK (α := Int × Int) [1, 4, 5, 43, 44, 45, 54] [1, 4, 5] (fun x => [(55, .t (.int (x.1))), (3, .t (.int (x.2)))]) (fun x => []) (fun x => 0 ≤ (x.1) ∧ (x.1) ≤ 2 ∧ (x.2) = u + usesZ (f.stmts[k.toNat]'(by omega)) (x.1) ∧ (1 ≤ (x.1) → inBB f.stmts.length (k + 1) (f.stmts[k.toNat]'(by omega)).thn = true) ∧ (2 ≤ (x.1) → inBB f.stmts.length (k + 1) (f.stmts[k.toNat]'(by omega)).els = true)) (fun x => Int.toNat (2 - (x.1))) (0, u) ?_ (fun x hx => ?_)
    · exact ⟨by omega, by omega, by simp [usesZ], by omega, by omega⟩
    obtain ⟨z, v⟩ := x
    obtain ⟨hz0, hz1, hv, hz2, hz3⟩ := hx
    dsimp only at hz0 hz1 hv hz2 hz3 ⊢
    refine nY Z (sQ (rG (eZ Z (oN (tN (sQ ?_))))))
    refine W_cond Z (fun h6 => ?_) (fun h6 => ?_)
    ·
      simp only [HS] at h6
      refine W_skip (tN (sQ (W_block (sQ (rG (WO_index2 (e := 25) (len := 2) Z Z (lt_of Z) Z (by kernel_rfl) (by kernel_rfl) (by kernel_rfl) Z Z Z (by omega) (pick2 (by omega) (by omega)) Z (eZ Z (oN (tN (sQ (rG (eK 2 Z (evE ?_)))))))))))))
      have hbz : 0 ≤ (blkZ (f.stmts[k.toNat]'(by omega)) z).length ∧ (blkZ (f.stmts[k.toNat]'(by omega)) z).length ≤ 1048576 := by
        have := stmt_ok hf (n := k.toNat) (by omega)
        unfold blkZ
        split <;> omega
      have huz : 0 ≤ usesZ (f.stmts[k.toNat]'(by omega)) z ∧ usesZ (f.stmts[k.toNat]'(by omega)) z ≤ 2097152 := by
        have := stmt_ok hf (n := k.toNat) (by omega)
        unfold usesZ
        split
        · omega
        · split <;> omega
      refine evI ?_
      refine eZ Z (oN (tN (sQ (kY [1,3,4,5,7,43,44,45,54,55,56,57,58,59,60,61] Z (rG (eK 2 Z (callB ?_)))))))
      refine ⟨_, hasS_fun _ (fun n => !decide (k + 1 ≤ n ∧ n ≤ f.stmts.length - 1)) _ [.rp (.agg [T.int k]) 0, .rp f.tt 0] Z (by omega) (fun n _ => isShaped1_fun n k f hl (by omega)), rfl, ?_⟩
      refine oN (tN ?_)
      refine W_cond Z (fun h7 => ?_) (fun h7 => ?_)
      ·
        refine sQ (rG (eZ Z (oN (tN (rT (bR (tR (loopQ_r (bR (bR (tR (loopQ_r (bR (tR (eR ?_)))))))))))))))
        · first
          | (refine retB ?_; rw [shapeF, down_no hk0 h5 hz0 h6 (by rw [any_inB] at h7; simpa using h7)]; simp; done)
      refine W_skip (bN (tN (rG (evI ?_))))
      refine eZ Z (oN ?_)
      refine lQ (_, _) ?_ ?_
      · dsimp only
        have h7' : inBB f.stmts.length (k + 1) (blkZ (f.stmts[k.toNat]'(by omega)) z) = true := by rw [any_inB] at h7; simpa using h7
        rcases (by omega : z = 0 ∨ z = 1) with rfl | rfl
        · exact ⟨by omega, by omega, by simp [usesZ, blkZ] at hv ⊢; omega, fun _ => h7', by omega⟩
        · exact ⟨by omega, by omega, by simp [usesZ, blkZ] at hv ⊢; omega, fun _ => hz2 (by omega), fun _ => h7'⟩
      · (show Int.toNat _ < Int.toNat _); omega
    simp only [HS] at h6
    refine W_exit (tE (loopQ_e (inBlk_y (bN (tN (rG (evI ?_)))))))
    refine eZ Z (oN ?_)
    refine lQ (_, _) ?_ ?_
    · dsimp only
      have hz : z = 2 := by omega
      subst hz
      have hua := usesF_at hk0 h5
      have hv' : v = u + ((f.stmts[k.toNat]'(by omega)).thn.length + (f.stmts[k.toNat]'(by omega)).els.length) := hv
      have hso := stmt_ok hf (n := k.toNat) (by omega)
      exact ⟨by omega, by omega, hN, hnum, hsite, by omega, by omega, by omega, downTo_step hk0 h5 hdn (hz2 (by omega)) (hz3 (by omega))⟩
    · (show Int.toNat _ < Int.toNat _); omega
  simp only [HS] at h5
  refine W_exit (tE (loopQ_e (inBlk_y (tN (sQ (sQ (rG (eK 3 Z (evE ?_)))))))))
  refine eK 2 Z ?_
  refine WO_guard Z Z Z Z (lt_of Z) (fun h6 => ?_) (fun h6 => ?_)
  rotate_left
  ·
    simp only [HS] at h6
    refine gM Z (gM Z (kZ [1,72,74,75] Z (gM Z (eZ Z (oN (tN (W_condT Z (sQ (rG (eZ Z (oN (tN (rT (tR (eR ?_)))))))))))))))
    · first
      | (refine retB ?_; rw [shapeF, uses_no hk0 h5 hu h6]; simp; done)
  simp only [HS] at h6
  refine eZ Z (gY Z (eZ Z (kZ [1,72,74] Z (gY Z (eZ Z (gY Z (callB ?_)))))))
  refine ⟨_, hasS_fun _ (fun n => !decide (0 ≤ n ∧ n ≤ f.stmts.length - 1)) _ [.rp f.tt 0] Z (by omega) (fun n _ => isShaped2_fun n f hl), rfl, ?_⟩
  refine eZ Z (oN (tN ?_))
  refine W_cond Z (fun h7 => ?_) (fun h7 => ?_)
  ·
    refine sQ (rG (eZ Z (oN (tN (rT (tR (eR ?_)))))))
    · first
      | (refine retB ?_; rw [shapeF, body_no h7]; simp; done)
  refine W_skip (tN (sQ (rG ?_)))
  have hd : downB f.stmts.length (kids f.stmts) := fun m m0 m1 => hdn m m0 (by omega)
  have hb : inB f.stmts.length 0 f.body := inBB_iff.1 (by rw [any_inB] at h7; simpa using h7)
  have hue : f.body.length + usesF f.stmts = f.stmts.length := by
    have e := drop_end h5
    rw [e] at hu
    simp only [usesF] at hu
    omega
  have hol : (ordF f f.body).length ≤ 1048576 := ord_bound' hd hb (by omega) (by omega)
  refine eZ Z ?_
  try refine WO_le (Le.freeze (u := 78) rfl) ?_
  refine nZ Z (eK 2 Z ?_)
  skip
  skip
  refine nZ Z (WO_callO (u := 81) (az := [.tmp 78, .tmp 80]) Z Z (lt_of Z) Z Z Z Z (.inr ⟨rfl, _, rfl⟩) (orderOf_fun' f hf hd hb hbl hol) (WO_le (Le.adoptE (u := 81) 81 Z (by first | exact lenN | exact Z)) ?_))
  refine nZ Z (eZ Z (oN (tN (sQ (sQ (kY [1,8] Z (rG (eZ Z (evE ?_)))))))))
  refine eZ Z (oN (tN (W_block ?_)))
  refine lK (α := Int) [1, 8, 82, 83] [1, 81] (fun x => [(84, .t (.int x))]) (fun x => []) (fun x => 0 ≤ x ∧ x ≤ (ordF f f.body).length ∧ ∀ (q : Nat) (h : q < (ordF f f.body).length), q < x → (ordF f f.body)[q] = (q : Int)) (fun x => Int.toNat ((ordF f f.body).length - x)) 0 ?_ (fun j hx => ?_)
  · exact ⟨by omega, by omega, fun q h h' => by omega⟩
  obtain ⟨hj0, hj1, hj⟩ := hx
  refine nY Z (sQ (rG (eZ Z (oN (tN (sQ ?_))))))
  refine W_cond Z (fun h8 => ?_) (fun h8 => ?_)
  ·
    simp only [HS] at h8
    refine W_skip (tN (sQ (W_block (sQ (rG (eZ Z (WO_idxS tys Z Z (lt_of Z) Z Z Z Z Z Z Z Z (by omega) (by omega) (WO_loadL tys Z Z (lt_of Z) Z Z Z Z (getT0 _ _ (by omega) (by omega)) Z (eK 2 Z (oN (tN (sQ (rG (eK 3 Z (kZ [1,8,9,10,82,83,84,85,86,87,88,89,90,91] Z ?_)))))))))))))))
    refine oN (tN ?_)
    refine W_cond Z (fun h9 => ?_) (fun h9 => ?_)
    ·
      simp only [HS] at h9
      refine sQ (rG (eZ Z (oN (tN (rT (bR (tR (loopQ_r (bR (tR (eR ?_)))))))))))
      · first
        | (refine retB ?_; rw [shapeF, ord_no hj0 h8 h9]; simp; done)
    simp only [HS] at h9
    refine W_skip (bN (tN (rG (evI ?_))))
    refine eZ Z (oN ?_)
    refine lQ _ ?_ ?_
    · skip
      refine ⟨by omega, by omega, fun q h h' => ?_⟩
      by_cases hq : (q : Int) < j
      · exact hj q h hq
      · obtain rfl : q = j.toNat := by omega
        omega
    · (show Int.toNat _ < Int.toNat _); omega
  simp only [HS] at h8
  refine W_exit (tE (loopQ_e (inBlk_y (tN (sQ (sQ (rG (eK 2 Z (evE ?_)))))))))
  refine eZ Z (oN (tN (W_block ?_)))
  refine lK (α := Int) [1, 8, 94, 95] [1, 81] (fun x => [(96, .t (.int x))]) (fun x => []) (fun x => 0 ≤ x ∧ x ≤ f.stmts.length ∧ (((ordF f f.body).length : Int) = f.stmts.length → (f.stmts.take x.toNat).all (whileOk f) = true)) (fun x => Int.toNat (f.stmts.length - x)) 0 ?_ (fun m hx => ?_)
  · exact ⟨by omega, by omega, fun _ => by simp⟩
  obtain ⟨hm0, hm1, hmw⟩ := hx
  refine nY Z (sQ (rG (eZ Z (oN (tN (sQ ?_))))))
  refine W_cond Z (fun h9 => ?_) (fun h9 => ?_)
  ·
    simp only [HS] at h9
    refine W_skip (tN (sQ (W_block (sQ (rG (eZ Z (WO_idxT tys Z Z (lt_of Z) Z Z Z Z Z Z Z (by omega) _ (getT _ _ (by omega) (by omega)) (eZ Z ?_))))))))
    try refine WO_le (Le.freeze (u := 100) rfl) ?_
    refine nZ Z (WO_alloc tys Z Z (lt_of Z) Z Z Z (nZ Z ?_))
    have hmt : m.toNat < f.stmts.length := by omega
    have hbt : inB f.stmts.length 0 (f.stmts[m.toNat]'hmt).thn := by
      have := (hd m (by omega) (by omega)).1
      rw [kids_at hmt] at this
      exact inB_lower this (by omega)
    have hut := usesF_drop f.stmts hmt
    have hul := usesF_le f.stmts m.toNat
    have hot : (ordF f (f.stmts[m.toNat]'hmt).thn).length ≤ 1048576 := ord_bound' hd hbt (by omega) (by omega)
    refine eZ Z (sT Z (nZ Z (oN (tN (sQ (kY [1,8,11,12,94,95,96,97,98,99,100] Z (rG (eK 4 Z ?_))))))))
    refine WO_guard Z Z Z Z (lt_of Z) (fun h10 => ?_) (fun h10 => ?_)
    rotate_left
    ·
      simp only [HS] at h10
      refine gM Z (gM Z (gM Z (gM Z (gM Z (kZ [1,8,11,12,94,95,96,97,98,99,100,101,102,103,104,105,106,107,108,109,110] Z (eZ Z (oN (tN (W_condF Z (W_skip (bN (tN (rG (evI ?_))))))))))))))
      refine eZ Z (oN ?_)
      refine lQ _ ?_ ?_
      · skip
        refine ⟨by omega, by omega, fun he => all_tk hm0 (by omega) (hmw he) ?_⟩
        first
        | (unfold whileOk; rw [if_neg (by omega)]; done)
      · (show Int.toNat _ < Int.toNat _); omega
    simp only [HS] at h10
    refine eZ Z (gY Z (evE ?_))
    refine gY Z (eZ Z (gY Z (eZ Z (gY Z (evE ?_)))))
    refine kZ [1,8,11,12,94,95,96,97,98,99,100,101,102,103,104,105,106,107,108,109] Z (gY Z (eK 2 Z (oN (tN ?_))))
    refine W_cond Z (fun h11 => ?_) (fun h11 => ?_)
    ·
      simp only [HS] at h11
      refine sQ (W_regionDZm 7 9 mixed Z Z Z Z Z Z Z (lt_of Z) (by kernel_rfl) (by kernel_rfl) (by kernel_rfl) (by kernel_rfl) (by kernel_rfl) (evQ ?_))
      refine evQ ?_
      refine evQ ?_
      refine evQ ?_
      refine QL_norm Z (QL_idxT tys Z Z (lt_of Z) Z Z Z Z Z Z Z (by omega) _ (getT _ _ (by omega) (by omega)) (evQ ?_))
      refine evQ ?_
      refine QL_nil (WO_le (Le.freeze (u := 112) Z) ?_)
      skip
      refine nZ Z (WO_callO (u := 119) (az := [.tmp 112, .tmp 118]) Z Z (lt_of Z) Z Z Z Z (.inr ⟨rfl, _, rfl⟩) (orderOf_fun' f hf hd hbt (stmt_ok hf _).1 hot) (WO_le (Le.adoptE (u := 119) 119 Z (by first | exact lenN | exact Z)) ?_))
      refine nZ Z (evE ?_)
      refine oN (nQ_n (tN (W_block ?_)))
      refine lK (α := Int) [1, 8, 94, 95, 96, 119, 120] [1, 81, 119] (fun x => [(121, .t (.int x))]) (fun x => []) (fun x => 0 ≤ x ∧ x ≤ (ordF f (f.stmts[m.toNat]'(by omega)).thn).length ∧ ((ordF f (f.stmts[m.toNat]'(by omega)).thn).take x.toNat).all (fun n => decide (¬ kindAt f n = 3)) = true) (fun x => Int.toNat ((ordF f (f.stmts[m.toNat]'(by omega)).thn).length - x)) 0 ?_ (fun r hx => ?_)
      · exact ⟨by omega, by omega, by simp⟩
      obtain ⟨hr0, hr1, hrw⟩ := hx
      refine nY Z (sQ (rG (eZ Z (oN (tN (sQ ?_))))))
      refine W_cond Z (fun h12 => ?_) (fun h12 => ?_)
      ·
        simp only [HS] at h12
        refine W_skip (tN (sQ (W_block (sQ (rG (WO_idxS tys Z Z (lt_of Z) Z Z Z Z Z Z Z Z (by omega) (by omega) (WO_loadL tys Z Z (lt_of Z) Z Z Z Z (getT0 _ _ (by omega) (by omega)) Z ?_)))))))
        have hn := ord_range hd hbt _ (List.getElem_mem (l := ordF f (f.stmts[m.toNat]'(by omega)).thn) (n := r.toNat) (by omega))
        refine eZ Z (oN (tN (sQ (rG (eK 3 Z (WO_idxT tys Z Z (lt_of Z) Z Z Z Z Z Z Z (by omega) _ (getT _ _ (by omega) (by omega)) (eZ Z (kZ [1,8,14,94,95,96,119,120,121,122,123,124,125,126,127,128,129] Z (eK 2 Z (oN (tN ?_)))))))))))
        refine W_cond Z (fun h13 => ?_) (fun h13 => ?_)
        ·
          simp only [HS] at h13
          refine sQ (rG (eZ Z (oN (tN (rT (bR (tR (loopQ_r (bR (bR (tR (loopQ_r (bR (tR (eR ?_)))))))))))))))
          · first
            | (have e : noDef f (f.stmts[m.toNat]'(by omega)).thn = false := (by unfold noDef; exact all_no hr0 (by omega) (by rw [kindAt_at (by omega)]; simp; omega))
               refine retB ?_; rw [shapeF, while_no hm0 (by omega) (by omega) e]; simp; done)
        simp only [HS] at h13
        refine W_skip (bN (tN (rG (evI ?_))))
        refine eZ Z (oN ?_)
        refine lQ _ ?_ ?_
        · skip
          exact ⟨by omega, by omega, all_tk hr0 (by omega) hrw (by rw [kindAt_at (by omega)]; simp; assumption)⟩
        · (show Int.toNat _ < Int.toNat _); omega
      simp only [HS] at h12
      refine W_exit (tE (loopQ_e (inBlk_y (bN (tN (rG (evI ?_)))))))
      refine eZ Z (oN ?_)
      refine lQ _ ?_ ?_
      · skip
        refine ⟨by omega, by omega, fun he => all_tk hm0 (by omega) (hmw he) ?_⟩
        first
        | (unfold whileOk; rw [if_pos (by assumption)]; exact all_fl (by omega) hrw)
      · (show Int.toNat _ < Int.toNat _); omega
    simp only [HS] at h11
    refine W_skip (bN (tN (rG (evI ?_))))
    refine eZ Z (oN ?_)
    refine lQ _ ?_ ?_
    · skip
      refine ⟨by omega, by omega, fun he => all_tk hm0 (by omega) (hmw he) ?_⟩
      first
      | (unfold whileOk; rw [if_neg (by omega)]; done)
    · (show Int.toNat _ < Int.toNat _); omega
  simp only [HS] at h9
  refine W_exit (tE (loopQ_e (inBlk_y (tN (sQ (rG (eZ Z (evE ?_))))))))
  refine eK 2 Z (evE ?_)
  refine eK 2 Z (oN (tN (rT (eR ?_))))
  · first
    | (refine retB ?_
       rw [shapeF, hnum, hsite]
       by_cases hle : ((ordF f f.body).length : Int) = f.stmts.length
       · rw [ord_yes hd hb hle (fun q h => hj q h (by omega)), whileB, all_fl (by omega) (hmw hle)]; simp [hle]
       · have : shapeB f.stmts f.body = false := by
           rw [Bool.eq_false_iff]; exact fun h => hle (shape_len h)
         rw [this]; simp [hle])
end Go.Proofs.YtimpganophnehaaGreat
