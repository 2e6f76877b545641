/- What a good function's shape is, told of the mirrors: plain laws. -/
import Derived.Test.YtimpganophnehaaGreatFf
set_option linter.unusedVariables false
set_option linter.unusedSimpArgs false
set_option maxRecDepth 10000
namespace Go.Proofs.YtimpganophnehaaGreat
open Go.Eng

def kids (l : List Stmt) (m : Int) : List Int × List Int := match l[m.toNat]? with
 | some s => (s.thn, s.els)
 | none => ([], [])
theorem kids_at {l : List Stmt} {m : Int} (h : m.toNat < l.length) : kids l m = ((l[m.toNat]).thn, (l[m.toNat]).els) := by
 unfold kids; rw [List.getElem?_eq_getElem h]

def inBB (N i : Int) (b : List Int) : Bool := b.all fun x => decide (i ≤ x ∧ x < N)
theorem inBB_iff {N i : Int} {b : List Int} : inBB N i b = true ↔ inB N i b := by
 unfold inBB inB; rw [List.all_eq_true]; simp
def downBB (l : List Stmt) : Bool := (upto l.length).all fun m => inBB l.length (m + 1) (kids l m).1 && inBB l.length (m + 1) (kids l m).2
theorem downBB_iff {l : List Stmt} : downBB l = true ↔ downB l.length (kids l) := by
 unfold downBB downB
 rw [List.all_eq_true]
 constructor
 ·intro h m h0 h1
  have := h m (mem_upto.2 ⟨h0, h1⟩)
  rw [Bool.and_eq_true, inBB_iff, inBB_iff] at this
  exact this
 ·intro h m hm
  have h2 := mem_upto.1 hm
  rw [Bool.and_eq_true, inBB_iff, inBB_iff]
  exact h m h2.1 h2.2

def shapeB (l : List Stmt) (body : List Int) : Bool := downBB l && (inBB l.length 0 body && (ord l.length (kids l) body == upto l.length))
theorem shapeB_iff {l : List Stmt} {body : List Int} : shapeB l body = true ↔ downB l.length (kids l) ∧ inB l.length 0 body ∧ ord l.length (kids l) body = upto l.length := by
 unfold shapeB; rw [Bool.and_eq_true, Bool.and_eq_true, downBB_iff, inBB_iff, beq_iff_eq]

def blkGo : List Stmt → Int → List (Int × List Int)
 | [], _ => []
 | s :: l, k => (k, s.thn) :: (k, s.els) :: blkGo l (k + 1)
def blkO (l : List Stmt) (body : List Int) : List (Int × List Int) := (-1, body) :: blkGo l 0
theorem blkGo_len : ∀ (l : List Stmt) (k : Int), (blkGo l k).length = 2 * l.length
 | [], _ => rfl
 | s :: l, k => by rw [blkGo, List.length_cons, List.length_cons, blkGo_len l, List.length_cons]; omega
theorem blkGo_mem : ∀ {l : List Stmt} {k : Int} {p : Int × List Int}, p ∈ blkGo l k ↔ ∃ j : Nat, ∃ h : j < l.length, p = (k + j, (l[j]).thn) ∨ p = (k + j, (l[j]).els)
  | [], k, p => by simp [blkGo]
  | s :: l, k, p => by
    rw [blkGo, List.mem_cons, List.mem_cons, blkGo_mem]
    constructor
    · rintro (h | h | ⟨j, hj, h⟩)
      · exact ⟨0, by simp, .inl (by simpa using h)⟩
      · exact ⟨0, by simp, .inr (by simpa using h)⟩
      · refine ⟨j + 1, by simp; omega, ?_⟩
        rcases h with h | h
        · exact .inl (by rw [h]; simp; omega)
        · exact .inr (by rw [h]; simp; omega)
    · rintro ⟨j, hj, h⟩
      cases j with
      | zero => rcases h with h | h
                · exact .inl (by simpa using h)
                · exact .inr (.inl (by simpa using h))
      | succ j =>
        refine .inr (.inr ⟨j, by simpa using hj, ?_⟩)
        rcases h with h | h
        · exact .inl (by rw [h]; simp; omega)
        · exact .inr (by rw [h]; simp; omega)

def riseP (l : List Int) (lo hi : Int) : Prop := (∀ x, x ∈ l → lo ≤ x ∧ x ≤ hi) ∧ l.Pairwise (· < ·)
instance (l : List Int) (lo hi : Int) : Decidable (riseP l lo hi) := by unfold riseP; infer_instance
def riseB (l : List Int) (lo hi : Int) : Bool := decide (riseP l lo hi)
def cntF (l : List Int) (x : Int) : Int := l.count x
def onceB (N : Nat) (l : List Int) : Bool := (upto N).all fun x => decide (cntF l x = 1)
def blkB (N : Int) (p : Int × List Int) : Bool := riseB p.2 0 (N - 1) && p.2.all fun n => decide (p.1 < n)
def blocksB (l : List Stmt) (body : List Int) : Bool := (blkO l body).all (blkB l.length) && onceB l.length ((blkO l body).map (·.2)).flatten

theorem upto_succ (N : Nat) : upto (N + 1) = 0 :: (upto N).map (· + 1) := by
 unfold upto
 rw [List.range_succ_eq_map, List.map_cons, List.map_map, List.map_map]
 rfl
theorem allB_blk : ∀ (l : List Stmt) (k : Int), ((blkGo l k).map (·.2)).flatten = (upto l.length).flatMap (both (kids l))
 | [], _ => rfl
 | s :: l, k => by
  rw [blkGo, List.map_cons, List.map_cons, List.flatten_cons, List.flatten_cons, allB_blk l, List.length_cons, upto_succ, List.flatMap_cons, List.flatMap_map]
  rw [show both (kids (s :: l)) 0 = s.thn ++ s.els from rfl, List.append_assoc]
  congr 2
  refine flatMap_congr' fun x hx => ?_
  have h := mem_upto.1 hx
  unfold both kids
  rw [show (x + 1).toNat = x.toNat + 1 from by omega]
  rfl
theorem blkO_flat (l : List Stmt) (body : List Int) : ((blkO l body).map (·.2)).flatten = allB l.length (kids l) body := by
 rw [blkO, List.map_cons, List.flatten_cons, allB_blk, allB]
theorem onceB_iff {N : Nat} {l : List Int} : onceB N l = true ↔ ∀ x : Int, 0 ≤ x → x < N → l.count x = 1 := by
 unfold onceB cntF
 rw [List.all_eq_true]
 constructor
 ·intro h x h0 h1; have := h x (mem_upto.2 ⟨h0, h1⟩); simp at this; omega
 ·intro h x hx; have := h x (mem_upto.1 hx).1 (mem_upto.1 hx).2; simp; omega
theorem blocksB_iff {l : List Stmt} {body : List Int} : blocksB l body = true ↔ inB l.length 0 body ∧ body.Pairwise (· < ·) ∧ downB l.length (kids l) ∧ (∀ m : Int, 0 ≤ m → m < l.length → (kids l m).1.Pairwise (· < ·) ∧ (kids l m).2.Pairwise (· < ·)) ∧ ∀ x : Int, 0 ≤ x → x < l.length → (allB l.length (kids l) body).count x = 1 := by
 unfold blocksB
 rw [Bool.and_eq_true, onceB_iff, blkO_flat, blkO, List.all_cons, Bool.and_eq_true, List.all_eq_true]
 have hb : ∀ (o : Int) (b : List Int), blkB l.length (o, b) = true ↔ inB l.length 0 b ∧ b.Pairwise (· < ·) ∧ ∀ x, x ∈ b → o < x := by
  intro o b
  unfold blkB riseB
  rw [Bool.and_eq_true, decide_eq_true_iff, List.all_eq_true]
  unfold riseP inB
  simp only [decide_eq_true_eq]
  constructor
  ·rintro ⟨⟨h1, h2⟩, h3⟩; exact ⟨fun x hx => by have := h1 x hx; omega, h2, h3⟩
  ·rintro ⟨h1, h2, h3⟩; exact ⟨⟨fun x hx => by have := h1 x hx; omega, h2⟩, h3⟩
 rw [hb]
 constructor
 ·rintro ⟨⟨⟨h1, h2, _⟩, h4⟩, h5⟩
  have hk : ∀ m : Int, 0 ≤ m → m < l.length → (inB l.length (m + 1) (kids l m).1 ∧ inB l.length (m + 1) (kids l m).2) ∧ (kids l m).1.Pairwise (· < ·) ∧ (kids l m).2.Pairwise (· < ·) := by
   intro m m0 m1
   have q1 := (hb _ _).1 (h4 (m, (l[m.toNat]'(by omega)).thn) (blkGo_mem.2 ⟨m.toNat, by omega, .inl (by congr 1; omega)⟩))
   have q2 := (hb _ _).1 (h4 (m, (l[m.toNat]'(by omega)).els) (blkGo_mem.2 ⟨m.toNat, by omega, .inr (by congr 1; omega)⟩))
   rw [kids_at (by omega)]
   exact ⟨⟨fun x hx => by have := q1.1 x hx; have := q1.2.2 x hx; omega, fun x hx => by have := q2.1 x hx; have := q2.2.2 x hx; omega⟩, q1.2.1, q2.2.1⟩
  exact ⟨h1, h2, fun m m0 m1 => (hk m m0 m1).1, fun m m0 m1 => (hk m m0 m1).2, h5⟩
 ·rintro ⟨h1, h2, h3, h4, h5⟩
  refine ⟨⟨⟨h1, h2, fun x hx => by have := h1 x hx; omega⟩, fun p hp => ?_⟩, h5⟩
  obtain ⟨j, hj, hp⟩ := blkGo_mem.1 hp
  have q3 := h3 j (by omega) (by omega)
  have q4 := h4 j (by omega) (by omega)
  rw [kids_at (by omega)] at q3 q4
  rcases hp with rfl | rfl
  ·refine (hb _ _).2 ⟨fun x hx => ?_, q4.1, fun x hx => ?_⟩
   ·have := q3.1 x hx; omega
   ·have := q3.1 x hx; omega
  ·refine (hb _ _).2 ⟨fun x hx => ?_, q4.2, fun x hx => ?_⟩
   ·have := q3.2 x hx; omega
   ·have := q3.2 x hx; omega

theorem upto_len (N : Nat) : (upto N).length = N := by unfold upto; simp
theorem upto_at {N k : Nat} (h : k < (upto N).length) : (upto N)[k] = k := by simp [upto]
theorem shape_blocks {l : List Stmt} {body : List Int} : shapeB l body = true ↔ blocksB l body = true ∧ ∀ (k : Nat) (h : k < (ord l.length (kids l) body).length), (ord l.length (kids l) body)[k] = (k : Int) := by
 rw [shapeB_iff, blocksB_iff]
 constructor
 ·rintro ⟨hd, hb, ho⟩
  have := once_of_ord hd hb ho
  refine ⟨⟨hb, this.2.1, hd, this.2.2, this.1⟩, fun k h => ?_⟩
  have h2 : k < (upto l.length).length := by rw [← ho]; exact h
  rw [← upto_at h2]
  congr 1
 ·rintro ⟨⟨hb, _, hd, _, ha⟩, ho⟩
  refine ⟨hd, hb, ?_⟩
  have hp := (ord_len hd hb ha).length_eq
  refine List.ext_getElem hp fun k h1 h2 => ?_
  rw [ho k h1, upto_at h2]
theorem blocks_len {l : List Stmt} {body : List Int} (h : blocksB l body = true) : (ord l.length (kids l) body).length = l.length := by
 have h := blocksB_iff.1 h
 rw [(ord_len h.2.2.1 h.1 h.2.2.2.2).length_eq, upto_len]

def usesF : List Stmt → Nat
 | [] => 0
 | s :: l => s.thn.length + s.els.length + usesF l
theorem usesF_flat (l : List Stmt) : usesF l = ((upto l.length).flatMap (both (kids l))).length := by
 rw [← allB_blk l 0]
 generalize (0 : Int) = k
 induction l generalizing k with
 | nil => rfl
 | cons s l ih =>
  rw [usesF, ih (k + 1), blkGo]
  simp only [List.map_cons, List.flatten_cons, List.length_append]
  omega
theorem count_sum (N : Nat) : ∀ {l : List Int}, (∀ x, x ∈ l → 0 ≤ x ∧ x < N) → (∀ x : Int, 0 ≤ x → x < N → l.count x = 1) → l.length = N := by
 intro l h1 h2
 have : l.Perm (upto N) := by
  rw [List.perm_iff_count]
  intro x
  by_cases hx : 0 ≤ x ∧ x < N
  ·rw [h2 x hx.1 hx.2, count_upto hx.1 hx.2]
  ·rw [List.count_eq_zero_of_not_mem fun h => hx (h1 x h), List.count_eq_zero_of_not_mem fun h => hx (mem_upto.1 h)]
 rw [this.length_eq, upto_len]
theorem shape_uses {l : List Stmt} {body : List Int} (h : shapeB l body = true) : body.length + usesF l = l.length := by
 have h := shapeB_iff.1 h
 have h2 := (once_of_ord h.1 h.2.1 h.2.2).1
 have := count_sum l.length (l := allB l.length (kids l) body) (fun x hx => by
  rcases List.mem_append.1 hx with hx | hx
  ·exact h.2.1 x hx
  ·obtain ⟨m, hm, hx⟩ := List.mem_flatMap.1 hx
   have hm := mem_upto.1 hm
   have hk := h.1 m hm.1 hm.2
   rcases List.mem_append.1 hx with hx | hx
   ·have := hk.1 x hx; omega
   ·have := hk.2 x hx; omega) h2
 unfold allB at this
 rw [List.length_append, ← usesF_flat] at this
 exact this

theorem usesF_drop (l : List Stmt) {k : Nat} (h : k < l.length) : usesF (l.drop k) = (l[k]).thn.length + (l[k]).els.length + usesF (l.drop (k + 1)) := by
 rw [List.drop_eq_getElem_cons h, usesF]
theorem usesF_le (l : List Stmt) : ∀ (n : Nat), usesF (l.drop n) ≤ usesF l := by
 induction l with
 | nil => intro n; simp
 | cons s l ih =>
  intro n
  cases n with
  | zero => exact Nat.le_refl _
  | succ n => have := ih n; rw [List.drop_succ_cons, usesF]; omega
theorem ord_bound {l : List Stmt} (hd : downB l.length (kids l)) : ∀ (k : Nat) (i : Nat) {b : List Int}, l.length - i ≤ k → inB l.length i b → (ord l.length (kids l) b).length ≤ b.length * 2 ^ usesF (l.drop i)
 | k, i, [], hk, hb => by rw [ord_nil]; simp
 | 0, i, x :: b, hk, hb => by have := hb x (List.mem_cons_self ..); omega
 | k + 1, i, x :: b, hk, hb => by
  have hx := hb x (List.mem_cons_self ..)
  have hr := ord_bound hd (k + 1) i (b := b) hk fun y hy => hb y (List.mem_cons_of_mem _ hy)
  have hkd := hd x (by omega) hx.2
  rw [ord_cons hd (inB_lower hb (by omega))]
  have r1 := ord_bound hd k (x.toNat + 1) (b := (kids l x).1) (by omega) (by rw [show ((x.toNat + 1 : Nat) : Int) = x + 1 from by omega]; exact hkd.1)
  have r2 := ord_bound hd k (x.toNat + 1) (b := (kids l x).2) (by omega) (by rw [show ((x.toNat + 1 : Nat) : Int) = x + 1 from by omega]; exact hkd.2)
  have hu := usesF_drop l (k := x.toNat) (by omega)
  have hle : ∀ (n j : Nat), usesF (l.drop (j + n)) ≤ usesF (l.drop j) := by
   intro n
   induction n with
   | zero => intro j; simp
   | succ n ih =>
    intro j
    have h1 := ih (j + 1)
    rw [show j + 1 + n = j + (n + 1) from by omega] at h1
    by_cases hj : j < l.length
    ·have := usesF_drop l hj; omega
    ·rw [List.drop_of_length_le (by omega : l.length ≤ j + (n + 1))]; simp [usesF]
  have h3 := hle (x.toNat - i) i
  rw [show i + (x.toNat - i) = x.toNat from by omega] at h3
  rw [kids_at (by omega)] at r1 r2 ⊢
  dsimp only at r1 r2 ⊢
  generalize (l[x.toNat]'(by omega)).thn = t1 at *
  generalize (l[x.toNat]'(by omega)).els = t2 at *
  generalize usesF (l.drop (x.toNat + 1)) = u at *
  generalize usesF (l.drop x.toNat) = v at *
  generalize usesF (l.drop i) = z at *
  rw [List.length_append, List.length_cons, List.length_append, List.length_cons, Nat.succ_mul]
  have h4 : 1 + (t1.length * 2 ^ u + t2.length * 2 ^ u) ≤ 2 ^ z := by
   have h5 : 2 ^ v ≤ 2 ^ z := Nat.pow_le_pow_right (by omega) h3
   have h6 : 2 ^ v = 2 ^ (t1.length + t2.length) * 2 ^ u := by rw [hu, Nat.pow_add]
   have h7 : t1.length + t2.length + 1 ≤ 2 ^ (t1.length + t2.length) := Nat.lt_two_pow_self
   have h8 : (t1.length + t2.length + 1) * 2 ^ u ≤ 2 ^ (t1.length + t2.length) * 2 ^ u := Nat.mul_le_mul_right _ h7
   have h9 : 1 ≤ 2 ^ u := Nat.one_le_two_pow
   rw [Nat.add_mul, Nat.add_mul] at h8
   omega
  omega
theorem ord_bound' {l : List Stmt} (hd : downB l.length (kids l)) {b : List Int} (hb : inB l.length 0 b) (h : b.length ≤ 16) (hn : usesF l ≤ 16) : (ord l.length (kids l) b).length ≤ 1048576 := by
 have := ord_bound hd l.length 0 (b := b) (by omega) hb
 rw [List.drop_zero] at this
 have h2 : 2 ^ usesF l ≤ 2 ^ 16 := Nat.pow_le_pow_right (by omega) (by omega)
 have h3 : b.length * 2 ^ usesF l ≤ 16 * 2 ^ 16 := Nat.mul_le_mul (by omega) h2
 omega
end Go.Proofs.YtimpganophnehaaGreat
