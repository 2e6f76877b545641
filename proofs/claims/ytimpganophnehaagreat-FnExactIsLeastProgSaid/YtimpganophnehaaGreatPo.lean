/- The order of the statements of a function: which blocks make it count up. -/
namespace Go.Proofs.YtimpganophnehaaGreat

def ordK (kids : Int → List Int × List Int) : Nat → List Int → List Int
 | 0, _ => []
 | k + 1, b => b.flatMap fun n => n :: (ordK kids k (kids n).1 ++ ordK kids k (kids n).2)

def inB (N i : Int) (b : List Int) : Prop := ∀ x, x ∈ b → i ≤ x ∧ x < N
def downB (N : Int) (kids : Int → List Int × List Int) : Prop := ∀ m, 0 ≤ m → m < N → inB N (m + 1) (kids m).1 ∧ inB N (m + 1) (kids m).2

theorem flatMap_congr' {α β : Type} {f g : α → List β} : ∀ {l : List α}, (∀ x, x ∈ l → f x = g x) → l.flatMap f = l.flatMap g
 | [], _ => rfl
 | x :: l, h => by rw [List.flatMap_cons, List.flatMap_cons, h x (List.mem_cons_self ..), flatMap_congr' fun y hy => h y (List.mem_cons_of_mem _ hy)]

theorem ordK_same {N : Int} {kids : Int → List Int × List Int} (hd : downB N kids) : ∀ (k k' : Nat) {i : Int} {b : List Int}, 0 ≤ i → inB N i b → N - i ≤ k → N - i ≤ k' → ordK kids k b = ordK kids k' b
 | 0, k', i, b, h0, hb, h1, h2 => by
  have : b = [] := by
   cases b with
   | nil => rfl
   | cons x b => have := hb x (List.mem_cons_self ..); omega
  subst this
  cases k' <;> simp [ordK]
 | k + 1, 0, i, b, h0, hb, h1, h2 => by
  have : b = [] := by
   cases b with
   | nil => rfl
   | cons x b => have := hb x (List.mem_cons_self ..); omega
  subst this
  simp [ordK]
 | k + 1, k' + 1, i, b, h0, hb, h1, h2 => by
  rw [ordK, ordK]
  refine flatMap_congr' fun n hn => ?_
  have h3 := hb n hn
  have h4 := hd n (by omega) h3.2
  rw [ordK_same hd k k' (by omega) h4.1 (by omega) (by omega), ordK_same hd k k' (by omega) h4.2 (by omega) (by omega)]

def ord (N : Int) (kids : Int → List Int × List Int) (b : List Int) : List Int := ordK kids N.toNat b
theorem ord_nil {N : Int} {kids : Int → List Int × List Int} : ord N kids [] = [] := by
 unfold ord; cases N.toNat <;> simp [ordK]
theorem ord_cons {N : Int} {kids : Int → List Int × List Int} (hd : downB N kids) {n : Int} {b : List Int} (hb : inB N 0 (n :: b)) : ord N kids (n :: b) = n :: (ord N kids (kids n).1 ++ ord N kids (kids n).2) ++ ord N kids b := by
 have h1 := hb n (List.mem_cons_self ..)
 have h2 := hd n h1.1 h1.2
 have h0 : inB N 0 b := fun x hx => hb x (List.mem_cons_of_mem _ hx)
 have up : ∀ {c : List Int}, inB N (n + 1) c → ordK kids N.toNat c = ord N kids c := fun h => rfl
 obtain ⟨k, hk⟩ : ∃ k, N.toNat = k + 1 := ⟨N.toNat - 1, by omega⟩
 unfold ord
 rw [hk, ordK, List.flatMap_cons]
 congr 1
 ·rw [ordK_same hd k (k + 1) (by omega) h2.1 (by omega) (by omega), ordK_same hd k (k + 1) (by omega) h2.2 (by omega) (by omega)]

theorem inB_lower {N i j : Int} {b : List Int} (h : inB N i b) (hj : j ≤ i) : inB N j b := fun x hx => by have := h x hx; omega

theorem ord_ind {N : Int} {kids : Int → List Int × List Int} (hd : downB N kids) {p : List Int → List Int → Prop} (h0 : p [] [])
  (h1 : ∀ n b, 0 ≤ n → n < N → inB N 0 b → p (kids n).1 (ord N kids (kids n).1) → p (kids n).2 (ord N kids (kids n).2) → p b (ord N kids b) → p (n :: b) (n :: (ord N kids (kids n).1 ++ ord N kids (kids n).2) ++ ord N kids b)) :
  ∀ (k : Nat) (i : Int) (b : List Int), 0 ≤ i → N - i ≤ k → inB N i b → p b (ord N kids b)
 | 0, i, b, hi, hk, hb => by
  have : b = [] := by
   cases b with
   | nil => rfl
   | cons x b => have := hb x (List.mem_cons_self ..); omega
  subst this
  rw [ord_nil]; exact h0
 | k + 1, i, [], hi, hk, hb => by rw [ord_nil]; exact h0
 | k + 1, i, n :: b, hi, hk, hb => by
  have h2 := hb n (List.mem_cons_self ..)
  have h3 := hd n (by omega) h2.2
  have hb' : inB N i b := fun x hx => hb x (List.mem_cons_of_mem _ hx)
  rw [ord_cons hd (inB_lower hb hi)]
  exact h1 n b (by omega) h2.2 (inB_lower hb' hi) (ord_ind hd h0 h1 k (n + 1) _ (by omega) (by omega) h3.1) (ord_ind hd h0 h1 k (n + 1) _ (by omega) (by omega) h3.2) (ord_ind hd h0 h1 (k + 1) i b hi hk hb')
termination_by k _ b => (k, b.length)

theorem ord_ind' {N : Int} {kids : Int → List Int × List Int} (hd : downB N kids) {p : List Int → List Int → Prop} (h0 : p [] [])
  (h1 : ∀ n b, 0 ≤ n → n < N → inB N 0 b → p (kids n).1 (ord N kids (kids n).1) → p (kids n).2 (ord N kids (kids n).2) → p b (ord N kids b) → p (n :: b) (n :: (ord N kids (kids n).1 ++ ord N kids (kids n).2) ++ ord N kids b))
  {b : List Int} (hb : inB N 0 b) : p b (ord N kids b) := ord_ind hd h0 h1 N.toNat 0 b (by omega) (by omega) hb

def both (kids : Int → List Int × List Int) (m : Int) : List Int := (kids m).1 ++ (kids m).2

theorem ord_range {N : Int} {kids : Int → List Int × List Int} (hd : downB N kids) {b : List Int} (hb : inB N 0 b) : inB N 0 (ord N kids b) :=
 ord_ind' hd (p := fun _ o => inB N 0 o) (fun x hx => by cases hx) (fun n b h1 h2 _ i1 i2 i3 x hx => by
  simp only [List.cons_append, List.mem_cons, List.mem_append] at hx
  rcases hx with rfl | (hx | hx) | hx
  ·exact ⟨h1, h2⟩
  ·exact i1 x hx
  ·exact i2 x hx
  ·exact i3 x hx) hb

theorem ord_count {N : Int} {kids : Int → List Int × List Int} (hd : downB N kids) {b : List Int} (hb : inB N 0 b) (x : Int) : (ord N kids b).count x = b.count x + ((ord N kids b).flatMap (both kids)).count x :=
 ord_ind' hd (p := fun b o => o.count x = b.count x + (o.flatMap (both kids)).count x) rfl (fun n b h1 h2 _ i1 i2 i3 => by
  simp only [List.cons_append, List.flatMap_cons, List.flatMap_append, List.count_cons, List.count_append, both] at *
  omega) hb

theorem ord_sub {N : Int} {kids : Int → List Int × List Int} (hd : downB N kids) {b : List Int} (hb : inB N 0 b) : b.Sublist (ord N kids b) :=
 ord_ind' hd (p := fun b o => b.Sublist o) (List.Sublist.refl _) (fun n b h1 h2 _ i1 i2 i3 => by
  rw [List.cons_append]
  exact (i3.trans (List.sublist_append_right _ _)).cons_cons n) hb
theorem ord_subs {N : Int} {kids : Int → List Int × List Int} (hd : downB N kids) {b : List Int} (hb : inB N 0 b) (m : Int) (hm : m ∈ ord N kids b) : (kids m).1.Sublist (ord N kids b) ∧ (kids m).2.Sublist (ord N kids b) :=
 ord_ind' hd (p := fun b o => m ∈ o → (kids m).1.Sublist o ∧ (kids m).2.Sublist o) (fun h => by cases h) (fun n b h1 h2 _ i1 i2 i3 hm => by
  have hk := hd n h1 h2
  simp only [List.cons_append, List.mem_cons, List.mem_append] at hm ⊢
  have s1 : (ord N kids (kids n).1).Sublist (n :: ((ord N kids (kids n).1 ++ ord N kids (kids n).2) ++ ord N kids b)) := ((List.sublist_append_left _ _).trans (List.sublist_append_left _ _)).cons n
  have s2 : (ord N kids (kids n).2).Sublist (n :: ((ord N kids (kids n).1 ++ ord N kids (kids n).2) ++ ord N kids b)) := ((List.sublist_append_right _ _).trans (List.sublist_append_left _ _)).cons n
  have s3 : (ord N kids b).Sublist (n :: ((ord N kids (kids n).1 ++ ord N kids (kids n).2) ++ ord N kids b)) := (List.sublist_append_right _ _).cons n
  rcases hm with rfl | (hm | hm) | hm
  ·exact ⟨(ord_sub hd (inB_lower hk.1 (by omega))).trans s1, (ord_sub hd (inB_lower hk.2 (by omega))).trans s2⟩
  ·have := i1 hm; exact ⟨this.1.trans s1, this.2.trans s1⟩
  ·have := i2 hm; exact ⟨this.1.trans s2, this.2.trans s2⟩
  ·have := i3 hm; exact ⟨this.1.trans s3, this.2.trans s3⟩) hb hm

def upto (N : Nat) : List Int := (List.range N).map fun (k : Nat) => (k : Int)
theorem mem_upto {N : Nat} {x : Int} : x ∈ upto N ↔ 0 ≤ x ∧ x < N := by
 unfold upto
 rw [List.mem_map]
 constructor
 ·rintro ⟨k, hk, rfl⟩; have := List.mem_range.1 hk; omega
 ·intro h; exact ⟨x.toNat, List.mem_range.2 (by omega), by omega⟩
theorem upto_lt (N : Nat) : (upto N).Pairwise (· < ·) := by
 unfold upto
 rw [List.pairwise_map]
 exact List.Pairwise.imp (fun h => by omega) List.pairwise_lt_range
theorem count_upto {N : Nat} {x : Int} (h : 0 ≤ x) (h' : x < N) : (upto N).count x = 1 := by
 have hn : (upto N).Nodup := (upto_lt N).imp fun h e => by omega
 have h2 := List.nodup_iff_count.1 hn x
 have h3 := List.count_pos_iff.2 (mem_upto.2 ⟨h, h'⟩)
 omega

def allB (N : Nat) (kids : Int → List Int × List Int) (body : List Int) : List Int := body ++ (upto N).flatMap (both kids)

theorem once_of_ord {N : Nat} {kids : Int → List Int × List Int} (hd : downB N kids) {body : List Int} (hb : inB N 0 body) (ho : ord N kids body = upto N) :
  (∀ x : Int, 0 ≤ x → x < N → (allB N kids body).count x = 1) ∧ body.Pairwise (· < ·) ∧ ∀ m : Int, 0 ≤ m → m < N → (kids m).1.Pairwise (· < ·) ∧ (kids m).2.Pairwise (· < ·) := by
 refine ⟨fun x h0 h1 => ?_, (ho ▸ upto_lt N : (ord N kids body).Pairwise (· < ·)).sublist (ord_sub hd hb), fun m h0 h1 => ?_⟩
 ·have := ord_count hd hb x
  rw [ho, count_upto h0 h1] at this
  unfold allB
  rw [List.count_append]
  omega
 ·have := ord_subs hd hb m (ho ▸ mem_upto.2 ⟨h0, h1⟩)
  rw [ho] at this
  exact ⟨(upto_lt N).sublist this.1, (upto_lt N).sublist this.2⟩

theorem count_flat_sub {f : Int → List Int} {x : Int} : ∀ {l : List Int}, (l.flatMap f).count x = ((l.filter fun m => decide (x ∈ f m)).flatMap f).count x
 | [] => rfl
 | m :: l => by
  rw [List.flatMap_cons, List.count_append, count_flat_sub (l := l), List.filter_cons]
  split
  ·rw [List.flatMap_cons, List.count_append]
  ·rename_i h
   have : x ∉ f m := by simpa using h
   rw [List.count_eq_zero_of_not_mem this]; omega

theorem ord_once {N : Nat} {kids : Int → List Int × List Int} (hd : downB N kids) {body : List Int} (hb : inB N 0 body) (ha : ∀ x : Int, 0 ≤ x → x < N → (allB N kids body).count x = 1) :
  ∀ (k : Nat) (x : Int), x < k → 0 ≤ x → x < N → (ord N kids body).count x = 1
 | 0, x, h, h0, _ => by omega
 | k + 1, x, h, h0, h1 => by
  have h2 := ord_count hd hb x
  have h3 := ha x h0 h1
  unfold allB at h3
  rw [List.count_append] at h3
  have hp : ((ord N kids body).filter fun m => decide (x ∈ both kids m)).Perm ((upto N).filter fun m => decide (x ∈ both kids m)) := by
   rw [List.perm_iff_count]
   intro m
   by_cases hx : x ∈ both kids m
   ·rw [List.count_filter (by simpa using hx), List.count_filter (by simpa using hx)]
    by_cases hm : 0 ≤ m ∧ m < N
    ·have hk := hd m hm.1 hm.2
     have hlt : m < x := by
      rcases List.mem_append.1 hx with hx | hx
      ·have := hk.1 x hx; omega
      ·have := hk.2 x hx; omega
     rw [ord_once hd hb ha k m (by omega) hm.1 hm.2, count_upto hm.1 hm.2]
    ·rw [List.count_eq_zero_of_not_mem fun h => hm (by have := ord_range hd hb m h; omega), List.count_eq_zero_of_not_mem fun h => hm (mem_upto.1 h)]
   ·rw [List.count_eq_zero_of_not_mem, List.count_eq_zero_of_not_mem]
    ·intro h; have := (List.mem_filter.1 h).2; exact hx (by simpa using this)
    ·intro h; have := (List.mem_filter.1 h).2; exact hx (by simpa using this)
  have h4 : ((ord N kids body).flatMap (both kids)).count x = ((upto N).flatMap (both kids)).count x := by
   rw [count_flat_sub, count_flat_sub (l := upto N)]
   exact (hp.flatMap_right _).count_eq x
  omega

theorem ord_len {N : Nat} {kids : Int → List Int × List Int} (hd : downB N kids) {body : List Int} (hb : inB N 0 body) (ha : ∀ x : Int, 0 ≤ x → x < N → (allB N kids body).count x = 1) : (ord N kids body).Perm (upto N) := by
 rw [List.perm_iff_count]
 intro x
 by_cases hx : 0 ≤ x ∧ x < N
 ·rw [ord_once hd hb ha N x hx.2 hx.1 hx.2, count_upto hx.1 hx.2]
 ·rw [List.count_eq_zero_of_not_mem fun h => hx (by have := ord_range hd hb x h; omega), List.count_eq_zero_of_not_mem fun h => hx (mem_upto.1 h)]

end Go.Proofs.YtimpganophnehaaGreat
