/- What is asked of images, in plain words; heights: the least that fit, however they are found. -/
import Derived.Test.YtafjkelehnpfcaaDoorKa
import Derived.Test.YtafjkelehnpfcaaDoorFe
set_option linter.unusedVariables false
set_option linter.unusedSimpArgs false
set_option maxRecDepth 10000
set_option maxHeartbeats 1000000
namespace Go.Proofs.YtafjkelehnpfcaaDoor
open Go.Eng

def hasNB (op : Int) : Bool := decide (op = 1 ∨ op = 2 ∨ op = 3 ∨ op = 4 ∨ op = 7 ∨ op = 10 ∨ op = 11 ∨ op = 12 ∨ op = 17)
def insB (i : Ins) : Bool :=
  if i.op = 1 then decide (-2147483648 ≤ i.n ∧ i.n ≤ 2147483647) else if i.op = 4 then decide (3 ≤ i.n ∧ i.n ≤ 8)
  else if hasNB i.op then decide (0 ≤ i.n ∧ i.n ≤ 1000000) else decide (1 ≤ i.op ∧ i.op ≤ 18) && decide (i.n = 0)
def sizedC (c : Code) : Bool := decide (0 ≤ c.params ∧ c.params ≤ 2) && decide (c.params ≤ c.vars ∧ c.vars ≤ 6) && decide (c.sites.length ≤ 4) && decide (1 ≤ c.ins.length ∧ c.ins.length ≤ 300) && decide (c.rows.length ≤ 300) && c.ins.all insB
def sizedX (x : Image) : Bool := decide (1 ≤ x.codes.length ∧ x.codes.length ≤ 5) && x.codes.all sizedC

def insAt (c : Code) (k : Int) : Ins := (c.ins[k.toNat]?).getD ⟨0, 0⟩
def nextX (i : Ins) (at' : Int) : List Int :=
  if i.op = 10 then [i.n] else if i.op = 11 then (if at' + 1 < i.n then [at' + 1, i.n] else if at' + 1 = i.n then [at' + 1] else [i.n, at' + 1])
  else if i.op = 13 ∨ i.op = 14 ∨ i.op = 16 ∨ i.op = 18 then [] else [at' + 1]

def namedI (x : Image) (c : Code) (i : Ins) : Bool :=
  if i.op = 2 ∨ i.op = 3 then decide (i.n < c.vars) else if i.op = 12 ∨ i.op = 17 then decide (i.n < c.sites.length) else if i.op = 7 then decide (i.n < x.codes.length) else true
def namedB (x : Image) (c : Code) : Bool := c.ins.all (namedI x c)
def goesGo (N : Int) : List Ins → Int → Bool
  | [], _ => true
  | i :: l, k => (nextX i k).all (fun n => decide (n < N)) && goesGo N l (k + 1)
def goesB (c : Code) : Bool := goesGo c.ins.length c.ins 0
def rowsGo (many : Int) : List Row → Int → Bool
  | [], _ => true
  | r :: l, k => decide (k ≤ r.lo) && (decide (r.lo < r.hi) && (decide (r.hi ≤ many) && (decide (0 ≤ r.pad ∧ r.pad < many) && rowsGo many l r.hi)))
def rowsB (rows : List Row) (many : Int) : Bool := rowsGo many rows 0
theorem insAt_at {c : Code} {k : Int} (h0 : 0 ≤ k) (h1 : k < c.ins.length) : insAt c k = c.ins[k.toNat]'(by omega) := by
  rw [insAt, List.getElem?_eq_getElem (by omega)]; rfl
theorem insB_n {i : Ins} (h : insB i = true) : -2147483648 ≤ i.n ∧ i.n ≤ 2147483647 ∧ (i.op ≠ 1 → 0 ≤ i.n ∧ i.n ≤ 1000000) := by
  unfold insB at h
  split at h
  · rename_i h1
    have := of_decide_eq_true h
    exact ⟨this.1, this.2, fun h => absurd h1 h⟩
  · split at h
    · have := of_decide_eq_true h; exact ⟨by omega, by omega, fun _ => by omega⟩
    · split at h
      · have := of_decide_eq_true h; exact ⟨by omega, by omega, fun _ => by omega⟩
      · rw [Bool.and_eq_true, decide_eq_true_eq, decide_eq_true_eq] at h
        exact ⟨by omega, by omega, fun _ => by omega⟩
theorem nextX_nn {i : Ins} (h : insB i = true) {k : Int} (hk : 0 ≤ k) : ∀ n, n ∈ nextX i k → 0 ≤ n := by
  have hn := (insB_n h).2.2
  intro n hm
  unfold nextX at hm
  split at hm
  · rename_i h1; rw [List.mem_singleton] at hm; have := hn (by omega); omega
  · split at hm
    · rename_i h1
      have := hn (by omega)
      split at hm
      · simp at hm; omega
      · split at hm
        · simp at hm; omega
        · simp at hm; omega
    · split at hm
      · simp at hm
      · simp at hm; omega
/-! ### Heights -/

open Classical in
section
variable {x : Image} {c : Code} {h open' done : List Int} {k0 n : Int}
end

open Classical in
section
variable {x : Image} {c : Code} {h : List Int}
open Classical in
end
/-- What a code is known to be where its heights are looked for. -/
structure RdyX (x : Image) (c : Code) : Prop where
  xl : x.codes.length ≤ 5
  par : ∀ d, d ∈ x.codes → 0 ≤ d.params ∧ d.params ≤ 2
  n1 : 1 ≤ c.ins.length
  n2 : c.ins.length ≤ 300
  rl : c.rows.length ≤ 300
  ins : ∀ i, i ∈ c.ins → insB i = true
  call : ∀ i, i ∈ c.ins → i.op = 7 → 0 ≤ i.n ∧ i.n < x.codes.length
  next : ∀ k : Int, 0 ≤ k → k < c.ins.length → ∀ n, n ∈ nextX (insAt c k) k → 0 ≤ n ∧ n < c.ins.length
  pads : ∀ r, r ∈ c.rows → 0 ≤ r.pad ∧ r.pad < c.ins.length
  his : ∀ r, r ∈ c.rows → 0 ≤ r.hi ∧ r.hi ≤ c.ins.length
theorem goes_at {N : Int} : ∀ {l : List Ins} {k : Int}, goesGo N l k = true → ∀ j (hj : j < l.length), ∀ n, n ∈ nextX (l[j]) (k + j) → n < N
  | [], _, _, j, hj, _, _ => by simp at hj
  | i :: l, k, h, 0, _, n, hn => by
    rw [goesGo, Bool.and_eq_true, List.all_eq_true] at h
    have := h.1 n (by simpa using hn)
    exact of_decide_eq_true this
  | i :: l, k, h, j + 1, hj, n, hn => by
    rw [goesGo, Bool.and_eq_true] at h
    refine goes_at h.2 j (by simpa using hj) n ?_
    rw [List.getElem_cons_succ] at hn
    rw [show k + 1 + (j : Int) = k + ((j + 1 : Nat) : Int) from by omega]
    exact hn
theorem rows_at {many : Int} : ∀ {l : List Row} {k : Int}, 0 ≤ k → rowsGo many l k = true → ∀ r, r ∈ l → 0 ≤ r.lo ∧ r.lo < r.hi ∧ r.hi ≤ many ∧ 0 ≤ r.pad ∧ r.pad < many
  | [], _, _, _, r, hr => by cases hr
  | r0 :: l, k, hk, h, r, hr => by
    rw [rowsGo] at h
    simp only [Bool.and_eq_true, decide_eq_true_eq] at h
    rcases List.mem_cons.1 hr with rfl | hr
    · omega
    · exact rows_at (by omega) h.2.2.2.2 r hr
theorem sizedC_of {c : Code} (h : sizedC c = true) : (0 ≤ c.params ∧ c.params ≤ 2) ∧ (c.params ≤ c.vars ∧ c.vars ≤ 6) ∧ c.sites.length ≤ 4 ∧ (1 ≤ c.ins.length ∧ c.ins.length ≤ 300) ∧ c.rows.length ≤ 300 ∧ ∀ i, i ∈ c.ins → insB i = true := by
  unfold sizedC at h
  simp only [Bool.and_eq_true, decide_eq_true_eq, List.all_eq_true] at h
  obtain ⟨⟨⟨⟨⟨a, b⟩, d⟩, e⟩, f⟩, g⟩ := h
  exact ⟨a, b, d, e, f, g⟩
theorem sizedX_of {x : Image} (h : sizedX x = true) : (1 ≤ x.codes.length ∧ x.codes.length ≤ 5) ∧ ∀ c, c ∈ x.codes → sizedC c = true := by
  unfold sizedX at h
  simp only [Bool.and_eq_true, decide_eq_true_eq, List.all_eq_true] at h
  exact h
theorem ready {x : Image} {c : Code} (hx : sizedX x = true) (hc : c ∈ x.codes) (h1 : namedB x c = true) (h3 : goesB c = true) (h4 : rowsB c.rows c.ins.length = true) : RdyX x c := by
  obtain ⟨a1, a2⟩ := sizedX_of hx
  obtain ⟨b1, b2, b3, b4, b5, b6⟩ := sizedC_of (a2 c hc)
  unfold namedB at h1
  rw [List.all_eq_true] at h1
  refine ⟨a1.2, fun d hd => (sizedC_of (a2 d hd)).1, b4.1, b4.2, b5, b6, fun i hi h7 => ?_, fun k h0 h1' n hn => ?_, fun r hr => ?_, fun r hr => ?_⟩
  · have := h1 i hi
    unfold namedI at this
    rw [if_neg (by omega), if_neg (by omega), if_pos h7] at this
    have g := (insB_n (b6 i hi)).2.2 (by omega)
    exact ⟨g.1, of_decide_eq_true this⟩
  · rw [insAt_at h0 h1'] at hn
    have g := goes_at h3 k.toNat (by omega) n (by rw [show (0 : Int) + (k.toNat : Nat) = k from by omega]; exact hn)
    exact ⟨nextX_nn (b6 _ (List.getElem_mem _)) h0 n hn, g⟩
  · have := rows_at (by omega) h4 r hr; omega
  · have := rows_at (by omega) h4 r hr; omega

end Go.Proofs.YtafjkelehnpfcaaDoor
