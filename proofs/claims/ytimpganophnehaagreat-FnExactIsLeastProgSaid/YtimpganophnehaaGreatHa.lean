/- The walk of how the program drops a statement. -/
import Derived.Test.YtimpganophnehaaGreatGz
import Derived.Test.YtimpganophnehaaGreatGq
import Derived.Test.YtimpganophnehaaGreatGf
import Derived.Test.YtimpganophnehaaGreatGea
import Derived.Test.YtimpganophnehaaGreatFr
import Derived.Test.YtimpganophnehaaGreatFp
import Derived.Test.YtimpganophnehaaGreatMd
set_option linter.unusedVariables false
set_option linter.unusedSimpArgs false
set_option maxRecDepth 10000
set_option maxHeartbeats 1000000
namespace Go.Proofs.YtimpganophnehaaGreat
open Go.Eng

theorem flat_atv {α β : Type} {f : α → List β} {n : Nat} : ∀ {xs : List α}, (∀ x, x ∈ xs → (f x).length = n) → ∀ {i : Nat} (hi : i < xs.length) {j : Nat}, j < n → (xs.flatMap f)[i * n + j]? = (f xs[i])[j]?
 | [], _, i, hi, _, _ => by simp at hi
 | x :: xs, hw, 0, _, j, hj => by
  rw [List.flatMap_cons, Nat.zero_mul, Nat.zero_add, List.getElem?_append_left (by rw [hw x (by simp)]; exact hj)]
  rfl
 | x :: xs, hw, i + 1, hi, j, hj => by
  have hx := hw x (by simp)
  rw [List.flatMap_cons, List.getElem?_append_right (by rw [hx, Nat.succ_mul]; omega), hx, Nat.succ_mul, show i * n + n + j - n = i * n + j from by omega]
  simpa using flat_atv (fun y hy => hw y (by simp [hy])) (by simpa using hi) hj

def toldS (C : List (Stmt × List Value)) : List T := C.map fun c => .agg (c.2.map T.v)
theorem toldS_flat (C : List (Stmt × List Value)) : (toldS C).flatMap T.cells = (C.flatMap (·.2)).map T.v := by
 unfold toldS; rw [List.flatMap_map, List.map_flatMap]; rfl
theorem toldS_cells {C : List (Stmt × List Value)} (h : ∀ c, c ∈ C → c.2.length = 5) : ∀ y, y ∈ toldS C → (T.cells y).length = 5 := by
 intro y hy
 obtain ⟨c, hc, rfl⟩ := List.mem_map.1 hy
 show (c.2.map T.v).length = 5
 rw [List.length_map, h c hc]
def doneS (s : Int) (g : Nat) (c : Stmt × List Value) : T := .agg [.v (c.2.getD 0 undef), .v (c.2.getD 1 undef), .v (c.2.getD 2 undef), T.ints (leftI s g c.1.thn), T.ints (leftI s g c.1.els)]
def mixS (s : Int) (g : Nat) (C : List (Stmt × List Value)) (k : Nat) : List T := (C.take k).map (doneS s g) ++ toldS (C.drop k)
theorem mixS_len (s : Int) (g : Nat) (C : List (Stmt × List Value)) (k : Nat) : (mixS s g C k).length = C.length := by simp [mixS, toldS]; omega
theorem mixS_zero (s : Int) (g : Nat) (C : List (Stmt × List Value)) : mixS s g C 0 = toldS C := by simp [mixS]
theorem mixS_end (s : Int) (g : Nat) (C : List (Stmt × List Value)) {k : Nat} (h : C.length ≤ k) : mixS s g C k = C.map (doneS s g) := by
 simp [mixS, List.take_of_length_le h, List.drop_eq_nil_of_le h, toldS]
theorem mixS_at (s : Int) (g : Nat) (C : List (Stmt × List Value)) {k : Nat} (h : k < C.length) : (mixS s g C k)[k]? = some (.agg ((C[k]).2.map T.v)) := by
 rw [mixS, List.getElem?_append_right (by simp; omega)]
 simp [Nat.min_eq_left (Nat.le_of_lt h), List.getElem?_eq_getElem h, toldS]
theorem mixS_set (s : Int) (g : Nat) (C : List (Stmt × List Value)) {k : Nat} (h : k < C.length) : (mixS s g C k).set k (doneS s g C[k]) = mixS s g C (k + 1) := by
 have e : C.drop k = C[k] :: C.drop (k + 1) := List.drop_eq_getElem_cons h
 rw [mixS, mixS, e, List.set_append_right _ _ (by simp; omega)]
 simp only [List.length_map, List.length_take, Nat.min_eq_left (Nat.le_of_lt h), Nat.sub_self, toldS, List.map_cons, List.set_cons_zero]
 rw [List.take_succ_eq_append_getElem h, List.map_append]
 simp
theorem leftG_nil (b : List Int) : leftG [] b = b := by
 unfold leftG
 rw [List.filter_eq_self.2 (by simp)]
 conv => rhs; rw [← List.map_id b]
 exact List.map_congr_left fun n _ => by simp [lessN]
theorem pickC_true {β : Type} {q : Int → Bool} (h : ∀ x, q x = true) : ∀ (i : Int) (l : List β), pickC q i l = l
 | _, [] => rfl
 | i, x :: l => by rw [pickC, if_pos (h i), pickC_true h]
theorem leftF_nil (f : Func) : leftF [] f = f := by
 have h1 : leftS [] = id := by
  funext s
  unfold leftS
  rw [leftG_nil, leftG_nil]; rfl
 unfold leftF
 rw [leftG_nil, pickC_true (by simp [wantG]), h1, List.map_id]
theorem pickC_cut {β : Type} (m : Nat) : ∀ (i : Int) (l : List β) (s : Int) (g : Nat), s = i + m → pickC (wantG (run s g)) i l = l.take m ++ l.drop (m + g) := by
 intro i l s g h
 induction m generalizing i l with
 | zero =>
  have hs : s = i := by omega
  subst hs
  rw [List.take_zero, List.nil_append, Nat.zero_add]
  clear h
  induction g generalizing s l with
  | zero => rw [pickC_true (by simp [wantG, run]), List.drop_zero]
  | succ g ih =>
   cases l with
   | nil => rfl
   | cons x l =>
    rw [pickC, if_neg (by simp [wantG, mem_run]; omega), List.drop_succ_cons]
    have hw : ∀ (j : Int) (l : List β), s + 1 ≤ j → pickC (wantG (run s (g + 1))) j l = pickC (wantG (run (s + 1) g)) j l := by
     intro j l
     induction l generalizing j with
     | nil => intro _; rfl
     | cons y l ih2 =>
      intro hj
      have e : wantG (run s (g + 1)) j = wantG (run (s + 1) g) j := by
       unfold wantG
       congr 1
       rw [decide_eq_decide, mem_run, mem_run]
       omega
      rw [pickC, pickC, e, ih2 (j + 1) (by omega)]
    rw [hw _ _ (by omega)]
    exact ih (s + 1) l
 | succ m ih =>
  cases l with
  | nil => simp [pickC]
  | cons x l =>
   rw [pickC, if_pos (by simp [wantG, mem_run]; omega), ih (i + 1) l (by omega), List.take_succ_cons, show m + 1 + g = (m + g) + 1 from by omega, List.drop_succ_cons]
   rfl
theorem leftF_run (f : Func) {s : Int} {g : Nat} (h0 : 0 ≤ s) : leftF (run s g) f = ⟨f.params, f.vars, leftI s g f.body, (f.stmts.take s.toNat ++ f.stmts.drop (s.toNat + g)).map fun x => ⟨x.kind, x.n, x.ex, leftI s g x.thn, leftI s g x.els⟩⟩ := by
 unfold leftF
 rw [pickC_cut s.toNat 0 f.stmts s g (by omega), leftI_eq]
 congr 1
 refine List.map_congr_left fun x _ => ?_
 unfold leftS
 rw [leftI_eq, leftI_eq]
theorem dropP_eq (p : Prog) {fn s : Int} {g : Nat} (hf0 : 0 ≤ fn) (hf1 : fn < p.funcs.length) (hr : ordF (funcAt p fn) [s] = run s g) : (dropP p fn s).funcs = p.funcs.set fn.toNat (leftF (run s g) (funcAt p fn)) := by
 unfold dropP
 refine List.ext_getElem (by simp) fun i h1 h2 => ?_
 rw [List.getElem_map, List.getElem_range, List.getElem_set]
 by_cases h : fn.toNat = i
 ·subst h
  rw [if_pos rfl, show ((fn.toNat : Nat) : Int) = fn from by omega, goneK, if_pos rfl, hr]
 ·rw [if_neg h, goneK, if_neg (by omega), leftF_nil]
  exact (funcAt_at (n := (i : Int)) (by simp at h1; omega)).symm

theorem flat_takev {α β : Type} {f : α → List β} {n : Nat} : ∀ {xs : List α}, (∀ x, x ∈ xs → (f x).length = n) → ∀ (m : Nat), (xs.flatMap f).take (m * n) = (xs.take m).flatMap f ∧ (xs.flatMap f).drop (m * n) = (xs.drop m).flatMap f
 | [], _, m => by simp
 | x :: xs, hw, 0 => by simp
 | x :: xs, hw, m + 1 => by
  have hx := hw x (by simp)
  obtain ⟨h1, h2⟩ := flat_takev (xs := xs) (fun y hy => hw y (List.mem_cons_of_mem _ hy)) m
  rw [List.flatMap_cons, List.take_succ_cons, List.drop_succ_cons, List.flatMap_cons, Nat.succ_mul, List.take_append, List.drop_append, hx]
  rw [List.take_of_length_le (by omega), List.drop_eq_nil_of_le (by omega), show m * n + n - n = m * n from by omega, h1, h2]
  simp
theorem Le.eqM {c : Ctx} {s : St} {id : Nat} {k k' : Blk} (h1 : lookM s.M id = some k) (h : k = k') : Le c s ⟨s.fr, (id, k') :: s.M⟩ := by
 subst h
 refine Le.of (fun t => .inl rfl) (fun i => .inl ?_)
 simp only [lookM]
 split
 ·rename_i e; subst e; exact h1.symm
 ·rfl
theorem mixS_mix {s : Int} {g : Nat} {K : List (Stmt × List Value)} (h : ∀ c, c ∈ K → c.2.length = 5) :
  Mix (K.flatMap (·.2)) ((K.map (·.1)).flatMap fun x => T.cells (Stmt.tt x)) ((K.map (doneS s g)).flatMap T.cells) ((((K.map (·.1)).map fun x : Stmt => (⟨x.kind, x.n, x.ex, leftI s g x.thn, leftI s g x.els⟩ : Stmt)).map Stmt.tt).flatMap T.cells) := by
 simp only [List.flatMap_map, List.map_map]
 refine Mix.flat (f := fun c : Stmt × List Value => c.2) fun c hc => ?_
 obtain ⟨x, l⟩ := c
 have hl := h _ hc
 match l, hl with
 | [w0, w1, w2, w3, w4], _ => exact .claim (.claim (.claim (.keep (.keep .nil))))
theorem mixF_all : ∀ {C : List (Func × List Value)}, (∀ c, c ∈ C → c.2.length = 4) → Mix (C.flatMap (·.2)) (((C.map (·.1)).map Func.tt).flatMap T.cells) ((toldF C).flatMap T.cells) (((C.map (·.1)).map Func.tt).flatMap T.cells)
 | C, h => by
  unfold toldF
  simp only [List.flatMap_map, List.map_map]
  refine Mix.flat (f := fun c : Func × List Value => c.2) fun c hc => ?_
  obtain ⟨x, l⟩ := c
  have hl := h _ hc
  match l, hl with
  | [w0, w1, w2, w3], _ => exact .claim (.claim (.claim (.claim .nil)))
theorem mixF_one {y e2 e3 : T} {v0 v1 v2 v3 : Value} : ∀ {C : List (Func × List Value)}, (∀ c, c ∈ C → c.2.length = 4) → ∀ {i : Nat} (hi : i < C.length), (C[i]).2 = [v0, v1, v2, v3] → T.v v0 = T.int (C[i]).1.params → T.v v1 = T.int (C[i]).1.vars →
  Mix (C.flatMap (·.2)) ((((C.map (·.1)).map Func.tt).flatMap T.cells).set (i * 4 + 3) y) (((toldF C).set i (.agg [.v v0, .v v1, e2, e3])).flatMap T.cells) ((((C.map (·.1)).map Func.tt).set i (.agg [T.v v0, T.v v1, e2, e3])).flatMap T.cells)
 | [], _, i, hi, _, _, _ => by simp at hi
 | c :: C, h, 0, _, hv, h0, h1 => by
  obtain ⟨x, l⟩ := c
  have hl : l = [v0, v1, v2, v3] := hv
  subst hl
  have hr := mixF_all (C := C) fun d hd => h d (List.mem_cons_of_mem _ hd)
  have e : ((((⟨x, [v0, v1, v2, v3]⟩ :: C : List (Func × List Value)).map (·.1)).map Func.tt).flatMap T.cells).set (0 * 4 + 3) y = [T.v v0, T.v v1, T.ints x.body, y] ++ ((C.map (·.1)).map Func.tt).flatMap T.cells := by
   have h0' : T.int x.params = T.v v0 := h0.symm
   have h1' : T.int x.vars = T.v v1 := h1.symm
   show ([T.int x.params, T.int x.vars, T.ints x.body, T.Stmts x.stmts] ++ ((C.map (·.1)).map Func.tt).flatMap T.cells).set 3 y = _
   rw [h0', h1']; rfl
  rw [e]
  exact Mix.app (vs := [v0, v1, v2, v3]) (ts := [T.v v0, T.v v1, T.ints x.body, y]) (ys := [.v v0, .v v1, e2, e3]) (xs := [T.v v0, T.v v1, e2, e3]) (.claim (.claim (.keep (.keep .nil)))) hr
 | c :: C, h, i + 1, hi, hv, h0, h1 => by
  obtain ⟨x, l⟩ := c
  have hl := h _ (List.mem_cons_self ..)
  have hr := mixF_one (y := y) (e2 := e2) (e3 := e3) (C := C) (fun d hd => h d (List.mem_cons_of_mem _ hd)) (i := i) (by simpa using hi) (by simpa using hv) (by simpa using h0) (by simpa using h1)
  match l, hl with
  | [w0, w1, w2, w3], _ =>
   have e : ((((⟨x, [w0, w1, w2, w3]⟩ :: C : List (Func × List Value)).map (·.1)).map Func.tt).flatMap T.cells).set ((i + 1) * 4 + 3) y = T.cells x.tt ++ (((C.map (·.1)).map Func.tt).flatMap T.cells).set (i * 4 + 3) y := by
    have hx : (T.cells x.tt).length = 4 := rfl
    simp only [List.map_cons, List.flatMap_cons]
    rw [List.set_append_right _ _ (by rw [hx]; omega), hx, show (i + 1) * 4 + 3 - 4 = i * 4 + 3 from by omega]
   rw [e]
   exact Mix.app (vs := [w0, w1, w2, w3]) (ts := T.cells x.tt) (ys := [.v w0, .v w1, .v w2, .v w3]) (xs := T.cells x.tt) (.claim (.claim (.claim (.claim .nil)))) hr

end Go.Proofs.YtimpganophnehaaGreat
