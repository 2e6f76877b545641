/- Walks and laws of the claim. -/
import Derived.Test.YtpgodgmgfhbngaaTy
import Derived.Test.YtpgodgmgfhbngaaRows
import Derived.Test.YtpgodgmgfhbngaaMb
import Derived.Test.YtpgodgmgfhbngaaRows
set_option linter.unusedVariables false
set_option linter.unusedSimpArgs false
set_option maxRecDepth 10000
set_option maxHeartbeats 2000000
namespace Go.Proofs.Ytpgodgmgfhbngaa
open Go.Eng
open Go.Eng
theorem l1In_fun (n lo hi : Int) : Fun Try.prog 56 [.t (.int n), .t (.int lo), .t (.int hi)] (tupD [.t (.bool (decide (lo ≤ n ∧ n ≤ hi)))]) := by
 refine Fun.begin tys Try.func56 Z Z (N := 15) [(0, .t (.int n)), (1, .t (.int lo)), (2, .t (.int hi))] Z Z (fun w0 G F0 => ?_)
 refine sQ (rG (eZ Z (oN (tN (sQ (rG (eK 4 Z ?_)))))))
 refine WO_guard Z Z Z Z (lt_of Z) (fun h1 => ?_) (fun h1 => ?_)
 rotate_left
 ·
  simp only [HS] at h1
  refine gM Z (gM Z (eK 2 Z (kZ [6] Z (oN (tN (rT (eR ?_)))))))
  ·(simp_all <;> omega)
 simp only [HS] at h1
 refine eZ Z (gY Z (eZ Z (gY Z (eK 2 Z (kZ [6,14] Z (eZ Z (oN (tN (rT (eR ?_))))))))))
 ·(simp_all <;> omega)
theorem within_fun (n lo hi : Int) : Fun Try.prog 35 [.t (.int n), .t (.int lo), .t (.int hi)] (tupD [.t (.bool (decide (lo ≤ n ∧ n ≤ hi)))]) := by
 refine Fun.begin tys Try.func35 Z Z (N := 15) [(0, .t (.int n)), (1, .t (.int lo)), (2, .t (.int hi))] Z Z (fun w0 G F0 => ?_)
 refine sQ (rG (eZ Z (oN (tN (sQ (rG (eK 4 Z ?_)))))))
 refine WO_guard Z Z Z Z (lt_of Z) (fun h1 => ?_) (fun h1 => ?_)
 rotate_left
 ·
  simp only [HS] at h1
  refine gM Z (gM Z (eK 2 Z (kZ [6] Z (oN (tN (rT (eR ?_)))))))
  ·(simp_all <;> omega)
 simp only [HS] at h1
 refine eZ Z (gY Z (eZ Z (gY Z (eK 2 Z (kZ [6,14] Z (eZ Z (oN (tN (rT (eR ?_))))))))))
 ·(simp_all <;> omega)
def allIn (l : List Int) (lo hi : Int) : Bool := l.all fun n => decide (lo ≤ n ∧ n ≤ hi)
theorem allIn_step {l : List Int} {lo hi k : Int} (h0 : 0 ≤ k) (h1 : k < l.length) (h : allIn (l.take k.toNat) lo hi = true) (h2 : lo ≤ l[k.toNat]'(by omega) ∧ l[k.toNat]'(by omega) ≤ hi) : allIn (l.take (k + 1).toNat) lo hi = true := by
 rw [show (k + 1).toNat = k.toNat + 1 from by omega, List.take_add_one, List.getElem?_eq_getElem (by omega)]
 unfold allIn at *
 rw [List.all_append, h]
 simpa using h2
theorem allIn_no {l : List Int} {lo hi k : Int} (h0 : 0 ≤ k) (h1 : k < l.length) (h2 : ¬ (lo ≤ l[k.toNat]'(by omega) ∧ l[k.toNat]'(by omega) ≤ hi)) : allIn l lo hi = false := by
 unfold allIn
 rw [List.all_eq_false]
 exact ⟨l[k.toNat]'(by omega), List.getElem_mem _, by simpa using h2⟩
theorem allIn_yes {l : List Int} {lo hi k : Int} (h : allIn (l.take k.toNat) lo hi = true) (h0 : 0 ≤ k) (h1 : (l.length : Int) ≤ k) : allIn l lo hi = true := by
 rwa [List.take_of_length_le (by omega)] at h
theorem l1All_fun (l : List Int) (lo hi : Int) (hl : l.length ≤ 1073741824) : Fun Try.prog 38 [.t (T.ints l), .t (.int lo), .t (.int hi)] (tupD [.t (.bool (allIn l lo hi))]) := by
 refine Fun.begin tys Try.func38 Z Z (N := 21) [(0, .t (T.ints l)), (1, .t (.int lo)), (2, .t (.int hi))] Z Z (fun w0 G F0 => ?_)
 refine sQ (rG (eZ Z (oN (tN (sQ (sQ (rG (eZ Z (evE ?_)))))))))
 refine eZ Z (oN (tN (W_block ?_)))
 refine lK (α := Int) [9, 10, 1, 2] [] (fun x => [(11, .t (.int x))]) (fun x => []) (fun x => 0 ≤ x ∧ x ≤ l.length ∧ allIn (l.take x.toNat) lo hi = true) (fun x => Int.toNat (l.length - x)) 0 ?_ (fun k hx => ?_)
 ·refine ⟨?_, ?_, ?_⟩ <;> simp [allIn]
 obtain ⟨hk0, hk1, hk2⟩ := hx
 refine nY Z (sQ (rG (eZ Z (oN (tN (sQ ?_))))))
 refine W_cond Z (fun h1 => ?_) (fun h1 => ?_)
 ·
  simp only [HS] at h1
  refine W_skip (tN (sQ (W_block (sQ (rG (WO_idxT tys Z Z (lt_of Z) Z Z Z Z Z Z Z (by omega) _ (getT _ _ (by omega) (by omega)) (eK 2 Z (oN (tN (sQ (rG (eK 3 Z (callB ?_)))))))))))))
  refine ⟨_, l1In_fun _ _ _, rfl, ?_⟩
  refine eZ Z (kZ [1,2,8,9,10,11,12,13,14,15,16,17,18,19] Z (oN (tN ?_)))
  refine W_cond Z (fun h2 => ?_) (fun h2 => ?_)
  ·
   simp only [HS] at h2
   refine sQ (rG (eZ Z (oN (tN (rT (bR (tR (loopQ_r (bR (tR (eR ?_)))))))))))
   ·rw [allIn_no hk0 (by omega) (by simpa using h2)]
  simp only [HS] at h2
  refine W_skip (bN (tN (rG (evI ?_))))
  refine eZ Z (oN ?_)
  refine lQ _ ?_ ?_
  ·skip
   exact ⟨by omega, by omega, allIn_step hk0 (by omega) hk2 (by simpa using h2)⟩
  ·(show Int.toNat _ < Int.toNat _); omega
 simp only [HS] at h1
 refine W_exit (tE (loopQ_e (inBlk_y (tN (sQ (rG (eZ Z (oN (tN (rT (eR ?_)))))))))))
 ·rw [allIn_yes hk2 hk0 (by omega)]
open Go.Eng
theorem drop_at {α : Type} {l : List α} {k : Int} (h0 : 0 ≤ k) (h1 : k < l.length) : l.drop k.toNat = l[k.toNat]'(by omega) :: l.drop (k + 1).toNat := by
 rw [show (k + 1).toNat = k.toNat + 1 from by omega]
 exact List.drop_eq_getElem_cons (by omega)
theorem drop_end {α : Type} {l : List α} {k : Int} (h1 : (l.length : Int) ≤ k) : l.drop k.toNat = [] := List.drop_of_length_le (by omega)
abbrev intss (l : List (List Int)) : T := .list 1 (l.map T.ints)
def idxGo {α : Type} (p : α → Bool) : List α → Int → Int
 | [], _ => -1
 | x :: xs, k => if p x then k else idxGo p xs (k + 1)
theorem idxGo_any {α : Type} {p : α → Bool} : ∀ {l : List α} {k : Int}, 0 ≤ k → decide (0 ≤ idxGo p l k) = l.any p
 | [], _, _ => rfl
 | x :: l, k, h => by
  rw [idxGo, List.any_cons]
  cases hp : p x
  ·simpa using idxGo_any (l := l) (k := k + 1) (by omega)
  ·simpa using h
theorem idx_at {α : Type} {p : α → Bool} {l : List α} {k : Int} (h0 : 0 ≤ k) (h1 : k < l.length) : idxGo p (l.drop k.toNat) k = if p (l[k.toNat]'(by omega)) then k else idxGo p (l.drop (k + 1).toNat) (k + 1) := by
 rw [drop_at h0 h1, idxGo]
theorem idxS_fun (l : List Int) (p : Int → Bool) (f : Nat) (caps : List D) (hcaps : caps.all D.imm = true) (hl : l.length ≤ 9223372036854775807) (hf : ∀ x, x ∈ l → Fun Try.prog f (.t (T.int x) :: caps) (.t (.bool (p x)))) : Fun Try.prog 77 [.t (T.ints l), .clo f caps] (tupD [.t (.int (idxGo p l 0))]) := by
 refine Fun.begin tys Try.func77 Z Z (N := 19) [(0, .t (T.ints l)), (1, .clo f caps)] Z Z (fun w0 G F0 => ?_)
 refine sQ (rG (eZ Z (oN (tN (sQ (sQ (rG (eZ Z (evE ?_)))))))))
 refine eZ Z (oN (tN (W_block ?_)))
 refine lK (α := Int) [0, 1, 7] [] (fun x => [(8, .t (.int x))]) (fun x => []) (fun x => 0 ≤ x ∧ x ≤ l.length ∧ idxGo p l 0 = idxGo p (l.drop x.toNat) x) (fun x => Int.toNat (l.length - x)) 0 ?_ (fun k hx => ?_)
 ·exact ⟨by omega, by omega, rfl⟩
 obtain ⟨hk0, hk1, hk2⟩ := hx
 refine nY Z (sQ (rG (eZ Z (oN (tN (sQ ?_))))))
 refine W_cond Z (fun h1 => ?_) (fun h1 => ?_)
 ·
  simp only [HS] at h1
  refine W_skip (tN (sQ (W_block (sQ (rG (eK 2 Z (oN (tN (sQ (rG (WO_moveClo tys Z Z (lt_of Z) Z Z (by assumption) ?_)))))))))))
  refine eK 2 Z (WO_idxT tys Z Z (lt_of Z) Z Z Z Z Z Z Z (by omega) _ (getT _ _ (by omega) (by omega)) (eZ Z ?_))
  refine WO_call Z Z (lt_of Z) Z Z (by repeat (first | exact ResL.done | exact ResL.imms (by first | rfl | assumption) | refine ResL.t ?_ | refine ResL.own ?_ | refine ResL.slA Z (by first | rfl | (simp; done) | (simp; omega)) ?_ | refine ResL.sl Z (by first | omega | (simp; done) | (simp; omega)) ?_ | refine ResL.rp ?_ | refine ResL.clo ?_ ?_ | refine ResL.aggT ?_ ?_ | refine ResL.ref Z ?_ ?_ | refine ResL.nil' ?_ | refine ResL.nil 1 ?_)) (hf _ (List.getElem_mem _)) Z ?_
  refine kZ [0,1,5,7,8,9,10,11,12,13,14,15,16] Z (oN (tN ?_))
  refine W_cond Z (fun h2 => ?_) (fun h2 => ?_)
  ·
   refine sQ (rG (eK 2 Z (oN (tN (rT (bR (tR (loopQ_r (bR (tR (eR ?_)))))))))))
   ·rw [hk2, idx_at hk0 h1]
    simp [h2]
    done
  refine W_skip (bN (tN (rG (evI ?_))))
  refine eZ Z (oN ?_)
  refine lQ _ ?_ ?_
  ·skip
   refine ⟨by omega, by omega, ?_⟩; rw [hk2, idx_at hk0 h1]; simp [h2]
  ·(show Int.toNat _ < Int.toNat _); omega
 simp only [HS] at h1
 refine W_exit (tE (loopQ_e (inBlk_y (tN (sQ (rG (eZ Z (oN (tN (rT (eR ?_)))))))))))
 ·rw [hk2, drop_end h1]
  rfl
theorem hasS_fun (l : List Int) (p : Int → Bool) (f : Nat) (caps : List D) (hcaps : caps.all D.imm = true) (hl : l.length ≤ 9223372036854775807) (hf : ∀ x, x ∈ l → Fun Try.prog f (.t (T.int x) :: caps) (.t (.bool (p x)))) : Fun Try.prog 33 [.t (T.ints l), .clo f caps] (tupD [.t (.bool (l.any p))]) := by
 refine Fun.begin tys Try.func33 Z Z (N := 9) [(0, .t (T.ints l)), (1, .clo f caps)] Z Z (fun w0 G F0 => ?_)
 refine sQ (rG (eZ Z (oN (tN (sQ (rG (eZ Z (WO_moveClo tys Z Z (lt_of Z) Z Z (by assumption) ?_))))))))
 refine WO_call Z Z (lt_of Z) Z Z (by repeat (first | exact ResL.done | exact ResL.imms (by first | rfl | assumption) | refine ResL.t ?_ | refine ResL.own ?_ | refine ResL.slA Z (by first | rfl | (simp; done) | (simp; omega)) ?_ | refine ResL.sl Z (by first | omega | (simp; done) | (simp; omega)) ?_ | refine ResL.rp ?_ | refine ResL.clo ?_ ?_ | refine ResL.aggT ?_ ?_ | refine ResL.ref Z ?_ ?_ | refine ResL.nil' ?_ | refine ResL.nil 1 ?_)) (idxS_fun l p f caps hcaps hl hf) Z ?_
 refine eK 2 Z (oN (tN (rT (eR ?_))))
 ·rw [← idxGo_any (Int.le_refl 0)]
open Go.ChangeShapes Go.WideShapes Go.ChangeAt Go.RowKit Go.Eng
theorem Try.own : ownKnob Try.prog.godebug = none := by kernel_rfl
theorem Try.laidOut : laidOutB Try.prog = true := by kernel_rfl
open Go.Eng
def okN {α : Type} (B : Nat) (l : List α) : Prop := l.length ≤ B
def okL {α : Type} (B : Nat) (ok : α → Prop) (l : List α) : Prop := l.length ≤ B ∧ ∀ x, x ∈ l → ok x
theorem flat_at {α : Type} {l : List (List α)} {k : Int} (h0 : 0 ≤ k) (h1 : k < l.length) : (l.drop k.toNat).flatten = l[k.toNat]'(by omega) ++ (l.drop (k + 1).toNat).flatten := by
 rw [drop_at h0 h1, List.flatten_cons]
theorem take_at {α : Type} {l : List α} {k : Int} (h0 : 0 ≤ k) (h1 : k < l.length) : l.take (k + 1).toNat = l.take k.toNat ++ [l[k.toNat]'(by omega)] := by
 rw [show (k + 1).toNat = k.toNat + 1 from by omega, List.take_add_one, List.getElem?_eq_getElem (by omega)]
 rfl
theorem take_end {α : Type} {l : List α} {k : Int} (h1 : (l.length : Int) ≤ k) : l.take k.toNat = l := List.take_of_length_le (by omega)
theorem flat_take_at {α : Type} {l : List (List α)} {k : Int} (h0 : 0 ≤ k) (h1 : k < l.length) : (l.take (k + 1).toNat).flatten = (l.take k.toNat).flatten ++ l[k.toNat]'(by omega) := by
 rw [take_at h0 h1, List.flatten_append]; simp
theorem flat_take_len {α : Type} {l : List (List α)} (k : Nat) : (l.take k).flatten.length + (l.drop k).flatten.length = l.flatten.length := by
 rw [← List.length_append, ← List.flatten_append, List.take_append_drop]
open Go.Eng
abbrev T.bools (l : List Bool) : T := .list 1 (l.map T.bool)
inductive Act where
 | mk (kind chan n : Int) (cases : List Act)
def Act.kind : Act → Int | .mk k _ _ _ => k
def Act.chan : Act → Int | .mk _ c _ _ => c
def Act.n : Act → Int | .mk _ _ n _ => n
def Act.cases : Act → List Act | .mk _ _ _ l => l
theorem Act.eta (a : Act) : Act.mk a.kind a.chan a.n a.cases = a := by cases a; rfl
theorem Act.lt {a b : Act} (h : b ∈ a.cases) : SizeOf.sizeOf b < SizeOf.sizeOf a := by
 cases a with
 | mk k c n l => have := List.sizeOf_lt_of_mem h; simp [Act.cases] at this ⊢; omega
theorem Act.ind {p : Act → Prop} (h : ∀ a, (∀ b, b ∈ a.cases → p b) → p a) (a : Act) : p a := h a fun b hb => Act.ind h b
termination_by SizeOf.sizeOf a
decreasing_by exact Act.lt hb
mutual
def Act.toT : Act → T
 | .mk k c n l => .agg [T.int k, T.int c, T.int n, .list 4 (Act.toTs l)]
def Act.toTs : List Act → List T
 | [] => []
 | a :: l => Act.toT a :: Act.toTs l
end
theorem Act.toTs_eq : ∀ l, Act.toTs l = l.map Act.toT
 | [] => by simp [Act.toTs]
 | a :: l => by rw [Act.toTs, Act.toTs_eq l]; rfl
def Act.tt (a : Act) : T := .agg [T.int a.kind, T.int a.chan, T.int a.n, .list 4 (a.cases.map Act.toT)]
theorem Act.toT_eq (a : Act) : a.toT = a.tt := by
 cases a with
 | mk k c n l => rw [Act.toT, Act.toTs_eq]; rfl
theorem getAct (l : List Act) {i : Int} (h0 : 0 ≤ i) (h1 : i < l.length) : (l.map Act.toT)[i.toNat]? = some ((l[i.toNat]'(by omega)).tt) := by
 rw [getT _ _ h0 h1, Act.toT_eq]
inductive Act.ok (B : Nat) : Act → Prop
 | mk {k c n : Int} {l : List Act} : l.length ≤ B → (∀ a, a ∈ l → Act.ok B a) → Act.ok B (.mk k c n l)
theorem Act.ok.cases' {B : Nat} {a : Act} (h : a.ok B) : okL B (Act.ok B) a.cases := by
 cases h with
 | mk h1 h2 => exact ⟨h1, h2⟩
theorem Act.ok.of {B : Nat} {a : Act} (h : okL B (Act.ok B) a.cases) : a.ok B := by
 rw [← Act.eta a]; exact .mk h.1 h.2
abbrev Act.dd (a : Act) : D := .agg [.t (T.int a.kind), .t (T.int a.chan), .t (T.int a.n), .own (.list 4 (a.cases.map Act.toT))]
abbrev T.Acts (l : List (Act)) : T := .list 4 (l.map Act.toT)
structure Task where
 acts : List (Act)
 pos : Int
 state : Int
 last : Int
def Task.tt (x : Task) : T := .agg [T.Acts x.acts, T.int x.pos, T.int x.state, T.int x.last]
def Task.ok (B : Nat) (x : Task) : Prop := okL B (Act.ok B) x.acts ∧ True
abbrev T.Tasks (l : List (Task)) : T := .list 4 (l.map Task.tt)
structure World where
 room : List Int
 held : List (List Int)
 shut : List Bool
 tasks : List (Task)
 trace : List Int
def World.tt (x : World) : T := .agg [T.ints x.room, intss x.held, T.bools x.shut, T.Tasks x.tasks, T.ints x.trace]
def World.ok (B : Nat) (x : World) : Prop := okN B x.room ∧ okL B (okN B) x.held ∧ okN B x.shut ∧ okL B (Task.ok B) x.tasks ∧ okN B x.trace ∧ True
open Go.Eng
theorem retB {b b' : Bool} (h : b = b') : [D.t (T.v (Value.bool b))] = [D.t (T.bool b')] := by rw [h]
def inNum (n : Int) : Bool := decide (-1000 ≤ n ∧ n ≤ 1000)
def plainAct (a : Act) (c : Int) : Bool := decide ((a.cases.length : Int) ≤ 0) && decide (0 ≤ a.chan ∧ a.chan ≤ c - 1) &&
 (if a.kind = 1 then inNum a.n else if a.kind = 2 ∨ a.kind = 5 then decide (a.n = 0) else decide (a.kind = 3) && (decide (a.n = 0) && decide (a.chan = 0)))
def caseAct (c : Int) (a : Act) : Bool := decide (a.kind = 1 ∨ a.kind = 2) && plainAct a c
def goodAct (c : Int) (a : Act) : Bool := if a.kind = 4 then a.cases.all (caseAct c) && (decide ((1 : Int) ≤ a.cases.length ∧ (a.cases.length : Int) ≤ 3) && (decide (a.chan = 0) && decide (a.n = 0))) else plainAct a c
theorem l15Num_fun (n : Int) : Fun Try.prog 58 [.t (.int n)] (tupD [.t (.bool (inNum n))]) := by
 refine Fun.begin tys Try.func58 Z Z (N := 5) [(0, .t (.int n))] Z Z (fun w0 G F0 => ?_)
 refine sQ (rG (eZ Z (oN (tN (sQ (rG (eZ Z (callB ?_))))))))
 refine ⟨_, l1In_fun _ _ _, rfl, ?_⟩
 refine eZ Z (oN (tN (rT (eR ?_))))
 ·rfl
theorem l15Plain_fun (a : Act) (c : Int) (ha : a.cases.length ≤ 9223372036854775807) (hc0 : 1 ≤ c) (hc1 : c ≤ 1000) : Fun Try.prog 103 [.t a.tt, .t (.int c)] (tupD [.t (.bool (plainAct a c))]) := by
 refine Fun.begin tys Try.func103 Z Z (N := 43) [(0, .t a.tt), (1, .t (.int c))] Z Z (fun w0 G F0 => ?_)
 refine sQ (rG (WO_box Z Z (lt_of Z) Z Z (nZ Z (eZ Z (oN (tN (sQ (sQ (rG (eK 2 Z (evE ?_)))))))))))
 refine eK 2 Z ?_
 refine WO_guard Z Z Z Z (lt_of Z) (fun h1 => ?_) (fun h1 => ?_)
 rotate_left
 ·
  simp only [HS] at h1
  refine gM Z (gM Z (kZ [2,4,9,11,12] Z (gM Z (gM Z (gM Z (eZ Z (oN (tN (W_condT Z (sQ (rG (eZ Z (oN (tN (rT ?_)))))))))))))))
  refine tR (eR ?_)
  ·exact retB (by grind [plainAct])
 simp only [HS] at h1
 refine eZ Z (gY Z (eZ Z (kZ [1,2,4,9,11] Z (gY Z (eZ Z (gY Z (evI ?_)))))))
 refine gY Z (callB ?_)
 refine ⟨_, l1In_fun _ _ _, rfl, ?_⟩
 refine gY Z (eK 2 Z (oN (tN ?_)))
 refine W_cond Z (fun h2 => ?_) (fun h2 => ?_)
 ·
  simp only [HS] at h2
  refine sQ (rG (eZ Z (oN (tN (rT (tR (eR ?_)))))))
  ·exact retB (by grind [plainAct])
 simp only [HS] at h2
 refine W_skip (tN (sQ (sQ (rG (eK 2 Z (oN (tN (W_block (sQ (kY [2,4,18] Z (rG (eK 2 Z (oN (tN ?_))))))))))))))
 refine W_cond Z (fun h3 => ?_) (fun h3 => ?_)
 ·
  simp only [HS] at h3
  refine sQ (rG (eK 2 Z (callB ?_)))
  refine ⟨_, l15Num_fun _, rfl, ?_⟩
  refine eZ Z (oN (tN (rT (bR (tR (eR ?_))))))
  ·exact retB (by grind [plainAct])
 simp only [HS] at h3
 refine sQ (sQ (rG (eK 2 Z (oN (tN ?_)))))
 refine W_cond Z (fun h4 => ?_) (fun h4 => ?_)
 ·
  simp only [HS] at h4
  refine W_skip (tN ?_)
  refine W_cond Z (fun h5 => ?_) (fun h5 => ?_)
  ·
   simp only [HS] at h5
   refine sQ (rG (eK 4 Z (oN (tN (rT (bR (tR (eR ?_))))))))
   ·exact retB (by grind [plainAct])
  simp only [HS] at h5
  refine W_skip (bN (tN (sQ (rG (eK 4 Z ?_)))))
  refine WO_guard Z Z Z Z (lt_of Z) (fun h6 => ?_) (fun h6 => ?_)
  rotate_left
  ·
   simp only [HS] at h6
   refine gM Z (kZ [2,4,33,35] Z (gM Z (eK 2 Z (gM Z (gM Z (gM Z (eK 2 Z (oN (tN (rT (eR ?_)))))))))))
   ·exact retB (by grind [plainAct])
  simp only [HS] at h6
  refine eZ Z (gY Z (eZ Z (kZ [2,4,33,35] Z (gY Z (eK 3 Z ?_)))))
  refine WO_guard Z Z Z Z (lt_of Z) (fun h7 => ?_) (fun h7 => ?_)
  rotate_left
  ·
   simp only [HS] at h7
   refine gM Z (gM Z (eK 2 Z (oN (tN (rT (eR ?_))))))
   ·exact retB (by grind [plainAct])
  simp only [HS] at h7
  refine eZ Z (gY Z (eZ Z (gY Z (eK 3 Z (oN (tN (rT (eR ?_))))))))
  ·exact retB (by grind [plainAct])
 simp only [HS] at h4
 refine rG (eK 2 Z (oN (tN ?_)))
 refine W_cond Z (fun h5 => ?_) (fun h5 => ?_)
 ·
  simp only [HS] at h5
  refine sQ (rG (eK 3 Z (kZ [2,4,29] Z (eZ Z (oN (tN (rT (bR (tR (eR ?_))))))))))
  ·exact retB (by grind [plainAct])
 simp only [HS] at h5
 refine W_skip (bN (tN (sQ (rG (eK 3 Z (kZ [2,4,32] Z (eZ Z ?_)))))))
 refine WO_guard Z Z Z Z (lt_of Z) (fun h6 => ?_) (fun h6 => ?_)
 rotate_left
 ·
  simp only [HS] at h6
  refine gM Z (gM Z (eK 2 Z (gM Z (gM Z (gM Z (eZ Z (kZ [4,42] Z (eZ Z (oN (tN (rT (eR ?_))))))))))))
  ·exact retB (by grind [plainAct])
 simp only [HS] at h6
 refine eZ Z (gY Z (eZ Z (gY Z (eK 3 Z ?_))))
 refine WO_guard Z Z Z Z (lt_of Z) (fun h7 => ?_) (fun h7 => ?_)
 rotate_left
 ·
  simp only [HS] at h7
  refine gM Z (gM Z (eZ Z (kZ [4,42] Z (eZ Z (oN (tN (rT (eR ?_))))))))
  ·exact retB (by grind [plainAct])
 simp only [HS] at h7
 refine eZ Z (gY Z (eZ Z (gY Z (eZ Z (kZ [4,38,41] Z (eK 2 Z (oN (tN (rT (eR ?_))))))))))
 ·exact retB (by grind [plainAct])
theorem go_at {α : Type} {p : α → Bool} {l : List α} {k : Int} (h0 : 0 ≤ k) (h1 : k < l.length) (h : p (l[k.toNat]'(by omega)) = false) : l.all p = false :=
 List.all_eq_false.2 ⟨_, List.getElem_mem _, by simpa using h⟩
theorem all_take {α : Type} {p : α → Bool} {l : List α} {k : Int} (h0 : 0 ≤ k) (h1 : k < l.length) (h : (l.take k.toNat).all p = true) (h2 : p (l[k.toNat]'(by omega)) = true) : (l.take (k + 1).toNat).all p = true := by
 rw [show (k + 1).toNat = k.toNat + 1 from by omega, List.take_add_one, List.getElem?_eq_getElem (by omega), List.all_append, h]
 simpa using h2
theorem all_full {α : Type} {p : α → Bool} {l : List α} {k : Int} (h1 : (l.length : Int) ≤ k) (h : (l.take k.toNat).all p = true) : l.all p = true := by
 rwa [List.take_of_length_le (by omega)] at h
theorem l15Act_fun (a : Act) (c : Int) (ha : a.ok 1048576) (hc0 : 1 ≤ c) (hc1 : c ≤ 1000) : Fun Try.prog 96 [.t a.tt, .t (.int c)] (tupD [.t (.bool (goodAct c a))]) := by
 have ha1 := ha.cases'.1
 refine Fun.begin tys Try.func96 Z Z (N := 49) [(0, .t a.tt), (1, .t (.int c))] Z Z (fun w0 G F0 => ?_)
 refine sQ (rG (WO_box Z Z (lt_of Z) Z Z (nZ Z (eZ Z (oN (tN (sQ (sQ (rG (eK 3 Z (oN (tN ?_))))))))))))
 refine W_cond Z (fun h1 => ?_) (fun h1 => ?_)
 ·
  simp only [HS] at h1
  refine sQ (rG (eZ Z ?_))
  try refine WO_le (Le.freeze (u := 10) rfl) ?_
  refine nZ Z (eZ Z (callB ?_))
  refine ⟨_, l15Plain_fun _ _ (by omega) hc0 hc1, rfl, ?_⟩
  refine eZ Z (kZ [1,2,4] Z (oN (tN (rT (tR (eR ?_))))))
  ·exact retB (by grind [goodAct])
 simp only [HS] at h1
 refine W_skip (tN (sQ (sQ (rG (eK 2 Z (evE ?_))))))
 refine eZ Z (kZ [1,2,4,14,15,16] Z (oN (tN (W_block ?_))))
 refine lK (α := Int) [1, 2, 14, 15] [2] (fun x => [(16, .t (.int x))]) (fun x => []) (fun x => 0 ≤ x ∧ x ≤ a.cases.length ∧ (a.cases.take x.toNat).all (caseAct c) = true) (fun x => Int.toNat (a.cases.length - x)) 0 ?_ (fun k hx => ?_)
 ·exact ⟨by omega, by omega, by simp⟩
 obtain ⟨hk0, hk1, hk2⟩ := hx
 refine nY Z (sQ (rG (eZ Z (oN (tN (sQ ?_))))))
 refine W_cond Z (fun h2 => ?_) (fun h2 => ?_)
 ·
  simp only [HS] at h2
  refine W_skip (tN (sQ (W_block (sQ (rG (WO_idxT tys Z Z (lt_of Z) Z Z Z Z Z Z Z (by omega) _ (getAct _ (by omega) (by omega)) (eZ Z ?_)))))))
  try refine WO_le (Le.freeze (u := 19) rfl) ?_
  refine nZ Z (WO_alloc tys Z Z (lt_of Z) Z Z Z (nZ Z (sT Z (nZ Z (oN (tN (sQ (rG (eK 4 Z (kZ [1,2,6,14,15,16,17,18,19,20,21,22,23] Z ?_))))))))))
  refine WO_guard Z Z Z Z (lt_of Z) (fun h3 => ?_) (fun h3 => ?_)
  rotate_left
  ·
   simp only [HS] at h3
   refine gM Z (gM Z (eK 2 Z (gY Z (eZ Z ?_))))
   try refine WO_le (Le.freeze (u := 29) rfl) ?_
   refine nZ Z (gY Z (eZ Z (gY Z (callB ?_))))
   refine ⟨_, l15Plain_fun _ _ (by have := (ha.cases'.2 _ (List.getElem_mem (l := a.cases) (n := k.toNat) (by omega))).cases'.1; omega) hc0 hc1, rfl, ?_⟩
   refine gY Z (eK 2 Z (kZ [1,2,6,14,15,16,17,18,19,20,21,22,23,24,25,26,27,28,29,30,31,32,33] Z (oN (tN ?_))))
   refine W_cond Z (fun h4 => ?_) (fun h4 => ?_)
   ·
    simp only [HS] at h4
    refine sQ (rG (eZ Z (oN (tN (rT (bR (tR (loopQ_r (bR (tR (eR ?_)))))))))))
    ·(have hh := go_at (l := a.cases) (p := caseAct c) hk0 h2 (by grind [caseAct]); exact retB (by grind [goodAct]))
   simp only [HS] at h4
   refine W_skip (bN (tN (rG (evI ?_))))
   refine eZ Z (oN ?_)
   refine lQ _ ?_ ?_
   ·skip
    exact ⟨by omega, by omega, all_take hk0 (by omega) hk2 (by simp_all [caseAct])⟩
   ·(show Int.toNat _ < Int.toNat _); omega
  simp only [HS] at h3
  refine eZ Z (gY Z (eZ Z (gY Z (eK 3 Z ?_))))
  refine WO_guard Z Z Z Z (lt_of Z) (fun h4 => ?_) (fun h4 => ?_)
  rotate_left
  ·
   simp only [HS] at h4
   refine gM Z (gM Z (gM Z (eZ Z (kZ [1,2,6,14,15,16,17,18,19,20,21,22,23,24,25,26,27,28,29,30,31,32,33] Z (oN (tN (W_condT Z (sQ (rG (eZ Z (oN (tN (rT (bR (tR ?_)))))))))))))))
   refine loopQ_r (bR (tR (eR ?_)))
   ·(have hh := go_at (l := a.cases) (p := caseAct c) hk0 h2 (by grind [caseAct]); exact retB (by grind [goodAct]))
  simp only [HS] at h4
  refine eZ Z ?_
  try refine WO_le (Le.freeze (u := 29) rfl) ?_
  refine nZ Z (gY Z (eZ Z (gY Z (callB ?_))))
  refine ⟨_, l15Plain_fun _ _ (by have := (ha.cases'.2 _ (List.getElem_mem (l := a.cases) (n := k.toNat) (by omega))).cases'.1; omega) hc0 hc1, rfl, ?_⟩
  refine gY Z (eZ Z (kZ [1,2,6,14,15,16,17,18,19,20,21,22,23,24,25,26,27,28,29,30,31,32] Z (eZ Z (oN (tN ?_)))))
  refine W_cond Z (fun h5 => ?_) (fun h5 => ?_)
  ·
   simp only [HS] at h5
   refine sQ (rG (eZ Z (oN (tN (rT (bR (tR (loopQ_r (bR (tR (eR ?_)))))))))))
   ·(have hh := go_at (l := a.cases) (p := caseAct c) hk0 h2 (by grind [caseAct]); exact retB (by grind [goodAct]))
  simp only [HS] at h5
  refine W_skip (bN (tN (rG (evI ?_))))
  refine eZ Z (oN ?_)
  refine lQ _ ?_ ?_
  ·skip
   exact ⟨by omega, by omega, all_take hk0 (by omega) hk2 (by simp_all [caseAct])⟩
  ·(show Int.toNat _ < Int.toNat _); omega
 simp only [HS] at h2
 refine W_exit (tE (loopQ_e (inBlk_y (tN (sQ (rG (eK 2 Z (evE ?_))))))))
 refine callB ?_
 refine ⟨_, l1In_fun _ _ _, rfl, ?_⟩
 refine eZ Z ?_
 refine WO_guard Z Z Z Z (lt_of Z) (fun h3 => ?_) (fun h3 => ?_)
 rotate_left
 ·
  simp only [HS] at h3
  refine gM Z (gM Z (eZ Z (kZ [2,43] Z (eZ Z (gM Z (gM Z (gM Z (eK 2 Z (oN (tN (rT (eR ?_))))))))))))
  ·exact retB (by grind [goodAct])
 simp only [HS] at h3
 refine eZ Z (gY Z (eZ Z (gY Z (eZ Z (kZ [2,39,42] Z (eK 2 Z ?_))))))
 refine WO_guard Z Z Z Z (lt_of Z) (fun h4 => ?_) (fun h4 => ?_)
 rotate_left
 ·
  simp only [HS] at h4
  refine gM Z (gM Z (eK 2 Z (oN (tN (rT (eR ?_))))))
  ·exact retB (by grind [goodAct])
 simp only [HS] at h4
 refine eZ Z (gY Z (eZ Z (gY Z (eK 3 Z (oN (tN (rT (eR ?_))))))))
 ·(have hh := all_full (by assumption) hk2; exact retB (by grind [goodAct]))
def goodActs (c : Int) (l : List Act) : Bool := l.all (goodAct c) && decide ((l.length : Int) ≤ 6)
theorem l15Acts_fun (l : List Act) (c : Int) (ha : okL 1048576 (Act.ok 1048576) l) (hc0 : 1 ≤ c) (hc1 : c ≤ 1000) : Fun Try.prog 57 [.t (T.Acts l), .t (.int c)] (tupD [.t (.bool (goodActs c l))]) := by
 have ha1 := ha.1
 refine Fun.begin tys Try.func57 Z Z (N := 21) [(0, .t (T.Acts l)), (1, .t (.int c))] Z Z (fun w0 G F0 => ?_)
 refine sQ (rG (eZ Z (oN (tN (sQ (sQ (rG (eZ Z (evE ?_)))))))))
 refine eZ Z (oN (tN (W_block ?_)))
 refine lK (α := Int) [0, 1, 7, 8] [] (fun x => [(9, .t (.int x))]) (fun x => []) (fun x => 0 ≤ x ∧ x ≤ l.length ∧ (l.take x.toNat).all (goodAct c) = true) (fun x => Int.toNat (l.length - x)) 0 ?_ (fun k hx => ?_)
 ·exact ⟨by omega, by omega, by simp⟩
 obtain ⟨hk0, hk1, hk2⟩ := hx
 refine nY Z (sQ (rG (eZ Z (oN (tN (sQ ?_))))))
 refine W_cond Z (fun h1 => ?_) (fun h1 => ?_)
 ·
  simp only [HS] at h1
  refine W_skip (tN (sQ (W_block (sQ (rG (WO_idxT tys Z Z (lt_of Z) Z Z Z Z Z Z Z (by omega) _ (getAct _ (by omega) (by omega)) (eZ Z ?_)))))))
  try refine WO_le (Le.freeze (u := 12) rfl) ?_
  refine nZ Z (WO_alloc tys Z Z (lt_of Z) Z Z Z (nZ Z (sT Z (nZ Z (oN (tN (sQ (rG (eZ Z ?_)))))))))
  try refine WO_le (Le.freeze (u := 13) rfl) ?_
  refine nZ Z (eZ Z (callB ?_))
  refine ⟨_, l15Act_fun _ _ (ha.2 _ (List.getElem_mem _)) hc0 hc1, rfl, ?_⟩
  refine eZ Z (kZ [0,1,6,7,8,9,10,11,12,13,14,15,16] Z (oN (tN ?_)))
  refine W_cond Z (fun h2 => ?_) (fun h2 => ?_)
  ·
   simp only [HS] at h2
   refine sQ (rG (eZ Z (oN (tN (rT (bR (tR (loopQ_r (bR (tR (eR ?_)))))))))))
   ·(have hh := go_at (l := l) (p := goodAct c) hk0 h1 (by assumption); rw [goodActs, hh]; rfl)
  simp only [HS] at h2
  refine W_skip (bN (tN (rG (evI ?_))))
  refine eZ Z (oN ?_)
  refine lQ _ ?_ ?_
  ·skip
   exact ⟨by omega, by omega, all_take hk0 (by omega) hk2 (by assumption)⟩
  ·(show Int.toNat _ < Int.toNat _); omega
 simp only [HS] at h1
 refine W_exit (tE (loopQ_e (inBlk_y (tN (sQ (rG (eZ Z (evE ?_))))))))
 refine eK 2 Z (oN (tN (rT (eR ?_))))
 ·(have hh := all_full (by assumption) hk2; rw [goodActs, hh]; rfl)
def heldGo : List (List Int) → List Int → Bool
 | l :: hs, r :: rs => decide ((l.length : Int) ≤ r) && (allIn l (-1000) 1000 && heldGo hs rs)
 | _, _ => true
def goodTask (c : Int) (t : Task) : Bool := goodActs c t.acts && (decide (0 ≤ t.pos ∧ t.pos ≤ t.acts.length) && (decide (0 ≤ t.state ∧ t.state ≤ 2) && (inNum t.last && decide (t.state = 1 ↔ t.pos = t.acts.length))))
def goodWorld (w : World) : Bool :=
 decide ((1 : Int) ≤ w.room.length ∧ (w.room.length : Int) ≤ 3) && (decide ((w.held.length : Int) = w.room.length) && (decide ((w.shut.length : Int) = w.room.length) && (allIn w.room 0 3 &&
  (decide ((1 : Int) ≤ w.tasks.length ∧ (w.tasks.length : Int) ≤ 4) && (decide ((w.trace.length : Int) ≤ 120) && (allIn w.trace (-1000) 1000 && (heldGo w.held w.room && w.tasks.all (goodTask w.room.length))))))))
theorem heldGo_at {hs : List (List Int)} {rs : List Int} {k : Int} (h0 : 0 ≤ k) (h1 : k < hs.length) (h2 : k < rs.length) :
  heldGo (hs.drop k.toNat) (rs.drop k.toNat) = (decide (((hs[k.toNat]'(by omega)).length : Int) ≤ rs[k.toNat]'(by omega)) && (allIn (hs[k.toNat]'(by omega)) (-1000) 1000 && heldGo (hs.drop (k + 1).toNat) (rs.drop (k + 1).toNat))) := by
 rw [drop_at h0 h1, drop_at (l := rs) h0 h2, heldGo]
theorem specGoodWorld_fun (w : World) (hw : w.ok 1048576) : Fun Try.prog 21 [.t w.tt] (tupD [.t (.bool (goodWorld w))]) := by
 have hw1 : w.room.length ≤ 1048576 := hw.1
 have hw2 : w.held.length ≤ 1048576 := hw.2.1.1
 have hw3 : w.shut.length ≤ 1048576 := hw.2.2.1
 have hw4 : w.tasks.length ≤ 1048576 := hw.2.2.2.1.1
 have hw5 : w.trace.length ≤ 1048576 := hw.2.2.2.2.1
 refine Fun.begin tys Try.func21 Z Z (N := 137) [(0, .t w.tt)] Z Z (fun w0 G F0 => ?_)
 refine sQ (rG (WO_box Z Z (lt_of Z) Z Z (nZ Z (eZ Z (oN (tN (sQ (rG (eK 2 Z (evE ?_))))))))))
 refine eZ Z (oN (tN (sQ (sQ (rG (eZ Z (callB ?_)))))))
 refine ⟨_, l1In_fun _ _ _, rfl, ?_⟩
 refine eZ Z (kZ [1,2,3,13] Z (eZ Z ?_))
 refine WO_guard Z Z Z Z (lt_of Z) (fun h1 => ?_) (fun h1 => ?_)
 rotate_left
 ·
  simp only [HS] at h1
  refine gM Z (gM Z (gM Z (gM Z (eK 2 Z (gM Z (gM Z (kZ [1,2,3,21,23] Z (gM Z (gM Z (gM Z (eK 2 Z (gM Z (gM Z (gM Z (gM Z ?_)))))))))))))))
  refine kZ [1,2,3,28,32] Z (eK 2 Z (gM Z (gM Z (gM Z (gM Z (gM Z (eK 2 Z (kZ [1,2,3,41] Z (gM Z (gM Z (gM Z (gM Z (eK 2 Z (gM Z (gM Z ?_)))))))))))))))
  refine gM Z (kZ [1,2,3,47,50] Z (gM Z (eZ Z (oN (tN (W_condT Z (sQ (rG (eZ Z (oN (tN (rT (tR (eR ?_))))))))))))))
  ·exact retB (by grind [goodWorld])
 simp only [HS] at h1
 refine eZ Z (gY Z (eZ Z (gY Z (evE ?_))))
 refine gY Z (eZ Z (gY Z (eK 3 Z ?_)))
 refine WO_guard Z Z Z Z (lt_of Z) (fun h2 => ?_) (fun h2 => ?_)
 rotate_left
 ·
  simp only [HS] at h2
  refine gM Z (kZ [1,2,3,21,23] Z (gM Z (gM Z (gM Z (eK 2 Z (gM Z (gM Z (gM Z (gM Z (kZ [1,2,3,28,32] Z (eK 2 Z (gM Z (gM Z (gM Z (gM Z ?_)))))))))))))))
  refine gM Z (eK 2 Z (kZ [1,2,3,41] Z (gM Z (gM Z (gM Z (gM Z (eK 2 Z (gM Z (gM Z (gM Z (kZ [1,2,3,47,50] Z (gM Z (eZ Z (oN (tN ?_)))))))))))))))
  refine W_condT Z (sQ (rG (eZ Z (oN (tN (rT (tR (eR ?_))))))))
  ·exact retB (by grind [goodWorld])
 simp only [HS] at h2
 refine eZ Z (gY Z (eZ Z (kZ [1,2,3,21,23] Z (gY Z (evE ?_)))))
 refine gY Z (eZ Z (gY Z (eK 3 Z ?_)))
 refine WO_guard Z Z Z Z (lt_of Z) (fun h3 => ?_) (fun h3 => ?_)
 rotate_left
 ·
  simp only [HS] at h3
  refine gM Z (gM Z (gM Z (eZ Z (kZ [1,2,3,33] Z (eZ Z (gM Z (gM Z (gM Z (gM Z (gM Z (eK 2 Z (gM Z (kZ [1,2,3,41,42] Z (gM Z (gM Z ?_)))))))))))))))
  refine gM Z (eK 2 Z (gM Z (gM Z (gM Z (gM Z (kZ [1,2,3,47,51] Z (eZ Z (oN (tN (W_condT Z (sQ (rG (eZ Z (oN (tN ?_)))))))))))))))
  refine rT (tR (eR ?_))
  ·exact retB (by grind [goodWorld])
 simp only [HS] at h3
 refine eZ Z (gY Z (eZ Z (gY Z (callB ?_))))
 refine ⟨_, l1All_fun _ _ _ (by first | omega | (have : (w.held[k.toNat]'(by omega)).length ≤ 1048576 := hw.2.1.2 _ (List.getElem_mem _); omega)), rfl, ?_⟩
 refine gY Z (eZ Z (kZ [1,2,3,28,32] Z (eK 2 Z ?_)))
 refine WO_guard Z Z Z Z (lt_of Z) (fun h4 => ?_) (fun h4 => ?_)
 rotate_left
 ·
  simp only [HS] at h4
  refine gM Z (gM Z (gM Z (gM Z (eK 2 Z (gM Z (kZ [1,2,3,41,42] Z (gM Z (gM Z (gM Z (eK 2 Z (gM Z (gM Z (gM Z (gM Z (kZ [1,2,3,47,51] Z ?_)))))))))))))))
  refine eZ Z (oN (tN (W_condT Z (sQ (rG (eZ Z (oN (tN (rT (tR (eR ?_)))))))))))
  ·exact retB (by grind [goodWorld])
 simp only [HS] at h4
 refine eZ Z (gY Z (eZ Z (gY Z (evE ?_))))
 refine gY Z (callB ?_)
 refine ⟨_, l1In_fun _ _ _, rfl, ?_⟩
 refine gY Z (eK 3 Z (kZ [1,2,3,41] Z ?_))
 refine WO_guard Z Z Z Z (lt_of Z) (fun h5 => ?_) (fun h5 => ?_)
 rotate_left
 ·
  simp only [HS] at h5
  refine gM Z (gM Z (gM Z (eK 2 Z (gM Z (gM Z (gM Z (gM Z (kZ [1,2,3,47,51] Z (eZ Z (oN (tN (W_condT Z (sQ (rG (eZ Z ?_)))))))))))))))
  refine oN (tN (rT (tR (eR ?_))))
  ·exact retB (by grind [goodWorld])
 simp only [HS] at h5
 refine eZ Z (gY Z (eZ Z (gY Z (evE ?_))))
 refine gY Z (eK 3 Z ?_)
 refine WO_guard Z Z Z Z (lt_of Z) (fun h6 => ?_) (fun h6 => ?_)
 rotate_left
 ·
  simp only [HS] at h6
  refine gM Z (gM Z (gM Z (kZ [1,2,3,47,51] Z (eZ Z (oN (tN (W_condT Z (sQ (rG (eZ Z (oN (tN (rT (tR (eR ?_)))))))))))))))
  ·exact retB (by grind [goodWorld])
 simp only [HS] at h6
 refine eZ Z (gY Z (eZ Z (gY Z (callB ?_))))
 refine ⟨_, l1All_fun _ _ _ (by first | omega | (have : (w.held[k.toNat]'(by omega)).length ≤ 1048576 := hw.2.1.2 _ (List.getElem_mem _); omega)), rfl, ?_⟩
 refine kZ [1,2,3,47,50] Z (gY Z (eK 2 Z (oN (tN ?_))))
 refine W_cond Z (fun h7 => ?_) (fun h7 => ?_)
 ·
  simp only [HS] at h7
  refine sQ (rG (eZ Z (oN (tN (rT (tR (eR ?_)))))))
  ·exact retB (by grind [goodWorld])
 simp only [HS] at h7
 refine W_skip (tN (sQ (sQ (rG (eK 2 Z (evE ?_))))))
 refine eZ Z (oN (tN (W_block ?_)))
 refine lK (α := Int) [1, 3, 54, 55] [1] (fun x => [(56, .t (.int x))]) (fun x => []) (fun x => 0 ≤ x ∧ x ≤ w.held.length ∧ (w.held.length : Int) = w.room.length ∧ heldGo w.held w.room = heldGo (w.held.drop x.toNat) (w.room.drop x.toNat)) (fun x => Int.toNat (w.held.length - x)) 0 ?_ (fun k hx => ?_)
 ·exact ⟨by omega, by omega, by assumption, rfl⟩
 obtain ⟨hk0, hk1, hk3, hk2⟩ := hx
 refine nY Z (sQ (rG (eZ Z (oN (tN (sQ ?_))))))
 refine W_cond Z (fun h8 => ?_) (fun h8 => ?_)
 ·
  simp only [HS] at h8
  refine W_skip (tN (sQ (W_block (sQ (rG (eZ Z (WO_idxT tys Z Z (lt_of Z) Z Z Z Z Z Z Z (by omega) _ (getT _ _ (by omega) (by omega)) (eK 3 Z (oN (tN (sQ (rG (eZ Z (evE ?_))))))))))))))
  refine eZ Z (kZ [1,3,4,5,54,55,56,57,58,59,60,61,62,63] Z (eK 2 Z (WO_idxT tys Z Z (lt_of Z) Z Z Z Z Z Z Z (by omega) _ (getT _ _ (by omega) (by omega)) (eK 3 Z ?_))))
  refine WO_guard Z Z Z Z (lt_of Z) (fun h9 => ?_) (fun h9 => ?_)
  rotate_left
  ·
   simp only [HS] at h9
   refine gM Z (gM Z (eZ Z (kZ [1,3,4,5,54,55,56,57,58,59,60,61,62,63,64,65,66,67,68,69,70,71,72,73] Z (oN (tN (W_condT Z (sQ (rG (eZ Z (oN (tN (rT (bR (tR (loopQ_r ?_)))))))))))))))
   refine bR (tR (eR ?_))
   ·(have hh : heldGo w.held w.room = false := (by rw [hk2, heldGo_at hk0 (by omega) (by omega)]; grind); exact retB (by grind [goodWorld]))
  simp only [HS] at h9
  refine eZ Z (gY Z (callB ?_))
  refine ⟨_, l1All_fun _ _ _ (by first | omega | (have : (w.held[k.toNat]'(by omega)).length ≤ 1048576 := hw.2.1.2 _ (List.getElem_mem _); omega)), rfl, ?_⟩
  refine gY Z (eZ Z (kZ [1,3,4,5,54,55,56,57,58,59,60,61,62,63,64,65,66,67,68,69,70,71,72] Z (eZ Z (oN (tN ?_)))))
  refine W_cond Z (fun h10 => ?_) (fun h10 => ?_)
  ·
   simp only [HS] at h10
   refine sQ (rG (eZ Z (oN (tN (rT (bR (tR (loopQ_r (bR (tR (eR ?_)))))))))))
   ·(have hh : heldGo w.held w.room = false := (by rw [hk2, heldGo_at hk0 (by omega) (by omega)]; grind); exact retB (by grind [goodWorld]))
  simp only [HS] at h10
  refine W_skip (bN (tN (rG (evI ?_))))
  refine eZ Z (oN ?_)
  refine lQ _ ?_ ?_
  ·skip
   exact ⟨by omega, by omega, hk3, by rw [hk2, heldGo_at hk0 (by omega) (by omega)]; simp [*]⟩
  ·(show Int.toNat _ < Int.toNat _); omega
 simp only [HS] at h8
 refine W_exit (tE (loopQ_e (inBlk_y (tN (sQ (sQ (rG (eK 2 Z (evE ?_)))))))))
 refine eZ Z (oN (tN (W_block ?_)))
 refine lK (α := Int) [1, 3, 76, 77] [1] (fun x => [(78, .t (.int x))]) (fun x => []) (fun x => 0 ≤ x ∧ x ≤ w.tasks.length ∧ (w.tasks.take x.toNat).all (goodTask w.room.length) = true) (fun x => Int.toNat (w.tasks.length - x)) 0 ?_ (fun k' hx => ?_)
 ·exact ⟨by omega, by omega, by simp⟩
 obtain ⟨hj0, hj1, hj2⟩ := hx
 refine nY Z (sQ (rG (eZ Z (oN (tN (sQ ?_))))))
 refine W_cond Z (fun h9 => ?_) (fun h9 => ?_)
 ·
  simp only [HS] at h9
  refine W_skip (tN (sQ (W_block (sQ (rG (WO_idxT tys Z Z (lt_of Z) Z Z Z Z Z Z Z (by omega) _ (getT _ _ (by omega) (by omega)) (eZ Z ?_)))))))
  try refine WO_le (Le.freeze (u := 81) rfl) ?_
  refine nZ Z (WO_alloc tys Z Z (lt_of Z) Z Z Z (nZ Z (sT Z (nZ Z (oN (tN (sQ (sQ (rG (eK 3 Z (callB ?_)))))))))))
  refine ⟨_, l15Acts_fun _ _ (hw.2.2.2.1.2 _ (List.getElem_mem _)).1 (by omega) (by omega), rfl, ?_⟩
  refine kZ [1,3,7,76,77,78,79,80,81,82,83,84,85] Z (eK 2 Z ?_)
  refine WO_guard Z Z Z Z (lt_of Z) (fun h10 => ?_) (fun h10 => ?_)
  rotate_left
  ·
   simp only [HS] at h10
   refine gM Z (gM Z (gM Z (gM Z (gM Z (gM Z (eZ Z (kZ [1,3,7,76,77,78,79,80,81,82,83,84,85,86,87,88,89,90,91,92,93,94,95] Z (eZ Z (gM Z (gM Z (gM Z (gM Z (eK 2 Z (gM Z (gM Z ?_)))))))))))))))
   refine kZ [1,3,7,76,77,78,79,80,81,82,83,84,85,86,87,88,89,90,91,92,93,94,95,96,97,98,99,100,101,102,103,104] Z (gM Z (gM Z (eZ Z (oN (tN (W_condT Z (sQ (rG (eZ Z (oN (tN (rT (tR (bR (tR ?_)))))))))))))))
   refine loopQ_r (bR (tR (eR ?_)))
   ·(have hh := go_at (l := w.tasks) (p := goodTask w.room.length) hj0 (by omega) (by grind [goodTask]); exact retB (by grind [goodWorld]))
  simp only [HS] at h10
  refine eZ Z (gY Z (eZ Z (gY Z (eZ Z (gY Z (eZ Z (gY Z (evE ?_))))))))
  refine gY Z (callB ?_)
  refine ⟨_, l1In_fun _ _ _, rfl, ?_⟩
  refine gY Z (eZ Z (kZ [1,3,7,76,77,78,79,80,81,82,83,84,85,86,87,88,89,90,91,92,93,94] Z (eK 2 Z ?_)))
  refine WO_guard Z Z Z Z (lt_of Z) (fun h11 => ?_) (fun h11 => ?_)
  rotate_left
  ·
   simp only [HS] at h11
   refine gM Z (gM Z (gM Z (eK 2 Z (gM Z (gM Z (kZ [1,3,7,76,77,78,79,80,81,82,83,84,85,86,87,88,89,90,91,92,93,94,95,96,97,98,99,100,101,102,103,104] Z (gM Z (gM Z (eZ Z (oN (tN (W_condT Z (sQ (rG (eZ Z ?_)))))))))))))))
   refine oN (tN (rT (tR (bR (tR (loopQ_r (bR (tR (eR ?_)))))))))
   ·(have hh := go_at (l := w.tasks) (p := goodTask w.room.length) hj0 (by omega) (by grind [goodTask]); exact retB (by grind [goodWorld]))
  simp only [HS] at h11
  refine eZ Z (gY Z (eZ Z (gY Z (callB ?_))))
  refine ⟨_, l1In_fun _ _ _, rfl, ?_⟩
  refine gY Z (eK 3 Z ?_)
  refine WO_guard Z Z Z Z (lt_of Z) (fun h12 => ?_) (fun h12 => ?_)
  rotate_left
  ·
   simp only [HS] at h12
   refine gM Z (kZ [1,3,7,76,77,78,79,80,81,82,83,84,85,86,87,88,89,90,91,92,93,94,95,96,97,98,99,100,101,102,103,104] Z (gM Z (gM Z (eZ Z (oN (tN (W_condT Z (sQ (rG (eZ Z (oN (tN (rT (tR (bR ?_)))))))))))))))
   refine tR (loopQ_r (bR (tR (eR ?_))))
   ·(have hh := go_at (l := w.tasks) (p := goodTask w.room.length) hj0 (by omega) (by grind [goodTask]); exact retB (by grind [goodWorld]))
  simp only [HS] at h12
  refine eZ Z (gY Z (eZ Z (kZ [1,3,7,76,77,78,79,80,81,82,83,84,85,86,87,88,89,90,91,92,93,94,95,96,97,98,99,100,101,102,103,104] Z (gY Z (callB ?_)))))
  refine ⟨_, l15Num_fun _, rfl, ?_⟩
  refine gY Z (eK 2 Z (oN (tN ?_)))
  refine W_cond Z (fun h13 => ?_) (fun h13 => ?_)
  ·
   simp only [HS] at h13
   refine sQ (rG (eZ Z (oN (tN (rT (tR (bR (tR (loopQ_r (bR (tR (eR ?_))))))))))))
   ·(have hh := go_at (l := w.tasks) (p := goodTask w.room.length) hj0 (by omega) (by grind [goodTask]); exact retB (by grind [goodWorld]))
  simp only [HS] at h13
  refine W_skip (tN (sQ (rG (eK 4 Z ?_))))
  refine WO_guard Z Z Z Z (lt_of Z) (fun h14 => ?_) (fun h14 => ?_)
  rotate_left
  ·
   simp only [HS] at h14
   refine gM Z (gM Z (kZ [1,3,7,76,77,78,79,80,81,82,83,84,85,86,87,88,89,90,91,92,93,94,95,96,97,98,99,100,101,102,103,104,105,106,107,108,109,110,111,112,113,114] Z (gM Z (gM Z (gM Z (gM Z (gM Z (gM Z (gM Z (eK 2 Z (kZ [1,3,7,76,77,78,79,80,81,82,83,84,85,86,87,88,89,90,91,92,93,94,95,96,97,98,99,100,101,102,103,104,105,106,107,108,109,110,111,112,113,114,115,116,117,118,119,120,121,122,123] Z (gY Z (eZ Z (gY Z (eZ Z ?_)))))))))))))))
   refine gY Z (eZ Z (gY Z (eZ Z ?_)))
   refine WO_guard Z Z Z Z (lt_of Z) (fun h15 => ?_) (fun h15 => ?_)
   rotate_left
   ·
    simp only [HS] at h15
    refine gM Z (gM Z (gM Z (gM Z (gM Z (kZ [1,3,7,76,77,78,79,80,81,82,83,84,85,86,87,88,89,90,91,92,93,94,95,96,97,98,99,100,101,102,103,104,105,106,107,108,109,110,111,112,113,114,115,116,117,118,119,120,121,122,123,124,125,126,127,128,129,130,131,132,133] Z (gY Z (eK 2 Z (oN (tN (W_condF Z (W_skip (bN (tN (rG (evI ?_)))))))))))))))
    refine eZ Z (oN ?_)
    refine lQ _ ?_ ?_
    ·skip
     exact ⟨by omega, by omega, all_take hj0 (by omega) hj2 (by grind [goodTask])⟩
    ·(show Int.toNat _ < Int.toNat _); omega
   simp only [HS] at h15
   refine eZ Z (gY Z (eZ Z (gY Z (eZ Z (gY Z (eZ Z (gY Z (evE ?_))))))))
   refine kZ [1,3,7,76,77,78,79,80,81,82,83,84,85,86,87,88,89,90,91,92,93,94,95,96,97,98,99,100,101,102,103,104,105,106,107,108,109,110,111,112,113,114,115,116,117,118,119,120,121,122,123,124,125,126,127,128,129,130,131,132] Z (gY Z (eZ Z (gY Z (eK 2 Z (oN (tN ?_))))))
   refine W_cond Z (fun h16 => ?_) (fun h16 => ?_)
   ·
    simp only [HS] at h16
    refine sQ (rG (eZ Z (oN (tN (rT (bR (tR (loopQ_r (bR (tR (eR ?_)))))))))))
    ·(have hh := go_at (l := w.tasks) (p := goodTask w.room.length) hj0 (by omega) (by grind [goodTask]); exact retB (by grind [goodWorld]))
   simp only [HS] at h16
   refine W_skip (bN (tN (rG (evI ?_))))
   refine eZ Z (oN ?_)
   refine lQ _ ?_ ?_
   ·skip
    exact ⟨by omega, by omega, all_take hj0 (by omega) hj2 (by grind [goodTask])⟩
   ·(show Int.toNat _ < Int.toNat _); omega
  simp only [HS] at h14
  refine eZ Z (gY Z (eZ Z (kZ [1,3,7,76,77,78,79,80,81,82,83,84,85,86,87,88,89,90,91,92,93,94,95,96,97,98,99,100,101,102,103,104,105,106,107,108,109,110,111,112,113] Z (gY Z (eZ Z (gY Z (eZ Z (gY Z (eZ Z (gY Z (eZ Z (gY Z (eZ Z (gY Z (evE ?_)))))))))))))))
  refine gY Z (eZ Z (gY Z (eK 2 Z (kZ [1,3,7,76,77,78,79,80,81,82,83,84,85,86,87,88,89,90,91,92,93,94,95,96,97,98,99,100,101,102,103,104,105,106,107,108,109,110,111,112,113,114,115,116,117,118,119,120,121,122] Z (eZ Z ?_)))))
  refine WO_guard Z Z Z Z (lt_of Z) (fun h15 => ?_) (fun h15 => ?_)
  rotate_left
  ·
   simp only [HS] at h15
   refine gM Z (gM Z (gM Z (gM Z (gM Z (gM Z (gM Z (gM Z (kZ [1,3,7,76,77,78,79,80,81,82,83,84,85,86,87,88,89,90,91,92,93,94,95,96,97,98,99,100,101,102,103,104,105,106,107,108,109,110,111,112,113,114,115,116,117,118,119,120,121,122,123,124,125,126,127,128,129,130,131,132] Z (gM Z (gM Z (eZ Z (oN (tN (W_condT Z (sQ ?_)))))))))))))))
   refine rG (eZ Z (oN (tN (rT (bR (tR (loopQ_r (bR (tR (eR ?_))))))))))
   ·(have hh := go_at (l := w.tasks) (p := goodTask w.room.length) hj0 (by omega) (by grind [goodTask]); exact retB (by grind [goodWorld]))
  simp only [HS] at h15
  refine eZ Z (gY Z (eZ Z (gY Z (eZ Z (gY Z (eZ Z ?_))))))
  refine WO_guard Z Z Z Z (lt_of Z) (fun h16 => ?_) (fun h16 => ?_)
  rotate_left
  ·
   simp only [HS] at h16
   refine gM Z (gM Z (gM Z (gM Z (kZ [1,3,7,76,77,78,79,80,81,82,83,84,85,86,87,88,89,90,91,92,93,94,95,96,97,98,99,100,101,102,103,104,105,106,107,108,109,110,111,112,113,114,115,116,117,118,119,120,121,122,123,124,125,126,127,128,129,130,131,132] Z (gM Z (gY Z (eK 2 Z (oN (tN (W_condF Z (W_skip (bN (tN (rG (evI ?_)))))))))))))))
   refine eZ Z (oN ?_)
   refine lQ _ ?_ ?_
   ·skip
    exact ⟨by omega, by omega, all_take hj0 (by omega) hj2 (by grind [goodTask])⟩
   ·(show Int.toNat _ < Int.toNat _); omega
  simp only [HS] at h16
  refine eZ Z (gY Z (eZ Z (gY Z (eZ Z (gY Z (eZ Z (kZ [1,3,7,76,77,78,79,80,81,82,83,84,85,86,87,88,89,90,91,92,93,94,95,96,97,98,99,100,101,102,103,104,105,106,107,108,109,110,111,112,113,114,115,116,117,118,119,120,121,122,123,124,125,126,127,128,129,130,131] Z (gY Z (evE ?_)))))))))
  refine gY Z (eZ Z (gY Z (eK 2 Z (oN (tN ?_)))))
  refine W_cond Z (fun h17 => ?_) (fun h17 => ?_)
  ·
   simp only [HS] at h17
   refine sQ (rG (eZ Z (oN (tN (rT (bR (tR (loopQ_r (bR (tR (eR ?_)))))))))))
   ·exact retB (by grind [goodWorld])
  simp only [HS] at h17
  refine W_skip (bN (tN (rG (evI ?_))))
  refine eZ Z (oN ?_)
  refine lQ _ ?_ ?_
  ·skip
   exact ⟨by omega, by omega, all_take hj0 (by omega) hj2 (by grind [goodTask])⟩
  ·(show Int.toNat _ < Int.toNat _); omega
 simp only [HS] at h9
 refine W_exit (tE (loopQ_e (inBlk_y (tN (sQ (rG (eZ Z (oN (tN (rT (eR ?_)))))))))))
 ·(have hh := all_full (l := w.tasks) (by omega) hj2; have h0 : heldGo w.held w.room = true := (by rw [hk2, drop_end h8]; simp [heldGo]); exact retB (by grind [goodWorld]))
theorem isTaskNumber_fun (n : Int) : Fun Try.prog 86 [.t (.int n)] (tupD [.t (.bool (inNum n))]) := by
 refine Fun.begin tys Try.func86 Z Z (N := 5) [(0, .t (.int n))] Z Z (fun w0 G F0 => ?_)
 refine sQ (rG (eZ Z (oN (tN (sQ (rG (eZ Z (callB ?_))))))))
 refine ⟨_, within_fun _ _ _, rfl, ?_⟩
 refine eZ Z (oN (tN (rT (eR ?_))))
 ·rfl
theorem isWorld1_fun (n : Int) : Fun Try.prog 85 [.t (.int n)] (tupD [.t (.bool (!inNum n))]) := by
 refine Fun.begin tys Try.func85 Z Z (N := 6) [(0, .t (.int n))] Z Z (fun w0 G F0 => ?_)
 refine sQ (rG (eZ Z (oN (tN (sQ (rG (eZ Z (callB ?_))))))))
 refine ⟨_, isTaskNumber_fun _, rfl, ?_⟩
 refine eK 2 Z (oN (tN (rT (eR ?_))))
 ·rfl
theorem isWorld2_fun (n : Int) : Fun Try.prog 87 [.t (.int n)] (tupD [.t (.bool (!inNum n))]) := by
 refine Fun.begin tys Try.func87 Z Z (N := 6) [(0, .t (.int n))] Z Z (fun w0 G F0 => ?_)
 refine sQ (rG (eZ Z (oN (tN (sQ (rG (eZ Z (callB ?_))))))))
 refine ⟨_, isTaskNumber_fun _, rfl, ?_⟩
 refine eK 2 Z (oN (tN (rT (eR ?_))))
 ·rfl
theorem idxAct_fun (l : List Act) (p : Act → Bool) (f : Nat) (caps : List D) (hcaps : caps.all D.imm = true) (hl : l.length ≤ 9223372036854775807) (hf : ∀ x, x ∈ l → Fun Try.prog f (.t x.tt :: caps) (.t (.bool (p x)))) : Fun Try.prog 101 [.t (T.Acts l), .clo f caps] (tupD [.t (.int (idxGo p l 0))]) := by
 refine Fun.begin tys Try.func101 Z Z (N := 19) [(0, .t (T.Acts l)), (1, .clo f caps)] Z Z (fun w0 G F0 => ?_)
 refine sQ (rG (eZ Z (oN (tN (sQ (sQ (rG (eZ Z (evE ?_)))))))))
 refine eZ Z (oN (tN (W_block ?_)))
 refine lK (α := Int) [0, 1, 7] [] (fun x => [(8, .t (.int x))]) (fun x => []) (fun x => 0 ≤ x ∧ x ≤ l.length ∧ idxGo p l 0 = idxGo p (l.drop x.toNat) x) (fun x => Int.toNat (l.length - x)) 0 ?_ (fun k hx => ?_)
 ·exact ⟨by omega, by omega, rfl⟩
 obtain ⟨hk0, hk1, hk2⟩ := hx
 refine nY Z (sQ (rG (eZ Z (oN (tN (sQ ?_))))))
 refine W_cond Z (fun h1 => ?_) (fun h1 => ?_)
 ·
  simp only [HS] at h1
  refine W_skip (tN (sQ (W_block (sQ (rG (eK 2 Z (oN (tN (sQ (rG (WO_moveClo tys Z Z (lt_of Z) Z Z (by assumption) ?_)))))))))))
  refine eK 2 Z (WO_idxT tys Z Z (lt_of Z) Z Z Z Z Z Z Z (by omega) _ (getAct _ (by omega) (by omega)) (eZ Z ?_))
  try refine WO_le (Le.freeze (u := 15) rfl) ?_
  refine nZ Z ?_
  refine WO_call Z Z (lt_of Z) Z Z (by repeat (first | exact ResL.done | exact ResL.imms (by first | rfl | assumption) | refine ResL.t ?_ | refine ResL.own ?_ | refine ResL.slA Z (by first | rfl | (simp; done) | (simp; omega)) ?_ | refine ResL.sl Z (by first | omega | (simp; done) | (simp; omega)) ?_ | refine ResL.rp ?_ | refine ResL.clo ?_ ?_ | refine ResL.aggT ?_ ?_ | refine ResL.ref Z ?_ ?_ | refine ResL.nil' ?_ | refine ResL.nil 1 ?_)) (hf _ (List.getElem_mem _)) Z ?_
  refine kZ [0,1,5,7,8,9,10,11,12,13,14,15,16] Z (oN (tN ?_))
  refine W_cond Z (fun h2 => ?_) (fun h2 => ?_)
  ·
   refine sQ (rG (eK 2 Z (oN (tN (rT (bR (tR (loopQ_r (bR (tR (eR ?_)))))))))))
   ·rw [hk2, idx_at hk0 h1]
    simp [h2]
    done
  refine W_skip (bN (tN (rG (evI ?_))))
  refine eZ Z (oN ?_)
  refine lQ _ ?_ ?_
  ·skip
   refine ⟨by omega, by omega, ?_⟩; rw [hk2, idx_at hk0 h1]; simp [h2]
  ·(show Int.toNat _ < Int.toNat _); omega
 simp only [HS] at h1
 refine W_exit (tE (loopQ_e (inBlk_y (tN (sQ (rG (eZ Z (oN (tN (rT (eR ?_)))))))))))
 ·rw [hk2, drop_end h1]
  rfl
theorem hasAct_fun (l : List Act) (p : Act → Bool) (f : Nat) (caps : List D) (hcaps : caps.all D.imm = true) (hl : l.length ≤ 9223372036854775807) (hf : ∀ x, x ∈ l → Fun Try.prog f (.t x.tt :: caps) (.t (.bool (p x)))) : Fun Try.prog 88 [.t (T.Acts l), .clo f caps] (tupD [.t (.bool (l.any p))]) := by
 refine Fun.begin tys Try.func88 Z Z (N := 9) [(0, .t (T.Acts l)), (1, .clo f caps)] Z Z (fun w0 G F0 => ?_)
 refine sQ (rG (eZ Z (oN (tN (sQ (rG (eZ Z (WO_moveClo tys Z Z (lt_of Z) Z Z (by assumption) ?_))))))))
 refine WO_call Z Z (lt_of Z) Z Z (by repeat (first | exact ResL.done | exact ResL.imms (by first | rfl | assumption) | refine ResL.t ?_ | refine ResL.own ?_ | refine ResL.slA Z (by first | rfl | (simp; done) | (simp; omega)) ?_ | refine ResL.sl Z (by first | omega | (simp; done) | (simp; omega)) ?_ | refine ResL.rp ?_ | refine ResL.clo ?_ ?_ | refine ResL.aggT ?_ ?_ | refine ResL.ref Z ?_ ?_ | refine ResL.nil' ?_ | refine ResL.nil 1 ?_)) (idxAct_fun l p f caps hcaps hl hf) Z ?_
 refine eK 2 Z (oN (tN (rT (eR ?_))))
 ·rw [← idxGo_any (Int.le_refl 0)]
theorem any_nots {α : Type} {p : α → Bool} {l : List α} : (l.any fun b => !p b) = !l.all p := by rw [List.not_all_eq_any_not]
theorem any_num {l : List Int} : (l.any fun n => !inNum n) = !allIn l (-1000) 1000 := any_nots
theorem isAct1_fun (b : Act) (c : Int) (hs : Fun Try.prog 90 [.t b.tt, .t (.int c)] (.t (.bool (goodAct c b)))) : Fun Try.prog 102 [.t b.tt, .rp (.agg [T.int c]) 0] (tupD [.t (.bool (!caseAct c b))]) := by
 refine Fun.begin tys Try.func102 Z Z (N := 18) [(0, .t b.tt), (1, .rp (.agg [T.int c]) 0)] Z Z (fun w0 G F0 => ?_)
 refine sQ (rG (WO_box Z Z (lt_of Z) Z Z (nZ Z (eZ Z (oN (tN (sQ (rG (eK 4 Z ?_)))))))))
 refine WO_guard Z Z Z Z (lt_of Z) (fun h1 => ?_) (fun h1 => ?_)
 rotate_left
 ·
  simp only [HS] at h1
  refine gM Z (gM Z (eZ Z (kZ [1,2,3,11] Z (eZ Z (gY Z (eZ Z ?_))))))
  try refine WO_le (Le.freeze (u := 13) rfl) ?_
  refine nZ Z (gY Z (eZ Z (gY Z (callB ?_))))
  refine ⟨_, hs, rfl, ?_⟩
  refine gY Z (eK 3 Z (oN (tN (rT (eR ?_)))))
  ·exact retB (by grind [caseAct, goodAct])
 simp only [HS] at h1
 refine eZ Z (gY Z (eZ Z (gY Z (eZ Z (kZ [1,2,3,7,10] Z (eK 2 Z ?_))))))
 refine WO_guard Z Z Z Z (lt_of Z) (fun h2 => ?_) (fun h2 => ?_)
 rotate_left
 ·
  simp only [HS] at h2
  refine gM Z (gM Z (gM Z (eK 2 Z (oN (tN (rT (eR ?_)))))))
  ·exact retB (by grind [caseAct, goodAct])
 simp only [HS] at h2
 refine eZ Z ?_
 try refine WO_le (Le.freeze (u := 13) rfl) ?_
 refine nZ Z (gY Z (eZ Z (gY Z (callB ?_))))
 refine ⟨_, hs, rfl, ?_⟩
 refine gY Z (eK 3 Z (oN (tN (rT (eR ?_)))))
 ·exact retB (by grind [caseAct, goodAct])
theorem isAct_fun0 (a : Act) (c : Int) (ha : a.cases.length ≤ 9223372036854775807) (hc0 : 1 ≤ c) (hc1 : c ≤ 1000) (ih : ∀ b, b ∈ a.cases → Fun Try.prog 90 [.t b.tt, .t (.int c)] (.t (.bool (goodAct c b)))) : Fun Try.prog 90 [.t a.tt, .t (.int c)] (tupD [.t (.bool (goodAct c a))]) := by
 refine Fun.begin tys Try.func90 Z Z (N := 81) [(0, .t a.tt), (1, .t (.int c))] Z Z (fun w0 G F0 => ?_)
 refine sQ (rG (WO_box Z Z (lt_of Z) Z Z (nZ Z (WO_box Z Z (lt_of Z) Z Z (nZ Z (eZ Z (oN (tN (sQ (rG (eK 3 Z (evI ?_))))))))))))
 refine callB ?_
 refine ⟨_, within_fun _ _ _, rfl, ?_⟩
 refine eZ Z (kZ [2,3,4,5] Z (oN (tN (sQ (sQ (rG (eK 2 Z (oN (tN (W_block (sQ (rG (eK 2 Z (oN (tN ?_)))))))))))))))
 refine W_cond Z (fun h1 => ?_) (fun h1 => ?_)
 ·
  simp only [HS] at h1
  refine sQ (rG (eK 2 Z ?_))
  refine WO_guard Z Z Z Z (lt_of Z) (fun h2 => ?_) (fun h2 => ?_)
  rotate_left
  ·
   simp only [HS] at h2
   refine gM Z (gM Z (eZ Z (kZ [2,4,20] Z (eZ Z (gM Z (gM Z (gM Z (gM Z (eK 2 Z (oN (tN (rT (bR (tR (eR ?_)))))))))))))))
   ·clear ih; first | exact retB (by grind [goodAct, plainAct]) | (have e := any_nots (p := caseAct c) (l := a.cases); exact retB (by grind [goodAct, plainAct]))
  simp only [HS] at h2
  refine eZ Z (gY Z (eZ Z (gY Z (callB ?_))))
  refine ⟨_, isTaskNumber_fun _, rfl, ?_⟩
  refine kZ [2,4,16,19] Z (eK 2 Z ?_)
  refine WO_guard Z Z Z Z (lt_of Z) (fun h3 => ?_) (fun h3 => ?_)
  rotate_left
  ·
   simp only [HS] at h3
   refine gM Z (gM Z (gM Z (eK 2 Z (oN (tN (rT (bR (tR (eR ?_)))))))))
   ·clear ih; first | exact retB (by grind [goodAct, plainAct]) | (have e := any_nots (p := caseAct c) (l := a.cases); exact retB (by grind [goodAct, plainAct]))
  refine eZ Z (gY Z (eZ Z (gY Z (evE ?_))))
  refine gY Z (eK 3 Z (oN (tN (rT (bR (tR (eR ?_)))))))
  ·clear ih; first | exact retB (by grind [goodAct, plainAct]) | (have e := any_nots (p := caseAct c) (l := a.cases); exact retB (by grind [goodAct, plainAct]))
 simp only [HS] at h1
 refine sQ (sQ (rG (eK 2 Z (oN (tN ?_)))))
 refine W_cond Z (fun h2 => ?_) (fun h2 => ?_)
 ·
  simp only [HS] at h2
  refine W_skip (tN ?_)
  refine W_cond Z (fun h3 => ?_) (fun h3 => ?_)
  ·
   simp only [HS] at h3
   refine sQ (rG (eK 2 Z ?_))
   refine WO_guard Z Z Z Z (lt_of Z) (fun h4 => ?_) (fun h4 => ?_)
   rotate_left
   ·
    simp only [HS] at h4
    refine gM Z (kZ [2,4,31,33] Z (gM Z (eK 2 Z (gM Z (gM Z (gM Z (gM Z (eK 2 Z (kZ [4] Z (oN (tN (rT (bR (tR (eR ?_)))))))))))))))
    ·clear ih; first | exact retB (by grind [goodAct, plainAct]) | (have e := any_nots (p := caseAct c) (l := a.cases); exact retB (by grind [goodAct, plainAct]))
   simp only [HS] at h4
   refine eZ Z (gY Z (eZ Z (kZ [2,4,31,33] Z (gY Z (eK 3 Z ?_)))))
   refine WO_guard Z Z Z Z (lt_of Z) (fun h5 => ?_) (fun h5 => ?_)
   rotate_left
   ·
    simp only [HS] at h5
    refine gM Z (gM Z (gM Z (eK 2 Z (oN (tN (rT (bR (tR (eR ?_)))))))))
    ·clear ih; first | exact retB (by grind [goodAct, plainAct]) | (have e := any_nots (p := caseAct c) (l := a.cases); exact retB (by grind [goodAct, plainAct]))
   simp only [HS] at h5
   refine eZ Z (gY Z (eZ Z (gY Z (evE ?_))))
   refine gY Z (eK 3 Z (kZ [4] Z (oN (tN (rT (bR (tR (eR ?_))))))))
   ·clear ih; first | exact retB (by grind [goodAct, plainAct]) | (have e := any_nots (p := caseAct c) (l := a.cases); exact retB (by grind [goodAct, plainAct]))
  simp only [HS] at h3
  refine sQ (rG (eK 2 Z (oN (tN ?_))))
  refine W_cond Z (fun h4 => ?_) (fun h4 => ?_)
  ·
   simp only [HS] at h4
   refine sQ (kY [2,4] Z (rG (eK 4 Z ?_)))
   refine WO_guard Z Z Z Z (lt_of Z) (fun h5 => ?_) (fun h5 => ?_)
   rotate_left
   ·
    simp only [HS] at h5
    refine gM Z (gM Z (eK 2 Z (gM Z (kZ [4,52,53] Z (gM Z (gM Z (gM Z (eK 2 Z (oN (tN (rT (bR (tR (eR ?_))))))))))))))
    ·clear ih; first | exact retB (by grind [goodAct, plainAct]) | (have e := any_nots (p := caseAct c) (l := a.cases); exact retB (by grind [goodAct, plainAct]))
   simp only [HS] at h5
   refine eZ Z (gY Z (eZ Z (gY Z (eK 3 Z (kZ [2,4,52] Z ?_)))))
   refine WO_guard Z Z Z Z (lt_of Z) (fun h6 => ?_) (fun h6 => ?_)
   rotate_left
   ·
    simp only [HS] at h6
    refine gM Z (gM Z (gM Z (eK 2 Z (oN (tN (rT (bR (tR (eR ?_)))))))))
    ·clear ih; first | exact retB (by grind [goodAct, plainAct]) | (have e := any_nots (p := caseAct c) (l := a.cases); exact retB (by grind [goodAct, plainAct]))
   simp only [HS] at h6
   refine eZ Z (gY Z (eZ Z (gY Z (evE ?_))))
   refine gY Z (eK 3 Z (oN (tN (rT (bR (tR (eR ?_)))))))
   ·clear ih; first | exact retB (by grind [goodAct, plainAct]) | (have e := any_nots (p := caseAct c) (l := a.cases); exact retB (by grind [goodAct, plainAct]))
  simp only [HS] at h4
  refine sQ (kY [2,3,4,12] Z (rG (eK 2 Z (oN (tN ?_)))))
  refine W_cond Z (fun h5 => ?_) (fun h5 => ?_)
  ·
   simp only [HS] at h5
   refine sQ (rG (eK 4 Z ?_))
   refine WO_guard Z Z Z Z (lt_of Z) (fun h6 => ?_) (fun h6 => ?_)
   rotate_left
   ·
    simp only [HS] at h6
    refine gM Z (gM Z (eZ Z (kZ [2,3,4,67] Z (eZ Z (gM Z (gM Z (gM Z (gM Z (eK 2 Z (gM Z (gM Z (kZ [3,4,74,76] Z (gM Z (gM Z (gM Z ?_)))))))))))))))
    refine eK 2 Z (oN (tN (rT (bR (tR (eR ?_))))))
    ·clear ih; first | exact retB (by grind [goodAct, plainAct]) | (have e := any_nots (p := caseAct c) (l := a.cases); exact retB (by grind [goodAct, plainAct]))
   simp only [HS] at h6
   refine eZ Z (gY Z (eZ Z (gY Z (eZ Z (kZ [2,3,4,63,66] Z (eK 2 Z ?_))))))
   refine WO_guard Z Z Z Z (lt_of Z) (fun h7 => ?_) (fun h7 => ?_)
   rotate_left
   ·
    simp only [HS] at h7
    refine gM Z (gM Z (gM Z (eK 2 Z (gM Z (gM Z (kZ [3,4,74,76] Z (gM Z (gM Z (gM Z (eK 2 Z (oN (tN (rT (bR (tR ?_)))))))))))))))
    refine eR ?_
    ·clear ih; first | exact retB (by grind [goodAct, plainAct]) | (have e := any_nots (p := caseAct c) (l := a.cases); exact retB (by grind [goodAct, plainAct]))
   simp only [HS] at h7
   refine eZ Z (gY Z (eZ Z (gY Z (evE ?_))))
   refine gY Z (callB ?_)
   refine ⟨_, within_fun _ _ _, rfl, ?_⟩
   refine eK 2 Z ?_
   refine WO_guard Z Z Z Z (lt_of Z) (fun h8 => ?_) (fun h8 => ?_)
   rotate_left
   ·
    simp only [HS] at h8
    refine gM Z (kZ [3,4,74,76] Z (gM Z (gM Z (gM Z (eK 2 Z (oN (tN (rT (bR (tR (eR ?_)))))))))))
    ·clear ih; first | exact retB (by grind [goodAct, plainAct]) | (have e := any_nots (p := caseAct c) (l := a.cases); exact retB (by grind [goodAct, plainAct]))
   simp only [HS] at h8
   refine eZ Z (gY Z (eZ Z (kZ [3,4,74,76] Z (gY Z (eZ Z (gY Z (callB ?_)))))))
   refine ⟨_, hasAct_fun a.cases (fun b => !caseAct c b) _ [.rp (.agg [T.int c]) 0] Z ha (fun b hb => isAct1_fun b c (ih b hb)), rfl, ?_⟩
   refine gY Z (eK 3 Z (oN (tN (rT (bR (tR (eR ?_)))))))
   ·clear ih; first | exact retB (by grind [goodAct, plainAct]) | (have e := any_nots (p := caseAct c) (l := a.cases); exact retB (by grind [goodAct, plainAct]))
  simp only [HS] at h5
  refine W_skip (bN (tN (sQ (rG (eZ Z (oN (tN (rT (eR ?_)))))))))
  ·clear ih; first | exact retB (by grind [goodAct, plainAct]) | (have e := any_nots (p := caseAct c) (l := a.cases); exact retB (by grind [goodAct, plainAct]))
 simp only [HS] at h2
 refine rG (eK 2 Z (oN (tN ?_)))
 refine W_cond Z (fun h3 => ?_) (fun h3 => ?_)
 ·
  simp only [HS] at h3
  refine sQ (kY [2,4,5] Z (rG (eK 2 Z ?_)))
  refine WO_guard Z Z Z Z (lt_of Z) (fun h4 => ?_) (fun h4 => ?_)
  rotate_left
  ·
   simp only [HS] at h4
   refine gM Z (gM Z (eK 2 Z (gM Z (gM Z (gM Z (kZ [4,36,39] Z (gM Z (eK 2 Z (oN (tN (rT (bR (tR (eR ?_))))))))))))))
   ·clear ih; first | exact retB (by grind [goodAct, plainAct]) | (have e := any_nots (p := caseAct c) (l := a.cases); exact retB (by grind [goodAct, plainAct]))
  simp only [HS] at h4
  refine eZ Z (gY Z (eZ Z (gY Z (eK 3 Z ?_))))
  refine WO_guard Z Z Z Z (lt_of Z) (fun h5 => ?_) (fun h5 => ?_)
  rotate_left
  ·
   simp only [HS] at h5
   refine gM Z (gM Z (kZ [4,36,39] Z (gM Z (eK 2 Z (oN (tN (rT (bR (tR (eR ?_))))))))))
   ·clear ih; first | exact retB (by grind [goodAct, plainAct]) | (have e := any_nots (p := caseAct c) (l := a.cases); exact retB (by grind [goodAct, plainAct]))
  simp only [HS] at h5
  refine eZ Z (gY Z (eZ Z (kZ [4,36,38] Z (gY Z (evE ?_)))))
  refine gY Z (eK 3 Z (oN (tN (rT (bR (tR (eR ?_)))))))
  ·clear ih; first | exact retB (by grind [goodAct, plainAct]) | (have e := any_nots (p := caseAct c) (l := a.cases); exact retB (by grind [goodAct, plainAct]))
 simp only [HS] at h3
 refine sQ (kY [2,3,4,12] Z (rG (eK 2 Z (oN (tN ?_)))))
 refine W_cond Z (fun h4 => ?_) (fun h4 => ?_)
 ·
  simp only [HS] at h4
  refine sQ (rG (eK 4 Z ?_))
  refine WO_guard Z Z Z Z (lt_of Z) (fun h5 => ?_) (fun h5 => ?_)
  rotate_left
  ·
   simp only [HS] at h5
   refine gM Z (gM Z (eZ Z (kZ [2,4,51] Z (eZ Z (gM Z (gM Z (gM Z (gM Z (eK 2 Z (oN (tN (rT (bR (tR (eR ?_)))))))))))))))
   ·clear ih; first | exact retB (by grind [goodAct, plainAct]) | (have e := any_nots (p := caseAct c) (l := a.cases); exact retB (by grind [goodAct, plainAct]))
  simp only [HS] at h5
  refine eZ Z (gY Z (eZ Z (gY Z (eZ Z (kZ [2,4,47,50] Z (eK 2 Z ?_))))))
  refine WO_guard Z Z Z Z (lt_of Z) (fun h6 => ?_) (fun h6 => ?_)
  rotate_left
  ·
   simp only [HS] at h6
   refine gM Z (gM Z (gM Z (eK 2 Z (oN (tN (rT (bR (tR (eR ?_)))))))))
   ·clear ih; first | exact retB (by grind [goodAct, plainAct]) | (have e := any_nots (p := caseAct c) (l := a.cases); exact retB (by grind [goodAct, plainAct]))
  simp only [HS] at h6
  refine eZ Z (gY Z (eZ Z (gY Z (evE ?_))))
  refine gY Z (eK 3 Z (oN (tN (rT (bR (tR (eR ?_)))))))
  ·clear ih; first | exact retB (by grind [goodAct, plainAct]) | (have e := any_nots (p := caseAct c) (l := a.cases); exact retB (by grind [goodAct, plainAct]))
 simp only [HS] at h4
 refine sQ (rG (eK 2 Z (oN (tN ?_))))
 refine W_cond Z (fun h5 => ?_) (fun h5 => ?_)
 ·
  simp only [HS] at h5
  refine sQ (rG (eK 4 Z ?_))
  refine WO_guard Z Z Z Z (lt_of Z) (fun h6 => ?_) (fun h6 => ?_)
  rotate_left
  ·
   simp only [HS] at h6
   refine gM Z (kZ [2,3,4,63,65] Z (gM Z (eK 2 Z (gM Z (gM Z (gM Z (gM Z (eK 2 Z (kZ [2,3,4,74] Z (gM Z (gM Z (gM Z (gM Z (gM Z (eK 2 Z ?_)))))))))))))))
   refine oN (tN (rT (bR (tR (eR ?_)))))
   ·clear ih; first | exact retB (by grind [goodAct, plainAct]) | (have e := any_nots (p := caseAct c) (l := a.cases); exact retB (by grind [goodAct, plainAct]))
  simp only [HS] at h6
  refine eZ Z (gY Z (eZ Z (kZ [2,3,4,63,65] Z (gY Z (eK 3 Z ?_)))))
  refine WO_guard Z Z Z Z (lt_of Z) (fun h7 => ?_) (fun h7 => ?_)
  rotate_left
  ·
   simp only [HS] at h7
   refine gM Z (gM Z (gM Z (eK 2 Z (gM Z (kZ [3,4,74,75] Z (gM Z (gM Z (gM Z (gM Z (eK 2 Z (oN (tN (rT (bR (tR ?_)))))))))))))))
   refine eR ?_
   ·clear ih; first | exact retB (by grind [goodAct, plainAct]) | (have e := any_nots (p := caseAct c) (l := a.cases); exact retB (by grind [goodAct, plainAct]))
  simp only [HS] at h7
  refine eZ Z (gY Z (eZ Z (gY Z (evE ?_))))
  refine gY Z (callB ?_)
  refine ⟨_, within_fun _ _ _, rfl, ?_⟩
  refine eK 2 Z (kZ [2,3,4,74] Z ?_)
  refine WO_guard Z Z Z Z (lt_of Z) (fun h8 => ?_) (fun h8 => ?_)
  rotate_left
  ·
   simp only [HS] at h8
   refine gM Z (gM Z (gM Z (gM Z (eK 2 Z (oN (tN (rT (bR (tR (eR ?_))))))))))
   ·clear ih; first | exact retB (by grind [goodAct, plainAct]) | (have e := any_nots (p := caseAct c) (l := a.cases); exact retB (by grind [goodAct, plainAct]))
  simp only [HS] at h8
  refine eZ Z (gY Z (eZ Z (gY Z (eZ Z (gY Z (callB ?_))))))
  refine ⟨_, hasAct_fun a.cases (fun b => !caseAct c b) _ [.rp (.agg [T.int c]) 0] Z ha (fun b hb => isAct1_fun b c (ih b hb)), rfl, ?_⟩
  refine gY Z (eK 3 Z (oN (tN (rT (bR (tR (eR ?_)))))))
  ·clear ih; first | exact retB (by grind [goodAct, plainAct]) | (have e := any_nots (p := caseAct c) (l := a.cases); exact retB (by grind [goodAct, plainAct]))
 simp only [HS] at h5
 refine W_skip (bN (tN (sQ (rG (eZ Z (oN (tN (rT (eR ?_)))))))))
 ·clear ih; first | exact retB (by grind [goodAct, plainAct]) | (have e := any_nots (p := caseAct c) (l := a.cases); exact retB (by grind [goodAct, plainAct]))
theorem isAct_fun (a : Act) (c : Int) (ha : a.ok 9223372036854775807) (hc0 : 1 ≤ c) (hc1 : c ≤ 1000) : Fun Try.prog 90 [.t a.tt, .t (.int c)] (.t (.bool (goodAct c a))) :=
 Act.ind (p := fun a => a.ok 9223372036854775807 → Fun Try.prog 90 [.t a.tt, .t (.int c)] (.t (.bool (goodAct c a)))) (fun a ih ha => isAct_fun0 a c ha.cases'.1 hc0 hc1 fun b hb => ih b hb (ha.cases'.2 b hb)) a ha
theorem isWorld3_fun (a : Act) (c : Int) (ha : a.ok 9223372036854775807) (hc0 : 1 ≤ c) (hc1 : c ≤ 1000) : Fun Try.prog 89 [.t a.tt, .rp (.agg [T.int c]) 0] (tupD [.t (.bool (!goodAct c a))]) := by
 refine Fun.begin tys Try.func89 Z Z (N := 8) [(0, .t a.tt), (1, .rp (.agg [T.int c]) 0)] Z Z (fun w0 G F0 => ?_)
 refine sQ (rG (WO_box Z Z (lt_of Z) Z Z (nZ Z (eZ Z (oN (tN (sQ (rG (eZ Z ?_)))))))))
 try refine WO_le (Le.freeze (u := 4) rfl) ?_
 refine nZ Z (eZ Z (callB ?_))
 refine ⟨_, isAct_fun _ _ ha hc0 hc1, rfl, ?_⟩
 refine eK 2 Z (oN (tN (rT (eR ?_))))
 ·rfl
theorem isWorld_fun (w : World) (hw : w.ok 1048576) (hw' : w.ok 9223372036854775807) : Fun Try.prog 44 [.t w.tt] (tupD [.t (.bool (goodWorld w))]) := by
 have hw1 : w.room.length ≤ 1048576 := hw.1
 have hw2 : w.held.length ≤ 1048576 := hw.2.1.1
 have hw3 : w.shut.length ≤ 1048576 := hw.2.2.1
 have hw4 : w.tasks.length ≤ 1048576 := hw.2.2.2.1.1
 have hw5 : w.trace.length ≤ 1048576 := hw.2.2.2.2.1
 refine Fun.begin tys Try.func44 Z Z (N := 127) [(0, .t w.tt)] Z Z (fun w0 G F0 => ?_)
 refine sQ (rG (WO_box Z Z (lt_of Z) Z Z (nZ Z (eZ Z (oN (tN (sQ (rG (eK 2 Z (evE ?_))))))))))
 refine WO_alloc tys Z Z (lt_of Z) Z Z Z (nZ Z (sT Z (nZ Z (oN (tN (sQ (sQ (kY [1,2,3] Z (rG (eZ Z (callB ?_)))))))))))
 refine ⟨_, within_fun _ _ _, rfl, ?_⟩
 refine eK 2 Z ?_
 refine WO_guard Z Z Z Z (lt_of Z) (fun h1 => ?_) (fun h1 => ?_)
 rotate_left
 ·
  simp only [HS] at h1
  refine gM Z (gM Z (gM Z (gM Z (eZ Z (kZ [1,2,3,20] Z (eZ Z (gM Z (gM Z (gM Z (gM Z (gM Z (eK 2 Z (gM Z (kZ [1,2,3,28,29] Z (gM Z ?_)))))))))))))))
  refine gM Z (gM Z (gM Z (eK 2 Z (gM Z (gM Z (gM Z (kZ [1,2,3,35,38] Z (gM Z (eK 2 Z (gM Z (gM Z (gM Z (eZ Z (oN (tN ?_)))))))))))))))
  refine W_condT Z (sQ (kY [1,2,3] Z (rG (eZ Z (oN (tN (rT (tR (eR ?_)))))))))
  ·have e0 := any_num (l := w.trace)
   first
   | exact retB (by grind [goodWorld])
 simp only [HS] at h1
 refine eZ Z (gY Z (eZ Z (gY Z (evE ?_))))
 refine gY Z (eZ Z (gY Z (eZ Z (kZ [1,2,3,14,19] Z (eK 2 Z ?_)))))
 refine WO_guard Z Z Z Z (lt_of Z) (fun h2 => ?_) (fun h2 => ?_)
 rotate_left
 ·
  simp only [HS] at h2
  refine gM Z (gM Z (gM Z (gM Z (eK 2 Z (gM Z (kZ [1,2,3,28,29] Z (gM Z (gM Z (gM Z (gM Z (eK 2 Z (gM Z (gM Z (gM Z (kZ [1,2,3,35,38] Z ?_)))))))))))))))
  refine gM Z (eK 2 Z (gM Z (gM Z (gM Z (eZ Z (oN (tN (W_condT Z (sQ (kY [1,2,3] Z (rG (eZ Z (oN (tN (rT ?_)))))))))))))))
  refine tR (eR ?_)
  ·have e0 := any_num (l := w.trace)
   first
   | exact retB (by grind [goodWorld])
 simp only [HS] at h2
 refine eZ Z (gY Z (eZ Z (gY Z (evE ?_))))
 refine gY Z (eZ Z (gY Z (eK 3 Z (kZ [1,2,3,28] Z ?_))))
 refine WO_guard Z Z Z Z (lt_of Z) (fun h3 => ?_) (fun h3 => ?_)
 rotate_left
 ·
  simp only [HS] at h3
  refine gM Z (gM Z (gM Z (gM Z (eK 2 Z (gM Z (gM Z (gM Z (kZ [1,2,3,35,38] Z (gM Z (eK 2 Z (gM Z (gM Z (gM Z (eZ Z (oN ?_)))))))))))))))
  refine tN (W_condT Z (sQ (kY [1,2,3] Z (rG (eZ Z (oN (tN (rT (tR (eR ?_))))))))))
  ·have e0 := any_num (l := w.trace)
   first
   | exact retB (by grind [goodWorld])
 simp only [HS] at h3
 refine eZ Z (gY Z (eZ Z (gY Z (evE ?_))))
 refine gY Z (callB ?_)
 refine ⟨_, within_fun _ _ _, rfl, ?_⟩
 refine gY Z (eK 3 Z ?_)
 refine WO_guard Z Z Z Z (lt_of Z) (fun h4 => ?_) (fun h4 => ?_)
 rotate_left
 ·
  simp only [HS] at h4
  refine gM Z (gM Z (kZ [1,2,3,35,38] Z (gM Z (eK 2 Z (gM Z (gM Z (gM Z (eZ Z (oN (tN (W_condT Z (sQ (kY [1,2,3] Z (rG (eZ Z ?_)))))))))))))))
  refine oN (tN (rT (tR (eR ?_))))
  ·have e0 := any_num (l := w.trace)
   first
   | exact retB (by grind [goodWorld])
 simp only [HS] at h4
 refine eZ Z (gY Z (eZ Z (kZ [1,2,3,35,37] Z (gY Z (evE ?_)))))
 refine gY Z (eK 3 Z ?_)
 refine WO_guard Z Z Z Z (lt_of Z) (fun h5 => ?_) (fun h5 => ?_)
 rotate_left
 ·
  simp only [HS] at h5
  refine gM Z (gM Z (eZ Z (oN (tN (W_condT Z (sQ (kY [1,2,3] Z (rG (eZ Z (oN (tN (rT (tR (eR ?_))))))))))))))
  ·have e0 := any_num (l := w.trace)
   first
   | exact retB (by grind [goodWorld])
 simp only [HS] at h5
 refine eZ Z (gY Z (eZ Z (gY Z (callB ?_))))
 refine ⟨_, hasS_fun w.trace (fun n => !inNum n) _ [] Z (by omega) (fun x _ => isWorld1_fun x), rfl, ?_⟩
 refine eZ Z (oN (tN ?_))
 refine W_cond Z (fun h6 => ?_) (fun h6 => ?_)
 ·
  refine sQ (kY [1,2,3] Z (rG (eZ Z (oN (tN (rT (tR (eR ?_))))))))
  ·have e0 := any_num (l := w.trace)
   first
   | exact retB (by grind [goodWorld])
 refine W_skip (tN (sQ (sQ (kY [1,2,3] Z (rG (eK 2 Z (evE ?_)))))))
 refine eZ Z (oN (tN (W_block ?_)))
 refine lK (α := Int) [1, 3, 47, 48] [1, 3] (fun x => [(49, .t (.int x))]) (fun x => []) (fun x => 0 ≤ x ∧ x ≤ w.room.length ∧ (w.held.length : Int) = w.room.length ∧ allIn (w.room.take x.toNat) 0 3 = true ∧ heldGo w.held w.room = heldGo (w.held.drop x.toNat) (w.room.drop x.toNat)) (fun x => Int.toNat (w.room.length - x)) 0 ?_ (fun k hx => ?_)
 ·exact ⟨by omega, by omega, by assumption, by simp [allIn], rfl⟩
 obtain ⟨hk0, hk1, hk3, hk4, hk2⟩ := hx
 refine nY Z (sQ (rG (eZ Z (oN (tN (sQ ?_))))))
 refine W_cond Z (fun h7 => ?_) (fun h7 => ?_)
 ·
  simp only [HS] at h7
  refine W_skip (tN (sQ (W_block (sQ (rG (eZ Z (WO_idxT tys Z Z (lt_of Z) Z Z Z Z Z Z Z (by omega) _ (getT _ _ (by omega) (by omega)) (eK 3 Z (oN (tN (sQ (rG (eZ Z (callB ?_))))))))))))))
  refine ⟨_, within_fun _ _ _, rfl, ?_⟩
  refine eZ Z (kZ [1,3,4,5,47,48,49,50,51,52,53,54,55,56] Z (eZ Z ?_))
  refine WO_guard Z Z Z Z (lt_of Z) (fun h8 => ?_) (fun h8 => ?_)
  rotate_left
  ·
   simp only [HS] at h8
   refine gM Z (gM Z (gM Z (gM Z (gM Z (gM Z (gM Z (eZ Z (kZ [1,3,4,5,47,48,49,50,51,52,53,54,55,56,57,58,59,60,61,62,63,64,65,66] Z (eZ Z (gM Z (gM Z (gM Z (gM Z (gM Z (gM Z ?_)))))))))))))))
   refine eZ Z (oN (tN (W_condT Z (sQ (kY [1,3,4,5,47,48,49,50,51,52,53,54,55,56,57,58,59,60,61,62,63,64,65,66,67,68,69,70,71,72,73,74] Z (rG (eZ Z (oN (tN (rT (bR (tR (loopQ_r (bR (tR ?_)))))))))))))))
   refine eR ?_
   ·have e0 := any_num (l := w.trace)
    first
    | (have hh := allIn_no (l := w.room) (lo := 0) (hi := 3) hk0 (by omega) (by assumption); exact retB (by grind [goodWorld]))
  simp only [HS] at h8
  refine eZ Z (gY Z (eZ Z (gY Z (eZ Z (gY Z (WO_idxT tys Z Z (lt_of Z) Z Z Z Z Z Z Z (by omega) _ (getT _ _ (by omega) (by omega)) (gY Z (eZ Z (gY Z (evE ?_))))))))))
  refine gY Z (eZ Z (gY Z (eZ Z (kZ [1,3,4,5,47,48,49,50,51,52,53,54,55,56,57,58,59,60,61,62,63,64,65] Z (eK 2 Z ?_)))))
  refine WO_guard Z Z Z Z (lt_of Z) (fun h9 => ?_) (fun h9 => ?_)
  rotate_left
  ·
   simp only [HS] at h9
   refine gM Z (gM Z (gM Z (gM Z (gM Z (eZ Z (oN (tN (W_condT Z (sQ (kY [1,3,4,5,47,48,49,50,51,52,53,54,55,56,57,58,59,60,61,62,63,64,65,66,67,68,69,70,71,72,73,74] Z (rG (eZ Z (oN (tN (rT ?_)))))))))))))))
   refine bR (tR (loopQ_r (bR (tR (eR ?_)))))
   ·have e0 := any_num (l := w.trace)
    first
    | (have hh : heldGo w.held w.room = false := (by have e := any_num (l := w.held[k.toNat]'(by omega)); rw [hk2, heldGo_at hk0 (by omega) (by omega)]; grind); exact retB (by grind [goodWorld]))
  simp only [HS] at h9
  refine eZ Z (gY Z (eZ Z (gY Z (eZ Z (gY Z (WO_idxT tys Z Z (lt_of Z) Z Z Z Z Z Z Z (by omega) _ (getT _ _ (by omega) (by omega)) (gY Z (eZ Z (gY Z (callB ?_))))))))))
  refine ⟨_, hasS_fun _ (fun n => !inNum n) _ [] Z (by have := hw'.2.1.2 _ (List.getElem_mem (l := w.held) (n := k.toNat) (by omega)); exact this) (fun x _ => isWorld2_fun x), rfl, ?_⟩
  refine eZ Z (kZ [1,3,4,5,47,48,49,50,51,52,53,54,55,56,57,58,59,60,61,62,63,64,65,66,67,68,69,70,71,72,73,74] Z (oN (tN ?_)))
  refine W_cond Z (fun h10 => ?_) (fun h10 => ?_)
  ·
   refine sQ (rG (eZ Z (oN (tN (rT (bR (tR (loopQ_r (bR (tR (eR ?_)))))))))))
   ·have e0 := any_num (l := w.trace)
    first
    | (have hh : heldGo w.held w.room = false := (by have e := any_num (l := w.held[k.toNat]'(by omega)); rw [hk2, heldGo_at hk0 (by omega) (by omega)]; grind); exact retB (by grind [goodWorld]))
  refine W_skip (bN (tN (rG (evI ?_))))
  refine eZ Z (oN ?_)
  refine lQ _ ?_ ?_
  ·skip
   exact ⟨by omega, by omega, hk3, allIn_step hk0 (by omega) hk4 (by assumption), by rw [hk2, heldGo_at hk0 (by omega) (by omega)]; grind [any_num]⟩
  ·(show Int.toNat _ < Int.toNat _); omega
 simp only [HS] at h7
 refine W_exit (tE (loopQ_e (inBlk_y (tN (sQ (sQ (rG (eK 2 Z (evE ?_)))))))))
 refine eZ Z (oN (tN (W_block ?_)))
 refine lK (α := Int) [1, 3, 77, 78] [1, 3] (fun x => [(79, .t (.int x))]) (fun x => []) (fun x => 0 ≤ x ∧ x ≤ w.tasks.length ∧ (w.tasks.take x.toNat).all (goodTask w.room.length) = true) (fun x => Int.toNat (w.tasks.length - x)) 0 ?_ (fun k' hx => ?_)
 ·exact ⟨by omega, by omega, by simp⟩
 obtain ⟨hj0, hj1, hj2⟩ := hx
 refine nY Z (sQ (rG (eZ Z (oN (tN (sQ ?_))))))
 refine W_cond Z (fun h8 => ?_) (fun h8 => ?_)
 ·
  simp only [HS] at h8
  refine W_skip (tN (sQ (W_block (sQ (rG (WO_idxT tys Z Z (lt_of Z) Z Z Z Z Z Z Z (by omega) _ (getT _ _ (by omega) (by omega)) (eZ Z ?_)))))))
  try refine WO_le (Le.freeze (u := 82) rfl) ?_
  refine nZ Z (WO_alloc tys Z Z (lt_of Z) Z Z Z (nZ Z (sT Z (nZ Z (oN (tN (sQ (rG (eK 2 Z (evE ?_))))))))))
  refine eZ Z (kZ [1,3,7,77,78,79,80,81,82,83,84,85,86] Z (eZ Z ?_))
  refine WO_guard Z Z Z Z (lt_of Z) (fun h9 => ?_) (fun h9 => ?_)
  rotate_left
  ·
   simp only [HS] at h9
   refine gM Z (gM Z (gM Z (gM Z (gM Z (gM Z (eK 2 Z (kZ [1,3,7,77,78,79,80,81,82,83,84,85,86,87,88,89,90,91,92,93,94,95,96] Z (gM Z (gM Z (gM Z (gM Z (eK 2 Z (gM Z (gM Z (gM Z ?_)))))))))))))))
   refine kZ [1,3,7,77,78,79,80,81,82,83,84,85,86,87,88,89,90,91,92,93,94,95,96,97,98,99,100,101,102,103,104,105] Z (gM Z (gM Z (gM Z (gM Z (gM Z (gM Z (gM Z (eK 2 Z (kZ [1,3,7,77,78,79,80,81,82,83,84,85,86,87,88,89,90,91,92,93,94,95,96,97,98,99,100,101,102,103,104,105,106,107,108,109,110,111,112,113,114] Z (gM Z (gM Z (gM Z (gM Z (eK 2 Z (gM Z ?_)))))))))))))))
   refine gM Z (gM Z (kZ [1,3,7,77,78,79,80,81,82,83,84,85,86,87,88,89,90,91,92,93,94,95,96,97,98,99,100,101,102,103,104,105,106,107,108,109,110,111,112,113,114,115,116,117,118,119,120,121,122,123] Z (gM Z (eZ Z (oN (tN (W_condT Z (sQ (rG (eZ Z (oN (tN (rT (bR (tR ?_)))))))))))))))
   refine loopQ_r (bR (tR (eR ?_)))
   ·have e0 := any_num (l := w.trace)
    first
    | (have e := any_nots (p := goodAct w.room.length) (l := (w.tasks[k'.toNat]'(by omega)).acts); have hh := go_at (l := w.tasks) (p := goodTask w.room.length) hj0 (by omega) (by grind [goodTask, goodActs]); exact retB (by grind [goodWorld]))
  simp only [HS] at h9
  refine eZ Z (gY Z (eZ Z (gY Z (eZ Z (gY Z (eZ Z (gY Z (evE ?_))))))))
  refine gY Z (callB ?_)
  refine ⟨_, within_fun _ _ _, rfl, ?_⟩
  refine gY Z (eK 2 Z (kZ [1,3,7,77,78,79,80,81,82,83,84,85,86,87,88,89,90,91,92,93,94,95] Z (eZ Z ?_)))
  refine WO_guard Z Z Z Z (lt_of Z) (fun h10 => ?_) (fun h10 => ?_)
  rotate_left
  ·
   simp only [HS] at h10
   refine gM Z (gM Z (gM Z (eK 2 Z (gM Z (gM Z (gM Z (kZ [1,3,7,77,78,79,80,81,82,83,84,85,86,87,88,89,90,91,92,93,94,95,96,97,98,99,100,101,102,103,104,105] Z (gM Z (gM Z (gM Z (gM Z (gM Z (gM Z (gM Z (eK 2 Z ?_)))))))))))))))
   refine kZ [1,3,7,77,78,79,80,81,82,83,84,85,86,87,88,89,90,91,92,93,94,95,96,97,98,99,100,101,102,103,104,105,106,107,108,109,110,111,112,113,114] Z (gM Z (gM Z (gM Z (gM Z (eK 2 Z (gM Z (gM Z (gM Z (kZ [1,3,7,77,78,79,80,81,82,83,84,85,86,87,88,89,90,91,92,93,94,95,96,97,98,99,100,101,102,103,104,105,106,107,108,109,110,111,112,113,114,115,116,117,118,119,120,121,122,123] Z (gM Z (eZ Z (oN (tN (W_condT Z (sQ ?_)))))))))))))))
   refine rG (eZ Z (oN (tN (rT (bR (tR (loopQ_r (bR (tR (eR ?_))))))))))
   ·have e0 := any_num (l := w.trace)
    first
    | (have e := any_nots (p := goodAct w.room.length) (l := (w.tasks[k'.toNat]'(by omega)).acts); have hh := go_at (l := w.tasks) (p := goodTask w.room.length) hj0 (by omega) (by grind [goodTask, goodActs]); exact retB (by grind [goodWorld]))
  simp only [HS] at h10
  refine eZ Z (gY Z (eZ Z (gY Z (callB ?_))))
  refine ⟨_, within_fun _ _ _, rfl, ?_⟩
  refine gY Z (eK 3 Z ?_)
  refine WO_guard Z Z Z Z (lt_of Z) (fun h11 => ?_) (fun h11 => ?_)
  rotate_left
  ·
   simp only [HS] at h11
   refine gM Z (gM Z (kZ [1,3,7,77,78,79,80,81,82,83,84,85,86,87,88,89,90,91,92,93,94,95,96,97,98,99,100,101,102,103,104,105] Z (gM Z (gM Z (gM Z (gM Z (gM Z (gM Z (gM Z (eK 2 Z (kZ [1,3,7,77,78,79,80,81,82,83,84,85,86,87,88,89,90,91,92,93,94,95,96,97,98,99,100,101,102,103,104,105,106,107,108,109,110,111,112,113,114] Z (gM Z (gM Z (gM Z (gM Z ?_)))))))))))))))
   refine eK 2 Z (gM Z (gM Z (gM Z (kZ [1,3,7,77,78,79,80,81,82,83,84,85,86,87,88,89,90,91,92,93,94,95,96,97,98,99,100,101,102,103,104,105,106,107,108,109,110,111,112,113,114,115,116,117,118,119,120,121,122,123] Z (gM Z (eZ Z (oN (tN (W_condT Z (sQ (rG (eZ Z (oN (tN (rT ?_)))))))))))))))
   refine bR (tR (loopQ_r (bR (tR (eR ?_)))))
   ·have e0 := any_num (l := w.trace)
    first
    | (have e := any_nots (p := goodAct w.room.length) (l := (w.tasks[k'.toNat]'(by omega)).acts); have hh := go_at (l := w.tasks) (p := goodTask w.room.length) hj0 (by omega) (by grind [goodTask, goodActs]); exact retB (by grind [goodWorld]))
  simp only [HS] at h11
  refine eZ Z (gY Z (eZ Z (kZ [1,3,7,77,78,79,80,81,82,83,84,85,86,87,88,89,90,91,92,93,94,95,96,97,98,99,100,101,102,103,104] Z (gY Z (eZ Z (gY Z (eZ Z (gY Z (eZ Z (gY Z (eZ Z (gY Z (eZ Z (gY Z (evE ?_)))))))))))))))
  refine gY Z (eZ Z (gY Z (eK 2 Z (kZ [1,3,7,77,78,79,80,81,82,83,84,85,86,87,88,89,90,91,92,93,94,95,96,97,98,99,100,101,102,103,104,105,106,107,108,109,110,111,112,113] Z (eZ Z ?_)))))
  refine WO_guard Z Z Z Z (lt_of Z) (fun h12 => ?_) (fun h12 => ?_)
  rotate_left
  ·
   simp only [HS] at h12
   refine gM Z (gM Z (gM Z (eK 2 Z (gM Z (gM Z (gM Z (kZ [1,3,7,77,78,79,80,81,82,83,84,85,86,87,88,89,90,91,92,93,94,95,96,97,98,99,100,101,102,103,104,105,106,107,108,109,110,111,112,113,114,115,116,117,118,119,120,121,122,123] Z (gM Z (eZ Z (oN (tN (W_condT Z (sQ (rG (eZ Z ?_)))))))))))))))
   refine oN (tN (rT (bR (tR (loopQ_r (bR (tR (eR ?_))))))))
   ·have e0 := any_num (l := w.trace)
    first
    | (have e := any_nots (p := goodAct w.room.length) (l := (w.tasks[k'.toNat]'(by omega)).acts); have hh := go_at (l := w.tasks) (p := goodTask w.room.length) hj0 (by omega) (by grind [goodTask, goodActs]); exact retB (by grind [goodWorld]))
  simp only [HS] at h12
  refine eZ Z (gY Z (eZ Z (gY Z (callB ?_))))
  refine ⟨_, isTaskNumber_fun _, rfl, ?_⟩
  refine gY Z (eK 3 Z ?_)
  refine WO_guard Z Z Z Z (lt_of Z) (fun h13 => ?_) (fun h13 => ?_)
  rotate_left
  ·
   simp only [HS] at h13
   refine gM Z (gM Z (kZ [1,3,7,77,78,79,80,81,82,83,84,85,86,87,88,89,90,91,92,93,94,95,96,97,98,99,100,101,102,103,104,105,106,107,108,109,110,111,112,113,114,115,116,117,118,119,120,121,122,123] Z (gM Z (eZ Z (oN (tN (W_condT Z (sQ (rG (eZ Z (oN (tN (rT (bR (tR ?_)))))))))))))))
   refine loopQ_r (bR (tR (eR ?_)))
   ·have e0 := any_num (l := w.trace)
    first
    | (have e := any_nots (p := goodAct w.room.length) (l := (w.tasks[k'.toNat]'(by omega)).acts); have hh := go_at (l := w.tasks) (p := goodTask w.room.length) hj0 (by omega) (by grind [goodTask, goodActs]); exact retB (by grind [goodWorld]))
  simp only [HS] at h13
  refine eZ Z (gY Z (eZ Z (kZ [1,3,7,77,78,79,80,81,82,83,84,85,86,87,88,89,90,91,92,93,94,95,96,97,98,99,100,101,102,103,104,105,106,107,108,109,110,111,112,113,114,115,116,117,118,119,120,121,122] Z (gY Z (eZ Z (gY Z (callB ?_)))))))
  refine ⟨_, hasAct_fun _ (fun b => !goodAct w.room.length b) _ [.rp (.agg [T.int w.room.length]) 0] Z (by have := (hw'.2.2.2.1.2 _ (List.getElem_mem (l := w.tasks) (n := k'.toNat) (by omega))).1.1; exact this) (fun b hb => isWorld3_fun b _ ((hw'.2.2.2.1.2 _ (List.getElem_mem (l := w.tasks) (n := k'.toNat) (by omega))).1.2 b hb) (by omega) (by omega)), rfl, ?_⟩
  refine eZ Z (oN (tN ?_))
  refine W_cond Z (fun h14 => ?_) (fun h14 => ?_)
  ·
   refine sQ (rG (eZ Z (oN (tN (rT (bR (tR (loopQ_r (bR (tR (eR ?_)))))))))))
   ·have e0 := any_num (l := w.trace)
    first
    | (have e := any_nots (p := goodAct w.room.length) (l := (w.tasks[k'.toNat]'(by omega)).acts); have hh := go_at (l := w.tasks) (p := goodTask w.room.length) hj0 (by omega) (by grind [goodTask, goodActs]); exact retB (by grind [goodWorld]))
  refine W_skip (bN (tN (rG (evI ?_))))
  refine eZ Z (oN ?_)
  refine lQ _ ?_ ?_
  ·skip
   exact ⟨by omega, by omega, all_take hj0 (by omega) hj2 (by have e := any_nots (p := goodAct w.room.length) (l := (w.tasks[k'.toNat]'(by omega)).acts); grind [goodTask, goodActs])⟩
  ·(show Int.toNat _ < Int.toNat _); omega
 simp only [HS] at h8
 refine W_exit (tE (loopQ_e (inBlk_y (tN (sQ (rG (eZ Z (oN (tN (rT (eR ?_)))))))))))
 ·have e0 := any_num (l := w.trace)
  first
  | (have hh := all_full (l := w.tasks) (by omega) hj2; have h4 := allIn_yes hk4 hk0 (by omega); have h0 : heldGo w.held w.room = true := (by rw [hk2, drop_end (by omega)]; simp [heldGo]); exact retB (by grind [goodWorld]))
theorem implGoodWorld_fun (w : World) (hw : w.ok 1048576) (hw' : w.ok 9223372036854775807) : Fun Try.prog 11 [.t w.tt] (tupD [.t (.bool (goodWorld w))]) := by
 refine Fun.begin tys Try.func11 Z Z (N := 5) [(0, .t w.tt)] Z Z (fun w0 G F0 => ?_)
 refine sQ (rG (WO_box Z Z (lt_of Z) Z Z (nZ Z (eZ Z (oN (tN (sQ (rG (eZ Z ?_)))))))))
 try refine WO_le (Le.freeze (u := 3) rfl) ?_
 refine nZ Z (callB ?_)
 refine ⟨_, isWorld_fun _ hw hw', rfl, ?_⟩
 refine eZ Z (oN (tN (rT (eR ?_))))
 ·rfl
open Go.Eng
def ways (t : Task) : List Act := if t.state = 0 then (match t.acts[t.pos.toNat]? with | some a => if a.kind = 4 then a.cases else [a] | none => []) else []
theorem ways_at {t : Task} (h : t.state = 0) (h0 : 0 ≤ t.pos) (h1 : t.pos < t.acts.length) : ways t = if (t.acts[t.pos.toNat]'(by omega)).kind = 4 then (t.acts[t.pos.toNat]'(by omega)).cases else [t.acts[t.pos.toNat]'(by omega)] := by
 unfold ways
 rw [if_pos h, List.getElem?_eq_getElem (by omega)]
theorem part_one {α : Type} {l : List α} {i : Int} (h0 : 0 ≤ i) (h1 : i < l.length) : (l.drop i.toNat).take ((i + 1).toNat - i.toNat) = [l[i.toNat]'(by omega)] := by
 rw [drop_at h0 h1, show (i + 1).toNat - i.toNat = 1 from by omega]
 rfl
theorem l15Ways_fun (t : Task) (h0 : 0 ≤ t.pos) (h1' : t.state = 0 → t.pos < t.acts.length) : Fun Try.prog 81 [.t t.tt] (tupD [.t (T.Acts (ways t))]) := by
 refine Fun.begin tys Try.func81 Z Z (N := 28) [(0, .t t.tt)] Z Z (fun w0 G F0 => ?_)
 refine sQ (rG (WO_box Z Z (lt_of Z) Z Z (nZ Z (eZ Z (oN (tN (sQ (sQ (rG (eK 3 Z (oN (tN ?_))))))))))))
 refine W_cond Z (fun h1 => ?_) (fun h1 => ?_)
 ·
  try simp only [HS] at h1
  refine sQ (rG (eZ Z (oN (tN ?_))))
  first | refine W_le (Le.nilT (u := 2) 4 rfl) ?_ | skip
  refine rT (tR (eR ?_))
  ·first
   | (rw [ways, if_neg h1]; rfl)
   | (rw [ways_at h1 h0 (h1' h1), if_pos h2]; done)
   | (rw [ways_at h1 h0 (h1' h1), if_neg h2]; show [D.t (T.list 4 [Act.tt _])] = [D.t (T.list 4 [Act.toT _])]; rw [Act.toT_eq])
 try simp only [HS] at h1
 refine W_skip (tN (sQ (sQ (rG (eK 4 Z (kZ [1,2,7,9] Z ?_))))))
 first | refine WO_idxT tys rfl rfl (lt_of rfl) rfl rfl rfl rfl rfl rfl rfl (by omega) _ (getAct _ (by omega) (by omega)) ?_ | refine WO_idxS tys rfl rfl (lt_of rfl) rfl rfl rfl rfl rfl rfl rfl rfl (by omega) (by omega) ?_
 refine eZ Z ?_
 first | refine ev ?_ | refine WO_loadL tys rfl rfl (lt_of rfl) rfl rfl rfl rfl (getT _ _ (by omega) (by omega)) rfl ?_ | refine WO_loadL tys rfl rfl (lt_of rfl) rfl rfl rfl rfl (getT0 _ _ (by omega) (by omega)) rfl ?_
 refine eZ Z (oN (tN ?_))
 refine W_cond Z (fun h2 => ?_) (fun h2 => ?_)
 ·
  try simp only [HS] at h2
  refine sQ (rG (eK 4 Z ?_))
  first | refine WO_idxT tys rfl rfl (lt_of rfl) rfl rfl rfl rfl rfl rfl rfl (by omega) _ (getAct _ (by omega) (by omega)) ?_ | refine WO_idxS tys rfl rfl (lt_of rfl) rfl rfl rfl rfl rfl rfl rfl rfl (by omega) (by omega) ?_
  refine kZ [1,2,18] Z (eZ Z ?_)
  first | refine ev ?_ | refine WO_loadL tys rfl rfl (lt_of rfl) rfl rfl rfl rfl (getT _ _ (by omega) (by omega)) rfl ?_ | refine WO_loadL tys rfl rfl (lt_of rfl) rfl rfl rfl rfl (getT0 _ _ (by omega) (by omega)) rfl ?_
  refine eZ Z (oN (tN ?_))
  first | refine W_le (Le.nilT (u := 2) 4 rfl) ?_ | skip
  refine rT (tR (eR ?_))
  ·first
   | (rw [ways, if_neg h1]; rfl)
   | (rw [ways_at h1 h0 (h1' h1), if_pos h2]; done)
   | (rw [ways_at h1 h0 (h1' h1), if_neg h2]; show [D.t (T.list 4 [Act.tt _])] = [D.t (T.list 4 [Act.toT _])]; rw [Act.toT_eq])
 try simp only [HS] at h2
 refine W_skip (tN (sQ (rG (eK 4 Z ?_))))
 first | refine WO_idxT tys rfl rfl (lt_of rfl) rfl rfl rfl rfl rfl rfl rfl (by omega) _ (getAct _ (by omega) (by omega)) ?_ | refine WO_idxS tys rfl rfl (lt_of rfl) rfl rfl rfl rfl rfl rfl rfl rfl (by omega) (by omega) ?_
 refine kZ [2,25] Z ?_
 first | (refine ev ?_; try refine WO_le (Le.freeze (u := 26) rfl) ?_) | refine WO_loadL tys rfl rfl (lt_of rfl) rfl rfl rfl rfl (getT _ _ (by omega) (by omega)) rfl ?_ | refine WO_loadL tys rfl rfl (lt_of rfl) rfl rfl rfl rfl (getT0 _ _ (by omega) (by omega)) rfl ?_
 refine nZ Z ?_
 refine WO_buildF tys [_] Z Z (lt_of Z) Z Z Z Z Z (by decide) (by repeat (first | exact PartsF.nil' | refine PartsF.cons' rfl Z ?_)) Z ?_
 refine nZ Z (eZ Z (oN (tN ?_)))
 first | refine W_le (Le.nilT (u := 2) 4 rfl) ?_ | skip
 refine rT (eR ?_)
 ·first
  | (rw [ways, if_neg h1]; rfl)
  | (rw [ways_at h1 h0 (h1' h1), if_pos h2]; done)
  | (rw [ways_at h1 h0 (h1' h1), if_neg h2]; show [D.t (T.list 4 [Act.tt _])] = [D.t (T.list 4 [Act.toT _])]; rw [Act.toT_eq])
theorem casesOf_fun (w : World) (i : Int) (hi0 : 0 ≤ i) (hi1 : i < w.tasks.length) (hl : (w.tasks[i.toNat]'(by omega)).acts.length ≤ 1048576) (h0 : 0 ≤ (w.tasks[i.toNat]'(by omega)).pos) (h1' : (w.tasks[i.toNat]'(by omega)).state = 0 → (w.tasks[i.toNat]'(by omega)).pos < (w.tasks[i.toNat]'(by omega)).acts.length) : Fun Try.prog 78 [.t w.tt, .t (.int i)] (tupD [.t (T.Acts (ways (w.tasks[i.toNat]'(by omega))))]) := by
 refine Fun.begin tys Try.func78 Z Z (N := 34) [(0, .t w.tt), (1, .t (.int i))] Z Z (fun w0 G F0 => ?_)
 refine sQ (rG (WO_box Z Z (lt_of Z) Z Z (nZ Z (eZ Z (oN (tN (sQ (rG (eK 3 Z ?_)))))))))
 first | refine WO_idxT tys rfl rfl (lt_of rfl) rfl rfl rfl rfl rfl rfl rfl (by omega) _ (getT _ _ (by omega) (by omega)) ?_ | refine WO_idxS tys rfl rfl (lt_of rfl) rfl rfl rfl rfl rfl rfl rfl rfl (by omega) (by omega) ?_
 first | (refine ev ?_; try refine WO_le (Le.freeze (u := 11) rfl) ?_) | refine WO_loadL tys rfl rfl (lt_of rfl) rfl rfl rfl rfl (getT _ _ (by omega) (by omega)) rfl ?_ | refine WO_loadL tys rfl rfl (lt_of rfl) rfl rfl rfl rfl (getT0 _ _ (by omega) (by omega)) rfl ?_
 refine nZ Z (WO_alloc tys Z Z (lt_of Z) Z Z Z (nZ Z (sT Z (nZ Z (kZ [4,5] Z (oN (tN (sQ (sQ (rG (eK 3 Z (oN (tN ?_)))))))))))))
 refine W_cond Z (fun h1 => ?_) (fun h1 => ?_)
 ·
  try simp only [HS] at h1
  refine sQ (rG (eZ Z (oN (tN ?_))))
  first | refine W_le (Le.nilT (u := 4) 4 rfl) ?_ | skip
  refine rT (tR (eR ?_))
  ·first
   | (rw [ways, if_neg h1]; rfl)
   | (rw [ways_at h1 h0 (h1' h1), if_pos h2]; done)
   | (rw [ways_at h1 h0 (h1' h1), if_neg h2]; rw [← List.map_drop, ← List.map_take, part_one h0 (h1' h1)]; done)
 try simp only [HS] at h1
 refine W_skip (tN (sQ (sQ (rG (eK 4 Z ?_)))))
 first | refine WO_idxT tys rfl rfl (lt_of rfl) rfl rfl rfl rfl rfl rfl rfl (by omega) _ (getAct _ (by omega) (by omega)) ?_ | refine WO_idxS tys rfl rfl (lt_of rfl) rfl rfl rfl rfl rfl rfl rfl rfl (by omega) (by omega) ?_
 first | (refine ev ?_; try refine WO_le (Le.freeze (u := 20) rfl) ?_) | refine WO_loadL tys rfl rfl (lt_of rfl) rfl rfl rfl rfl (getT _ _ (by omega) (by omega)) rfl ?_ | refine WO_loadL tys rfl rfl (lt_of rfl) rfl rfl rfl rfl (getT0 _ _ (by omega) (by omega)) rfl ?_
 refine nZ Z (kZ [4,5,20] Z (WO_alloc tys Z Z (lt_of Z) Z Z Z (nZ Z (sT Z (nZ Z (oN (tN (sQ (rG (eK 3 Z (oN (tN ?_))))))))))))
 refine W_cond Z (fun h2 => ?_) (fun h2 => ?_)
 ·
  try simp only [HS] at h2
  refine sQ (rG (eK 3 Z (oN (tN ?_))))
  first | refine W_le (Le.nilT (u := 4) 4 rfl) ?_ | skip
  refine rT (tR (eR ?_))
  ·first
   | (rw [ways, if_neg h1]; rfl)
   | (rw [ways_at h1 h0 (h1' h1), if_pos h2]; done)
   | (rw [ways_at h1 h0 (h1' h1), if_neg h2]; rw [← List.map_drop, ← List.map_take, part_one h0 (h1' h1)]; done)
 try simp only [HS] at h2
 refine W_skip (tN (sQ (rG (eK 4 Z (kZ [4,5,27,29] Z (eK 2 Z (evI ?_)))))))
 first | refine WO_sliceNil tys rfl rfl (lt_of rfl) rfl rfl rfl rfl rfl rfl rfl ?_ | refine WO_sliceT tys rfl rfl (lt_of rfl) rfl rfl rfl rfl rfl rfl rfl rfl (by first | omega | (simp only [List.length_map]; omega)) (by first | omega | (simp only [List.length_map]; omega)) (by first | omega | (simp only [List.length_map]; omega)) ?_ | refine WO_sliceS tys rfl rfl (lt_of rfl) rfl rfl rfl rfl rfl rfl rfl rfl rfl (by omega) (by omega) (by omega) ?_
 refine eZ Z (oN (tN ?_))
 first | refine W_le (Le.nilT (u := 4) 4 rfl) ?_ | skip
 refine rT (eR ?_)
 ·first
  | (rw [ways, if_neg h1]; rfl)
  | (rw [ways_at h1 h0 (h1' h1), if_pos h2]; done)
  | (rw [ways_at h1 h0 (h1' h1), if_neg h2]; rw [← List.map_drop, ← List.map_take, part_one h0 (h1' h1)]; done)
def at0 {α : Type} (d : α) (l : List α) (i : Int) : α := (l[i.toNat]?).getD d
theorem at0_of {α : Type} {d : α} {l : List α} {i : Int} (h0 : 0 ≤ i) (h1 : i < l.length) : at0 d l i = l[i.toNat]'(by omega) := by
 unfold at0; rw [List.getElem?_eq_getElem (by omega)]; rfl
def alone (w : World) (a : Act) : Bool := if a.kind = 1 then at0 false w.shut a.chan || decide (((at0 [] w.held a.chan).length : Int) < at0 0 w.room a.chan) else if a.kind = 2 then at0 false w.shut a.chan || decide ((0 : Int) < (at0 [] w.held a.chan).length) else true
theorem l15Alone_fun (w : World) (a : Act) (hc0 : 0 ≤ a.chan) (hc1 : a.chan < w.room.length) (hh : (w.held.length : Int) = w.room.length) (hs : (w.shut.length : Int) = w.room.length) (hr : w.room.length ≤ 3) : Fun Try.prog 82 [.t w.tt, .t a.tt] (tupD [.t (.bool (alone w a))]) := by
 refine Fun.begin tys Try.func82 Z Z (N := 49) [(0, .t w.tt), (1, .t a.tt)] Z Z (fun w0 G F0 => ?_)
 refine sQ (rG (WO_box Z Z (lt_of Z) Z Z (nZ Z (WO_box Z Z (lt_of Z) Z Z (nZ Z (eZ Z (oN (tN (sQ (sQ (rG (eK 2 Z (oN (tN (W_block ?_)))))))))))))))
 refine sQ (rG (eK 2 Z (oN (tN ?_))))
 refine W_cond Z (fun h1 => ?_) (fun h1 => ?_)
 ·
  try simp only [HS] at h1
  refine sQ (kY [2,3,4] Z (W_regionD mixed (by kernel_rfl) (evQ ?_)))
  refine evQ ?_
  refine evQ ?_
  refine evQ ?_
  first | refine QL_idxT tys rfl rfl (lt_of rfl) rfl rfl rfl rfl rfl rfl rfl (by omega) _ (getT _ _ (by omega) (by omega)) ?_ | refine QL_idxS tys rfl rfl (lt_of rfl) rfl rfl rfl rfl rfl rfl rfl rfl (by omega) (by omega) ?_
  first | refine evQ ?_ | refine QL_loadL tys rfl rfl (lt_of rfl) rfl rfl rfl rfl (getT _ _ (by omega) (by omega)) rfl ?_ | refine QL_loadL tys rfl rfl (lt_of rfl) rfl rfl rfl rfl (getT0 _ _ (by omega) (by omega)) rfl ?_
  refine QL_norm Z (evQ ?_)
  refine QL_split (fun h2 => ?_) (fun h2 => ?_)
  ·
   try simp only [HS] at h2
   iterate 14 (refine QL_guardN rfl rfl rfl rfl rfl (lt_of rfl) ?_)
   refine evQ ?_
   refine evQ ?_
   refine QL_nil (tN (rT (bR (tR (eR ?_)))))
   ·have e1 := at0_of (d := false) (l := w.shut) hc0 (by omega)
    have e2 := at0_of (d := []) (l := w.held) hc0 (by omega)
    have e3 := at0_of (d := 0) (l := w.room) hc0 (by omega)
    exact retB (by grind [alone])
  try simp only [HS] at h2
  refine QL_guardY Z Z Z Z (lt_of Z) (evQ ?_)
  refine QL_guardY Z Z Z Z (lt_of Z) (evQ ?_)
  refine QL_guardY Z Z Z Z (lt_of Z) (evQ ?_)
  refine QL_guardY Z Z Z Z (lt_of Z) (evQ ?_)
  refine QL_guardY Z Z Z Z (lt_of Z) ?_
  first | refine QL_idxT tys rfl rfl (lt_of rfl) rfl rfl rfl rfl rfl rfl rfl (by omega) _ (getT _ _ (by omega) (by omega)) ?_ | refine QL_idxS tys rfl rfl (lt_of rfl) rfl rfl rfl rfl rfl rfl rfl rfl (by omega) (by omega) ?_
  refine QL_norm Z (QL_guardY Z Z Z Z (lt_of Z) ?_)
  first | refine evQ ?_ | refine QL_loadL tys rfl rfl (lt_of rfl) rfl rfl rfl rfl (getT _ _ (by omega) (by omega)) rfl ?_ | refine QL_loadL tys rfl rfl (lt_of rfl) rfl rfl rfl rfl (getT0 _ _ (by omega) (by omega)) rfl ?_
  refine QL_guardY Z Z Z Z (lt_of Z) (evEQ ?_)
  refine QL_guardY Z Z Z Z (lt_of Z) (evQ ?_)
  refine QL_guardY Z Z Z Z (lt_of Z) (evQ ?_)
  refine QL_guardY Z Z Z Z (lt_of Z) (evQ ?_)
  refine QL_guardY Z Z Z Z (lt_of Z) (evQ ?_)
  refine QL_norm Z (QL_guardY Z Z Z Z (lt_of Z) ?_)
  first | refine QL_idxT tys rfl rfl (lt_of rfl) rfl rfl rfl rfl rfl rfl rfl (by omega) _ (getT _ _ (by omega) (by omega)) ?_ | refine QL_idxS tys rfl rfl (lt_of rfl) rfl rfl rfl rfl rfl rfl rfl rfl (by omega) (by omega) ?_
  refine QL_guardY Z Z Z Z (lt_of Z) ?_
  first | refine evQ ?_ | refine QL_loadL tys rfl rfl (lt_of rfl) rfl rfl rfl rfl (getT _ _ (by omega) (by omega)) rfl ?_ | refine QL_loadL tys rfl rfl (lt_of rfl) rfl rfl rfl rfl (getT0 _ _ (by omega) (by omega)) rfl ?_
  refine QL_guardY Z Z Z Z (lt_of Z) (evQ ?_)
  refine evQ ?_
  refine evQ ?_
  refine QL_nil (tN (rT (bR (tR (eR ?_)))))
  ·have e1 := at0_of (d := false) (l := w.shut) hc0 (by omega)
   have e2 := at0_of (d := []) (l := w.held) hc0 (by omega)
   have e3 := at0_of (d := 0) (l := w.room) hc0 (by omega)
   exact retB (by grind [alone])
 try simp only [HS] at h1
 refine sQ (kY [2,3,4,6] Z (rG (eK 2 Z (oN (tN ?_)))))
 refine W_cond Z (fun h2 => ?_) (fun h2 => ?_)
 ·
  try simp only [HS] at h2
  refine sQ (rG (eK 4 Z ?_))
  first | refine WO_idxT tys rfl rfl (lt_of rfl) rfl rfl rfl rfl rfl rfl rfl (by omega) _ (getT _ _ (by omega) (by omega)) ?_ | refine WO_idxS tys rfl rfl (lt_of rfl) rfl rfl rfl rfl rfl rfl rfl rfl (by omega) (by omega) ?_
  first | refine ev ?_ | refine WO_loadL tys rfl rfl (lt_of rfl) rfl rfl rfl rfl (getT _ _ (by omega) (by omega)) rfl ?_ | refine WO_loadL tys rfl rfl (lt_of rfl) rfl rfl rfl rfl (getT0 _ _ (by omega) (by omega)) rfl ?_
  refine eZ Z (kZ [2,3,4,39] Z ?_)
  refine WO_guard Z Z Z Z (lt_of Z) (fun h3 => ?_) (fun h3 => ?_)
  rotate_left
  ·
   try simp only [HS] at h3
   refine gM Z (gM Z (gM Z (gM Z (gM Z (gM Z (gM Z (eK 2 Z (kZ [4] Z (oN (tN (rT (bR (tR (eR ?_))))))))))))))
   ·have e1 := at0_of (d := false) (l := w.shut) hc0 (by omega)
    have e2 := at0_of (d := []) (l := w.held) hc0 (by omega)
    have e3 := at0_of (d := 0) (l := w.room) hc0 (by omega)
    exact retB (by grind [alone])
  try simp only [HS] at h3
  refine eZ Z (gY Z (eZ Z (gY Z (eZ Z (gY Z (eZ Z (gY Z ?_)))))))
  first | refine WO_idxT tys rfl rfl (lt_of rfl) rfl rfl rfl rfl rfl rfl rfl (by omega) _ (getT _ _ (by omega) (by omega)) ?_ | refine WO_idxS tys rfl rfl (lt_of rfl) rfl rfl rfl rfl rfl rfl rfl rfl (by omega) (by omega) ?_
  refine gY Z ?_
  first | refine ev ?_ | refine WO_loadL tys rfl rfl (lt_of rfl) rfl rfl rfl rfl (getT _ _ (by omega) (by omega)) rfl ?_ | refine WO_loadL tys rfl rfl (lt_of rfl) rfl rfl rfl rfl (getT0 _ _ (by omega) (by omega)) rfl ?_
  refine gY Z (evE ?_)
  refine gY Z (eK 2 Z (kZ [4,48] Z (eZ Z (oN (tN (rT (bR (tR (eR ?_)))))))))
  ·have e1 := at0_of (d := false) (l := w.shut) hc0 (by omega)
   have e2 := at0_of (d := []) (l := w.held) hc0 (by omega)
   have e3 := at0_of (d := 0) (l := w.room) hc0 (by omega)
   exact retB (by grind [alone])
 try simp only [HS] at h2
 refine W_skip (bN (tN (sQ (rG (eZ Z (oN (tN (rT (eR ?_)))))))))
 ·have e1 := at0_of (d := false) (l := w.shut) hc0 (by omega)
  have e2 := at0_of (d := []) (l := w.held) hc0 (by omega)
  have e3 := at0_of (d := 0) (l := w.room) hc0 (by omega)
  exact retB (by grind [alone])
theorem isAlone_fun (w : World) (a : Act) (hc0 : 0 ≤ a.chan) (hc1 : a.chan < w.room.length) (hh : (w.held.length : Int) = w.room.length) (hs : (w.shut.length : Int) = w.room.length) (hr : w.room.length ≤ 3) : Fun Try.prog 79 [.t w.tt, .t a.tt] (tupD [.t (.bool (alone w a))]) := by
 refine Fun.begin tys Try.func79 Z Z (N := 49) [(0, .t w.tt), (1, .t a.tt)] Z Z (fun w0 G F0 => ?_)
 refine sQ (rG (WO_box Z Z (lt_of Z) Z Z (nZ Z (WO_box Z Z (lt_of Z) Z Z (nZ Z (eZ Z (oN (tN (sQ (sQ (rG (eK 2 Z (oN (tN (W_block ?_)))))))))))))))
 refine sQ (rG (eK 2 Z (oN (tN ?_))))
 refine W_cond Z (fun h1 => ?_) (fun h1 => ?_)
 ·
  try simp only [HS] at h1
  refine sQ (kY [2,3,4] Z (W_regionD mixed (by kernel_rfl) (evQ ?_)))
  refine evQ ?_
  refine evQ ?_
  refine evQ ?_
  first | refine QL_idxT tys rfl rfl (lt_of rfl) rfl rfl rfl rfl rfl rfl rfl (by omega) _ (getT _ _ (by omega) (by omega)) ?_ | refine QL_idxS tys rfl rfl (lt_of rfl) rfl rfl rfl rfl rfl rfl rfl rfl (by omega) (by omega) ?_
  first | refine evQ ?_ | refine QL_loadL tys rfl rfl (lt_of rfl) rfl rfl rfl rfl (getT _ _ (by omega) (by omega)) rfl ?_ | refine QL_loadL tys rfl rfl (lt_of rfl) rfl rfl rfl rfl (getT0 _ _ (by omega) (by omega)) rfl ?_
  refine QL_norm Z (evQ ?_)
  refine QL_split (fun h2 => ?_) (fun h2 => ?_)
  ·
   try simp only [HS] at h2
   iterate 14 (refine QL_guardN rfl rfl rfl rfl rfl (lt_of rfl) ?_)
   refine evQ ?_
   refine evQ ?_
   refine QL_nil (tN (rT (bR (tR (eR ?_)))))
   ·have e1 := at0_of (d := false) (l := w.shut) hc0 (by omega)
    have e2 := at0_of (d := []) (l := w.held) hc0 (by omega)
    have e3 := at0_of (d := 0) (l := w.room) hc0 (by omega)
    exact retB (by grind [alone])
  try simp only [HS] at h2
  refine QL_guardY Z Z Z Z (lt_of Z) (evQ ?_)
  refine QL_guardY Z Z Z Z (lt_of Z) (evQ ?_)
  refine QL_guardY Z Z Z Z (lt_of Z) (evQ ?_)
  refine QL_guardY Z Z Z Z (lt_of Z) (evQ ?_)
  refine QL_guardY Z Z Z Z (lt_of Z) ?_
  first | refine QL_idxT tys rfl rfl (lt_of rfl) rfl rfl rfl rfl rfl rfl rfl (by omega) _ (getT _ _ (by omega) (by omega)) ?_ | refine QL_idxS tys rfl rfl (lt_of rfl) rfl rfl rfl rfl rfl rfl rfl rfl (by omega) (by omega) ?_
  refine QL_norm Z (QL_guardY Z Z Z Z (lt_of Z) ?_)
  first | refine evQ ?_ | refine QL_loadL tys rfl rfl (lt_of rfl) rfl rfl rfl rfl (getT _ _ (by omega) (by omega)) rfl ?_ | refine QL_loadL tys rfl rfl (lt_of rfl) rfl rfl rfl rfl (getT0 _ _ (by omega) (by omega)) rfl ?_
  refine QL_guardY Z Z Z Z (lt_of Z) (evEQ ?_)
  refine QL_guardY Z Z Z Z (lt_of Z) (evQ ?_)
  refine QL_guardY Z Z Z Z (lt_of Z) (evQ ?_)
  refine QL_guardY Z Z Z Z (lt_of Z) (evQ ?_)
  refine QL_guardY Z Z Z Z (lt_of Z) (evQ ?_)
  refine QL_norm Z (QL_guardY Z Z Z Z (lt_of Z) ?_)
  first | refine QL_idxT tys rfl rfl (lt_of rfl) rfl rfl rfl rfl rfl rfl rfl (by omega) _ (getT _ _ (by omega) (by omega)) ?_ | refine QL_idxS tys rfl rfl (lt_of rfl) rfl rfl rfl rfl rfl rfl rfl rfl (by omega) (by omega) ?_
  refine QL_guardY Z Z Z Z (lt_of Z) ?_
  first | refine evQ ?_ | refine QL_loadL tys rfl rfl (lt_of rfl) rfl rfl rfl rfl (getT _ _ (by omega) (by omega)) rfl ?_ | refine QL_loadL tys rfl rfl (lt_of rfl) rfl rfl rfl rfl (getT0 _ _ (by omega) (by omega)) rfl ?_
  refine QL_guardY Z Z Z Z (lt_of Z) (evQ ?_)
  refine evQ ?_
  refine evQ ?_
  refine QL_nil (tN (rT (bR (tR (eR ?_)))))
  ·have e1 := at0_of (d := false) (l := w.shut) hc0 (by omega)
   have e2 := at0_of (d := []) (l := w.held) hc0 (by omega)
   have e3 := at0_of (d := 0) (l := w.room) hc0 (by omega)
   exact retB (by grind [alone])
 try simp only [HS] at h1
 refine sQ (kY [2,3,4,6] Z (rG (eK 2 Z (oN (tN ?_)))))
 refine W_cond Z (fun h2 => ?_) (fun h2 => ?_)
 ·
  try simp only [HS] at h2
  refine sQ (rG (eK 4 Z ?_))
  first | refine WO_idxT tys rfl rfl (lt_of rfl) rfl rfl rfl rfl rfl rfl rfl (by omega) _ (getT _ _ (by omega) (by omega)) ?_ | refine WO_idxS tys rfl rfl (lt_of rfl) rfl rfl rfl rfl rfl rfl rfl rfl (by omega) (by omega) ?_
  first | refine ev ?_ | refine WO_loadL tys rfl rfl (lt_of rfl) rfl rfl rfl rfl (getT _ _ (by omega) (by omega)) rfl ?_ | refine WO_loadL tys rfl rfl (lt_of rfl) rfl rfl rfl rfl (getT0 _ _ (by omega) (by omega)) rfl ?_
  refine eZ Z (kZ [2,3,4,39] Z ?_)
  refine WO_guard Z Z Z Z (lt_of Z) (fun h3 => ?_) (fun h3 => ?_)
  rotate_left
  ·
   try simp only [HS] at h3
   refine gM Z (gM Z (gM Z (gM Z (gM Z (gM Z (gM Z (eK 2 Z (kZ [4] Z (oN (tN (rT (bR (tR (eR ?_))))))))))))))
   ·have e1 := at0_of (d := false) (l := w.shut) hc0 (by omega)
    have e2 := at0_of (d := []) (l := w.held) hc0 (by omega)
    have e3 := at0_of (d := 0) (l := w.room) hc0 (by omega)
    exact retB (by grind [alone])
  try simp only [HS] at h3
  refine eZ Z (gY Z (eZ Z (gY Z (eZ Z (gY Z (eZ Z (gY Z ?_)))))))
  first | refine WO_idxT tys rfl rfl (lt_of rfl) rfl rfl rfl rfl rfl rfl rfl (by omega) _ (getT _ _ (by omega) (by omega)) ?_ | refine WO_idxS tys rfl rfl (lt_of rfl) rfl rfl rfl rfl rfl rfl rfl rfl (by omega) (by omega) ?_
  refine gY Z ?_
  first | refine ev ?_ | refine WO_loadL tys rfl rfl (lt_of rfl) rfl rfl rfl rfl (getT _ _ (by omega) (by omega)) rfl ?_ | refine WO_loadL tys rfl rfl (lt_of rfl) rfl rfl rfl rfl (getT0 _ _ (by omega) (by omega)) rfl ?_
  refine gY Z (evE ?_)
  refine gY Z (eK 2 Z (kZ [4,48] Z (eZ Z (oN (tN (rT (bR (tR (eR ?_)))))))))
  ·have e1 := at0_of (d := false) (l := w.shut) hc0 (by omega)
   have e2 := at0_of (d := []) (l := w.held) hc0 (by omega)
   have e3 := at0_of (d := 0) (l := w.room) hc0 (by omega)
   exact retB (by grind [alone])
 try simp only [HS] at h2
 refine W_skip (bN (tN (sQ (rG (eZ Z (oN (tN (rT (eR ?_)))))))))
 ·have e1 := at0_of (d := false) (l := w.shut) hc0 (by omega)
  have e2 := at0_of (d := []) (l := w.held) hc0 (by omega)
  have e3 := at0_of (d := 0) (l := w.room) hc0 (by omega)
  exact retB (by grind [alone])
structure Good (w : World) : Prop where
 room : w.room.length ≤ 3
 held : (w.held.length : Int) = w.room.length
 shut : (w.shut.length : Int) = w.room.length
 tasks : w.tasks.length ≤ 4
 pos : ∀ t, t ∈ w.tasks → 0 ≤ t.pos ∧ (t.state = 0 → t.pos < t.acts.length) ∧ t.acts.length ≤ 6
 ways : ∀ t, t ∈ w.tasks → (ways t).length ≤ 3 ∧ ∀ a, a ∈ ways t → 0 ≤ a.chan ∧ a.chan < w.room.length
theorem good_of {w : World} (h : goodWorld w = true) : Good w := by
 unfold goodWorld at h
 simp only [Bool.and_eq_true, decide_eq_true_eq, List.all_eq_true] at h
 obtain ⟨h1, h2, h3, h4, h5, h6, h7, h8, h9⟩ := h
 have ht : ∀ t, t ∈ w.tasks → (0 ≤ t.pos ∧ (t.state = 0 → t.pos < t.acts.length) ∧ t.acts.length ≤ 6) ∧ ∀ a, a ∈ t.acts → goodAct w.room.length a = true := fun t ht => by
  have := h9 t ht
  unfold goodTask goodActs at this
  simp only [Bool.and_eq_true, decide_eq_true_eq, List.all_eq_true] at this
  obtain ⟨⟨q1, q2⟩, q3, q4, q5, q6⟩ := this
  refine ⟨⟨q3.1, fun hs => ?_, by omega⟩, q1⟩
  have : ¬ t.pos = t.acts.length := fun e => by have := q6.2 e; omega
  omega
 refine ⟨by omega, h2, h3, by omega, fun t h => (ht t h).1, fun t hm => ?_⟩
 obtain ⟨⟨p0, p1, p2⟩, p3⟩ := ht t hm
 by_cases hs : t.state = 0
 ·have hp := p1 hs
  rw [ways_at hs p0 hp]
  have hg := p3 _ (List.getElem_mem (l := t.acts) (n := t.pos.toNat) (by omega))
  unfold goodAct at hg
  split
  ·rename_i hk
   rw [if_pos hk] at hg
   simp only [Bool.and_eq_true, decide_eq_true_eq, List.all_eq_true] at hg
   refine ⟨by omega, fun a ha => ?_⟩
   have := hg.1 a ha
   unfold caseAct plainAct at this
   simp only [Bool.and_eq_true, decide_eq_true_eq] at this
   exact ⟨this.2.1.2.1, by omega⟩
  ·rename_i hk
   rw [if_neg hk] at hg
   unfold plainAct at hg
   simp only [Bool.and_eq_true, decide_eq_true_eq] at hg
   refine ⟨by simp, fun a ha => ?_⟩
   rw [List.mem_singleton] at ha
   subst ha
   exact ⟨hg.1.2.1, by omega⟩
 ·unfold Go.Proofs.Ytpgodgmgfhbngaa.ways
  rw [if_neg hs]
  exact ⟨by simp, fun a ha => by cases ha⟩
def mvB (i k : Int) (a : Act) (j : Int) : List Act → Int → List (List Int) → List (List Int)
 | [], _, acc => acc
 | b :: l, m, acc => mvB i k a j l (m + 1) (if ¬ i = j ∧ b.kind = 2 ∧ b.chan = a.chan then acc ++ [[i, k, j, m]] else acc)
def mvU (i k : Int) (a : Act) : List Task → Int → List (List Int) → List (List Int)
 | [], _, acc => acc
 | u :: l, j, acc => mvU i k a l (j + 1) (mvB i k a j (ways u) 0 acc)
def mvS (w : World) (a : Act) : Bool := decide (a.kind = 1) && (!at0 false w.shut a.chan && decide (((at0 [] w.held a.chan).length : Int) ≤ 0))
def mvA (w : World) (i : Int) : List Act → Int → List (List Int) → List (List Int)
 | [], _, acc => acc
 | a :: l, k, acc => mvA w i l (k + 1) (if mvS w a then mvU i k a w.tasks 0 (if alone w a then acc ++ [[i, k, -1, 0]] else acc) else (if alone w a then acc ++ [[i, k, -1, 0]] else acc))
def mvT (w : World) : List Task → Int → List (List Int) → List (List Int)
 | [], _, acc => acc
 | t :: l, i, acc => mvT w l (i + 1) (mvA w i (ways t) 0 acc)
def movesOf (w : World) : List (List Int) := mvT w w.tasks 0 []
theorem mvB_at {i k j m : Int} {a : Act} {l : List Act} {acc : List (List Int)} (h0 : 0 ≤ m) (h1 : m < l.length) : mvB i k a j (l.drop m.toNat) m acc = mvB i k a j (l.drop (m + 1).toNat) (m + 1) (if ¬ i = j ∧ (l[m.toNat]'(by omega)).kind = 2 ∧ (l[m.toNat]'(by omega)).chan = a.chan then acc ++ [[i, k, j, m]] else acc) := by
 rw [drop_at h0 h1, mvB]
theorem mvU_at {i k j : Int} {a : Act} {l : List Task} {acc : List (List Int)} (h0 : 0 ≤ j) (h1 : j < l.length) : mvU i k a (l.drop j.toNat) j acc = mvU i k a (l.drop (j + 1).toNat) (j + 1) (mvB i k a j (ways (l[j.toNat]'(by omega))) 0 acc) := by
 rw [drop_at h0 h1, mvU]
theorem mvA_at {w : World} {i k : Int} {l : List Act} {acc : List (List Int)} (h0 : 0 ≤ k) (h1 : k < l.length) : mvA w i (l.drop k.toNat) k acc = mvA w i (l.drop (k + 1).toNat) (k + 1)
  (if mvS w (l[k.toNat]'(by omega)) then mvU i k (l[k.toNat]'(by omega)) w.tasks 0 (if alone w (l[k.toNat]'(by omega)) then acc ++ [[i, k, -1, 0]] else acc) else (if alone w (l[k.toNat]'(by omega)) then acc ++ [[i, k, -1, 0]] else acc)) := by
 rw [drop_at h0 h1, mvA]
theorem mvT_at {w : World} {i : Int} {l : List Task} {acc : List (List Int)} (h0 : 0 ≤ i) (h1 : i < l.length) : mvT w (l.drop i.toNat) i acc = mvT w (l.drop (i + 1).toNat) (i + 1) (mvA w i (ways (l[i.toNat]'(by omega))) 0 acc) := by
 rw [drop_at h0 h1, mvT]
end Go.Proofs.Ytpgodgmgfhbngaa
