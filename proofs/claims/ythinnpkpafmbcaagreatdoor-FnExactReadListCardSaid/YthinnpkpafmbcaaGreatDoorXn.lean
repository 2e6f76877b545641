/- Walks and laws of the claim. -/
import Derived.Test.YthinnpkpafmbcaaGreatDoorXe
import Derived.Test.YthinnpkpafmbcaaGreatDoorXlB
import Derived.Test.YthinnpkpafmbcaaGreatDoorMe
import Derived.Test.YthinnpkpafmbcaaGreatDoorXd
import Derived.Test.YthinnpkpafmbcaaGreatDoorFa
import Derived.Shelf.Bits.Mul64
import Derived.Lib.BitFns
import Derived.Lib.Walk
set_option linter.unusedVariables false
set_option linter.unusedSimpArgs false
set_option maxRecDepth 100000
set_option maxHeartbeats 4000000
namespace Go.Proofs.YthinnpkpafmbcaaGreatDoor
open Go.Eng
open Go.RowKit Go.Lib Go.Shelf Go.Eng
theorem isB {b : Nat} {p v : Value} {l : List UInt8} {w : World} (h : Go.Proofs.BldAt 82 5 b p v l w) : Lib.IsBuilder 82 5 0 b (byteCells l) w := by
 obtain ⟨h1, h2, h3, h4⟩ := h
 have e : (byteCells l).length = l.length := by simp [byteCells]
 rcases h2 with rfl | rfl
 ·exact .inl ⟨OU _, v, h1, by rw [e]; exact h3, h4⟩
 ·exact .inr ⟨OU _, v, h1, by rw [e]; exact h3, h4⟩
theorem NK (b : Nat) (l : List UInt8) :
  Go.Eng.Proc Tryz.prog 59 [.t (.v (.pointer (some ⟨b, 0, none⟩)))] [] [] [.bld 82 5 b l] (.t (.int l.length)) [.bld 82 5 b l] := by
 refine ⟨⟨_, Tryz.func59, rfl, rfl⟩, fun w F args bs hF hargs _ hms hnd hbs => ?_⟩
 have he := BQ (vs := [.pointer (some ⟨b, 0, none⟩)]) hargs
 have ha : args = #[.pointer (some ⟨b, 0, none⟩)] := by rw [← Array.toArray_toList (xs := args), he]
 subst ha
 have hms' := hms
 obtain ⟨b1, b2, hm, h0, rfl⟩ := hms
 have h0' : b2 = [] := h0
 subst h0';rw [OI] at hnd
 obtain ⟨p, v, hb, rfl⟩ := JT hm hnd
 refine (Tryz.Builder_Len 0 b (byteCells l) w (isB hb)).mono ?_
 rintro e w' ⟨rfl, rfl⟩
 have e1 : (byteCells l).length = l.length := by simp [byteCells]
 rw [e1];exact ⟨_, [], _, rfl, .t (.v rfl .nil) .done, hms', by simpa using hnd, fun x hx => .inl (by simpa using hx), rfl, rfl, rfl, OJ _, fun _ _ _ => rfl⟩
open Go.RowKit Go.Lib Go.Shelf
theorem Fg (b : Nat) (p v : Value) (l : List UInt8) (x : UInt8) (w : World) (h : Go.Proofs.BldAt 82 5 b p v l w) (hlen : l.length + 1 ≤ 140737488355328) :
  Calls Tryz.prog 62 #[.pointer (some ⟨b, 0, none⟩), .int .u8 (x.toNat : Int)] w fun e w' => e = .returned .nilIface ∧ ∃ v', Go.Proofs.BldAt 82 5 b (.pointer (some ⟨b, 0, none⟩)) v' (l ++ [x]) w' ∧ Go.Proofs.BldKept b v v' w w' := by
 obtain ⟨i0, hi, hz0, hz1, hz2⟩ := info_parts (show (Tryz.prog.info? 5).map (fun i => (i.zero, i.size, i.bytes)) = some (some (.int .u8 0), 1, 1) by kernel_rfl)
 go_enter Tryz.func62, Tryz.ntmps62
 go_wp2_with (go_at_call 100; refine (F1 b p v l _ h).mono ?_)
 rintro e w1 ⟨rfl, h1, hw1⟩
 obtain ⟨hbk, _, hown, hne⟩ := h1
 have c0 : w1.cell? ⟨b, 0, none⟩ = some (.pointer (some ⟨b, 0, none⟩)) := by rw [Lib.cell_of_heap hbk]; rfl
 have c1 : w1.cell? ⟨b, 1, none⟩ = some v := by rw [Lib.cell_of_heap hbk]; rfl
 have hlt : b < w1.heap.size := by
  rcases Nat.lt_or_ge b w1.heap.size with h' | h'
  ·exact h'
  ·simp [Array.getElem?_eq_none h'] at hbk
 have hownA : ∀ o, (w1.alloc o).ownsRow 0 5 1 v l.length (byteCells l) := fun o => hown.kept (World.grownBy_alloc w1 o none) (by cases hv : v.ownBlock <;> simp)
 go_wp2_with (at_builtin; refine Go.Eng.wpList_append_exactC rfl _ _ 80 rfl 5 i0 (.int .u8 0) (show Tryz.prog.underlying 80 = some (.slice 5) by kernel_rfl) hi hz0 hz1 hz2 rfl _ _ _ rfl (hownA _) ⟨w1.heap.size, 0, none⟩ 1 1 [.int .u8 (x.toNat : Int)] rfl rfl ?c1 ?c2 ?c3 ?c4 ?_)
 case c1 =>
  intro j u hj
  match j, hj with
  | 0, hj => simp at hj; subst hj; simp [Addr.add]
 case c2 => intro u hu; simp at hu; subst hu; rfl
 case c3 => unfold maxLen; omega
 case c4 => omega
 intro v' w2 hown' hgrow hrow
 have hb2 : w2.heap[b]? = some (.cells #[.pointer (some ⟨b, 0, none⟩), v] 82 (0, 0)) := by
  rw [hgrow.block b (by simp; omega) (fun e => hne e.symm), Lib.alloc_old w1 _ b hlt];exact hbk
 have d0 : w2.cell? ⟨b, 0, none⟩ = some (.pointer (some ⟨b, 0, none⟩)) := by rw [Lib.cell_of_heap hb2]; rfl
 have d1 : w2.cell? ⟨b, 1, none⟩ = some v := by rw [Lib.cell_of_heap hb2]; rfl
 have f1 : w2.frozen? ⟨b, 1, none⟩ = false := Lib.frozen_of_heap hb2 1
 obtain ⟨ao, n', cap, rfl⟩ : ∃ ao n' cap, v' = .slice ao n' cap := by
  rcases hown'.2 with ⟨hv, _⟩ | ⟨g, cap, cur, hv, _⟩
  ·exact ⟨_, _, _, hv⟩
  ·exact ⟨_, _, _, hv⟩
 go_wp2
 go_ret
 have hne' : (Value.slice ao n' cap).ownBlock ≠ some b := Lib.ownBlock_neF (World.ownsRowF_of hown') hb2 (by decide)
 have e1 : byteCells (l ++ [x]) = byteCells l ++ [.int .u8 (x.toNat : Int)] := by simp [byteCells]
 have e2 : (l ++ [x]).length = l.length + 1 := by simp
 refine ⟨rfl, .slice ao n' cap, ⟨?_, .inr rfl, ?_, hne'⟩, ?_⟩
 ·simp [World.setCell, Array.getElem?_modify, hb2]
 ·rw [e1, e2]
  exact hown'.kept (row := some b) ⟨rfl, rfl, rfl, by simp [World.setCell], fun k _ hk => Below.heap_setCell _ _ _ _ (fun e => hk (by simp [e]))⟩ (Or.inr hne')
 ·have hs1 : w1.heap.size = w.heap.size := by rcases hw1 with rfl | rfl <;> simp [World.setCell]
  have hk1 : ∀ k, k ≠ b → w1.heap[k]? = w.heap[k]? := by
   intro k hk
   rcases hw1 with rfl | rfl
   ·rfl
   ·exact Below.heap_setCell _ _ _ _ hk
  have ho1 : w1.os = w.os ∧ w1.tape = w.tape ∧ w1.output = w.output := by rcases hw1 with rfl | rfl <;> exact ⟨rfl, rfl, rfl⟩
  refine ⟨hgrow.os.trans ho1.1, hgrow.tape.trans ho1.2.1, hgrow.output.trans ho1.2.2, ?_, fun k hk hkb hkv => ?_, fun g hg => ?_⟩
  ·have := hgrow.size
   simp [World.setCell] at this ⊢; omega
  ·rw [Below.heap_setCell _ _ _ _ hkb, hgrow.block k (by simp; omega) (fun e => hkv e.symm), Lib.alloc_old w1 _ k (by omega), hk1 k hkb]
  ·rcases hrow g hg with h5 | h5
   ·exact .inl h5
   ·refine .inr ⟨by first | omega | (have := World.grownBy_alloc w1 (.cells #[.int .u8 (x.toNat : Int)] 5) none; have h6 := this.size; have h7 : w1.heap.size ≤ g := Nat.le_trans h6 h5; omega), ?_⟩
    rcases hown'.2 with ⟨h6, _⟩ | ⟨g2, c2, cur2, h6, _, h7, _⟩
    ·rw [h6] at hg; cases hg
    ·rw [h6] at hg
     have hg2 : g2 = g := Option.some.inj hg
     subst hg2
     have := (Array.getElem?_eq_some_iff.1 h7).1
     simpa [World.setCell] using this
section
open Go.Eng
theorem F5 (b : Nat) (l : List UInt8) (x : UInt8) (hlen : l.length + 1 ≤ 140737488355328) :
  Go.Eng.Proc Tryz.prog 62 [.t (.v (.pointer (some ⟨b, 0, none⟩))), .t (T.byte x)] [] [] [.bld 82 5 b l] (.t (.v .nilIface)) [.bld 82 5 b (l ++ [x])] := by
 refine ⟨⟨_, Tryz.func62, rfl, rfl⟩, fun w F args bs hF hargs _ hms hnd hbs => ?_⟩
 have he := BQ (vs := [.pointer (some ⟨b, 0, none⟩), .int .u8 (x.toNat : Int)]) hargs
 have ha : args = #[.pointer (some ⟨b, 0, none⟩), .int .u8 (x.toNat : Int)] := by rw [← Array.toArray_toList (xs := args), he]
 subst ha
 obtain ⟨b1, b2, hm, h0, rfl⟩ := hms
 have h0' : b2 = [] := h0
 subst h0';rw [OI] at hnd hbs ⊢
 obtain ⟨p, v, hb, rfl⟩ := JT hm hnd
 refine (Fg b p v l x w hb hlen).mono ?_
 rintro e w' ⟨rfl, v', hb', k⟩
 have hbw := (hbs b (by simp)).1
 refine ⟨_, [], b :: v'.ownBlock.toList, rfl, .t (.v Z .nil) .done, ⟨_, [], Mr hb', rfl, by simp⟩, ?_, fun x hx => ?_, k.os, k.tape, k.output, k.size, fun x hx hn => k.block x hx (fun e => hn (by simp [e])) (fun e => hn (by simp [e]))⟩
 ·rw [OY, N7]
  refine ⟨fun h => hb'.2.2.2 (by simpa using h), by cases v'.ownBlock <;> simp⟩
 ·rw [OY] at hx
  rcases N6.1 hx with rfl | hx
  ·exact .inl (by simp)
  ·rcases k.row x (by simpa using hx) with h5 | h5
   ·exact .inl (by simp [h5])
   ·exact .inr h5
end
theorem ER (b : Nat) (p v : Value) (ao : Option Addr) (n cap : Nat) (q : Option Addr) (u : ByteArray) (w w1 w2 : World) (hv : v = .slice ao n cap)
  (c1 : w.drew.cell? ⟨b, 1, none⟩ = some (.slice ao n cap)) (c2 : w1.cell? ⟨b, 1, none⟩ = some (.slice ao n cap))
  (hSD : (Builtin.unsafeSliceData_ #[80] 131 #[.slice ao n cap]).run Tryz.prog w.drew = .ok (.pointer q) w1)
  (hUS : (Builtin.unsafeString_ #[131, 3] 9 #[.pointer q, .int .i64 n]).run Tryz.prog w1 = .ok (.string u) w2) :
  Calls Tryz.prog 60 #[.pointer (some ⟨b, 0, none⟩)] w fun e w' => e = .returned (.string u) ∧ w' = w2 := by
 have mx : Tryz.prog.follows Departure.mixedOrders = true := mixed
 go_enter Tryz.func60, Tryz.ntmps60
 go_wp2
 go_region_o
 all_goals (go_wp2; go_ret; exact ⟨rfl, rfl⟩)
theorem IW (b : Nat) (p v : Value) (l : List UInt8) (w : World) (h : Go.Proofs.BldAt 82 5 b p v l w) :
  Calls Tryz.prog 60 #[.pointer (some ⟨b, 0, none⟩)] w fun e w' => e = .returned (.string ⟨l.toArray⟩) ∧ w'.os = w.os ∧ w'.tape = w.tape ∧ w'.output = w.output ∧ w.heap.size ≤ w'.heap.size ∧
   ∀ k, k < w.heap.size → k ≠ b → v.ownBlock ≠ some k → w'.heap[k]? = w.heap[k]? := by
 obtain ⟨hbk, _, hown, hne⟩ := h
 have hlt : b < w.heap.size := by
  rcases Nat.lt_or_ge b w.heap.size with h' | h'
  ·exact h'
  ·simp [Array.getElem?_eq_none h'] at hbk
 have tU8 : Tryz.prog.underlying 131 = some (.pointer 5) := by kernel_rfl
 have cU8 : Tryz.prog.cellsOf 5 = 1 := by kernel_rfl
 have c1 : w.drew.cell? ⟨b, 1, none⟩ = some v := by
  have h9 : w.drew.heap[b]? = some (.cells #[p, v] 82 (0, 0)) := hbk
  rw [Lib.cell_of_heap h9]; rfl
 rcases hown.2 with ⟨rfl, hl0⟩ | ⟨g, cap, cur, rfl, hbg, hg, hnc, hcm, hcs, htake⟩
 ·have hl : l = [] := List.length_eq_zero_iff.1 hl0
  subst hl;refine (ER b p _ none 0 0 none .empty w w.drew w.drew Z c1 c1 Z (Lib.run_unsafeString_none _ _ _ _ _)).mono ?_
  rintro e w' ⟨rfl, rfl⟩
  exact ⟨rfl, rfl, rfl, rfl, OJ _, fun k _ _ _ => rfl⟩
 ·have hg' : w.drew.heap[g]? = some (.cells cur 5 (0, 0)) := hg
  by_cases hl : l = []
  ·subst hl
   by_cases hc0 : cap = 0
   ·subst hc0
    have hSD : (Builtin.unsafeSliceData_ #[80] 131 #[.slice (some ⟨g, 0, none⟩) 0 0]).run Tryz.prog w.drew = .ok (.pointer (some ⟨w.drew.heap.size, 0, none⟩)) (w.drew.alloc (.view ⟨g, 0, none⟩ 5)) :=
     Lib.run_unsafeSliceData_zero w.drew _ _ 5 tU8 ⟨g, 0, none⟩ 0 (5, cur.size) (by simp [World.shape?, hg'])
    refine (ER b p _ (some ⟨g, 0, none⟩) 0 0 _ .empty w _ _ Z c1 ?_ hSD (Lib.run_unsafeString_none _ _ _ _ _)).mono ?_
    ·have h9 : (w.drew.alloc (.view ⟨g, 0, none⟩ 5)).heap[b]? = _ := (Lib.alloc_old w.drew _ b hlt).trans hbk
     rw [Lib.cell_of_heap h9]; rfl
    ·rintro e w' ⟨rfl, rfl⟩
     exact ⟨rfl, rfl, rfl, rfl, (World.grownBy_alloc w.drew (.view ⟨g, 0, none⟩ 5) none).size, fun k hk _ _ => Lib.alloc_old w.drew _ k hk⟩
   ·refine (ER b p _ (some ⟨g, 0, none⟩) 0 cap _ .empty w w.drew w.drew Z c1 c1 (Lib.run_unsafeSliceData_row _ _ _ _ _ _ hc0) (Lib.run_unsafeString_none _ _ _ _ _)).mono ?_
    rintro e w' ⟨rfl, rfl⟩
    exact ⟨rfl, rfl, rfl, rfl, OJ _, fun k _ _ _ => rfl⟩
  ·have hl0 : l.length ≠ 0 := by simpa using hl
   have hUS : (Builtin.unsafeString_ #[131, 3] 9 #[.pointer (some ⟨g, 0, none⟩), .int .i64 l.length]).run Tryz.prog w.drew = .ok (.string ⟨l.toArray⟩) (w.drew.freeze ⟨g, 0, none⟩ l.length) := by
    refine Lib.run_unsafeString_row w.drew _ _ _ 5 tU8 cU8 g cur.size (by simp [World.shape?, hg']) l hl (by omega) (by unfold maxLen at hcm; omega) ?_;intro j x hx;exact (World.ownsRowF_of hown).cells (g := g) rfl j (.int .u8 x.toNat) (by simp [Lib.byteCells, hx])
   refine (ER b p _ (some ⟨g, 0, none⟩) l.length cap _ _ w w.drew _ Z c1 c1 (Lib.run_unsafeSliceData_row _ _ _ _ _ _ (by omega)) hUS).mono ?_
   rintro e w' ⟨rfl, rfl⟩
   have hf := Lib.below_freeze (Below.refl g w.drew) (p := ⟨g, 0, none⟩) (OJ _) l.length
   refine ⟨rfl, hf.os, hf.tape, hf.output, hf.size, fun k _ _ hk => ?_⟩
   have hkg : g ≠ k := fun e => hk (by simp [Value.ownBlock, e])
   unfold World.freeze;split
   ·rfl
   ·show (w.drew.heap.modify g _)[k]? = w.heap[k]?
    rw [Array.getElem?_modify, if_neg hkg];rfl
section
open Go.Eng
theorem Dg (b : Nat) (l : List UInt8) :
  Go.Eng.Proc Tryz.prog 60 [.t (.v (.pointer (some ⟨b, 0, none⟩)))] [] [] [.bld 82 5 b l] (.t (T.str l)) [.rawV [] []] := by
 refine ⟨⟨_, Tryz.func60, rfl, rfl⟩, fun w F args bs hF hargs _ hms hnd hbs => ?_⟩
 have he := BQ (vs := [.pointer (some ⟨b, 0, none⟩)]) hargs
 have ha : args = #[.pointer (some ⟨b, 0, none⟩)] := by rw [← Array.toArray_toList (xs := args), he]
 subst ha
 obtain ⟨b1, b2, hm, h0, rfl⟩ := hms
 have h0' : b2 = [] := h0
 subst h0';rw [OI] at hnd hbs ⊢
 obtain ⟨p, v, hb, rfl⟩ := JT hm hnd
 refine (IW b p v l w hb).mono ?_
 rintro e w' ⟨rfl, k1, k2, k3, k4, k5⟩
 exact ⟨_, [], [], rfl, .t (.v rfl .nil) .done, ⟨[], [], .nil, rfl, rfl⟩, by simp, fun x hx => absurd hx (by simp), k1, k2, k3, k4, fun x hx hn => k5 x hx (fun e => hn (by simp [e])) (fun e => hn (by simp [e]))⟩
end
open Go.Eng
def Db (i : Ins) : Tx := Cv i.op ++ (if Aw i.op then Hv i.n else [])
def Jm (e : Int) (r : Row) : Tx := Cv (r.lo - e) ++ Cv (r.hi - r.lo) ++ Hv (r.pad - r.hi)
def CE : Int → List Row → Tx
 | _, [] => []
 | e, r :: l => Jm e r ++ CE r.hi l
def Bk (rows : List Row) : Tx := Cv rows.length ++ CE 0 rows
def FA (c : Code) : Tx := Cv c.params ++ Cv c.vars ++ Cv c.sites.length
def Bm (c : Code) : Tx := FA c ++ (c.sites.flatMap Cv ++ (Cv c.ins.length ++ (c.ins.flatMap Db ++ Bk c.rows)))
def HD (c : Code) : Bool := A2 c && (Ck c.sites 0 1000000 && Eo c.rows c.ins.length)
theorem Cz {α : Type} {f : α → Tx} {k : Nat} : ∀ {l : List α}, (∀ x, x ∈ l → (f x).length ≤ k) → (l.flatMap f).length ≤ k * l.length
 | [], _ => by simp
 | x :: l, h => by
  rw [OM, Nu, Nx, Nat.mul_add, Nat.mul_one]
  have h1 := h x (by simp)
  have h2 := Cz (l := l) (fun y hy => h y (by simp [hy]))
  omega
theorem Ah {α : Type} {f : α → Tx} {l : List α} {k : Int} (h0 : 0 ≤ k) (h1 : k < l.length) : (l.drop k.toNat).flatMap f = f (l[k.toNat]'(by omega)) ++ (l.drop (k + 1).toNat).flatMap f := by
 rw [AX h0 h1, OM]
theorem BG {α : Type} {f : α → Tx} {l : List α} {k : Int} (h1 : (l.length : Int) ≤ k) : (l.drop k.toNat).flatMap f = [] := by
 rw [List.drop_of_length_le (by omega)]; rfl
theorem Fl : ∀ {rows : List Row} {e many : Int}, Az many rows e = true → 0 ≤ e → many ≤ 300 → (CE e rows).length ≤ 33 * rows.length
 | [], _, _, _, _, _ => by simp [CE]
 | r :: l, e, many, h, he, hm => by
  rw [Az] at h;simp only [Nv, decide_eq_true_eq] at h
  have h1 := Ak (n := r.lo - e) (by omega)
  have h2 := Ak (n := r.hi - r.lo) (by omega)
  have h3 := Cw (n := r.pad - r.hi) (by omega) (by omega)
  have h4 := Fl h.2.2.2.2 (by omega) hm
  rw [CE, Jm, Nu, Nu, Nu, Nx];omega
theorem CD {rows : List Row} {many : Int} (h : Eo rows many = true) (hm : many ≤ 300) (hl : rows.length ≤ 300) : (Bk rows).length ≤ 10000 := by
 have h1 := Fl h (OC 0) hm
 have h2 := Ak (n := (rows.length : Int)) (by omega)
 rw [Bk, Nu];omega
theorem E6 {i : Ins} (h : Ca i = true) : 1 ≤ i.op ∧ i.op ≤ 18 ∧ -2147483648 ≤ i.n ∧ i.n ≤ 2147483647 := ⟨(CG h).1, (CG h).2.1, (CG h).2.2.1, (CG h).2.2.2.1⟩
theorem Kx {i : Ins} (h : Ca i = true) : (Db i).length ≤ 22 := by
 have hw := E6 h
 have h1 := Ak (n := i.op) (by omega)
 have h2 := Cw (n := i.n) (by omega) (by omega)
 rw [Db, Nu];split
 ·omega
 ·simp; omega
theorem CK {l : List Int} {lo hi : Int} (h : Ck l lo hi = true) {n : Int} (hn : n ∈ l) : lo ≤ n ∧ n ≤ hi := by
 unfold Ck at h
 have := N1.1 h n hn
 simpa using this
theorem CQ {c : Code} (h : HD c = true) : A2 c = true ∧ Ck c.sites 0 1000000 = true ∧ Eo c.rows c.ins.length = true := by
 unfold HD at h
 simpa only [Nv] using h
theorem Fz {c : Code} (h : HD c = true) : (Bm c).length ≤ 20000 := by
 obtain ⟨h1, h2, h3⟩ := CQ h
 obtain ⟨b1, b2, b3, b4, b5, b6⟩ := AV h1
 have e1 := Ak (n := c.params) (by omega)
 have e2 := Ak (n := c.vars) (by omega)
 have e3 := Ak (n := (c.sites.length : Int)) (by omega)
 have e4 := Ak (n := (c.ins.length : Int)) (by omega)
 have e5 := Cz (f := Cv) (k := 11) (l := c.sites) (fun n hn => Ak (by have := CK h2 hn; omega))
 have e6 := Cz (f := Db) (k := 22) (l := c.ins) (fun n hn => Kx (b6 n hn))
 have e7 := CD h3 (by omega) b5
 rw [Bm, FA];simp only [Nu];omega
theorem G6 {rows : List Row} {many e k : Int} (h0 : 0 ≤ k) (h1 : k < rows.length) (h : Az many (rows.drop k.toNat) e = true) :
  e ≤ (rows[k.toNat]'(by omega)).lo ∧ (rows[k.toNat]'(by omega)).lo < (rows[k.toNat]'(by omega)).hi ∧ (rows[k.toNat]'(by omega)).hi ≤ many ∧ 0 ≤ (rows[k.toNat]'(by omega)).pad ∧ (rows[k.toNat]'(by omega)).pad < many ∧
   Az many (rows.drop (k + 1).toNat) (rows[k.toNat]'(by omega)).hi = true := by
 rw [AX h0 h1, Az] at h;simp only [Nv, decide_eq_true_eq] at h;exact ⟨h.1, h.2.1, h.2.2.1, h.2.2.2.1.1, h.2.2.2.1.2, h.2.2.2.2⟩
theorem H9 (rows : List Row) (many : Int) (hr : Eo rows many = true) (hm : many ≤ 300) (hl : rows.length ≤ 300) : Fun Tryz.prog 126 [.t (T.Rows rows)] (Aq [.t (T.str (Bk rows))]) := by
 have hlen := CD hr hm hl
 refine Fun.begin tys Tryz.func126 Z Z (N := 44) [(0, .t (T.Rows rows))] Z Z (fun w0 G F0 => ?_);refine sG (eZ Z (nA (eZ Z (evE ?_))));refine AZ (td := .int .i64) (k := .u64) Z Z (AA Z) Z (by kernel_rfl) (by kernel_rfl) Z (Au (by omega) (by omega)) (AJ ?_);refine ⟨_, Bt _ (by omega) (by omega), rfl, ?_⟩;refine eZ Z (nA (eZ Z (nB (sQ (sQ (kY [0,2,3,4] Z (rG (eZ Z (evE ?_)))))))));refine eZ Z (nB (AD ?_));refine lK (α := Int × Int × Tx) [0, 11, 12] [] (fun x => [(13, .t (.int (x.1))), (4, .t (.int (x.2.1))), (3, .t (T.str (x.2.2)))]) (fun x => []) (fun x => 0 ≤ (x.1) ∧ (x.1) ≤ rows.length ∧ 0 ≤ (x.2.1) ∧ (x.2.1) ≤ 300 ∧ Az many (rows.drop (x.1).toNat) (x.2.1) = true ∧ Bk rows = (x.2.2) ++ CE (x.2.1) (rows.drop (x.1).toNat)) (fun x => Int.toNat (rows.length - (x.1))) (0, 0, Cv rows.length) ?_ (fun x hx => ?_)
 ·exact ⟨by simp, by simp, by simp, by simp, hr, rfl⟩
 obtain ⟨k, e, s⟩ := x
 obtain ⟨hk0, hk1, he0, he1, hg, he⟩ := hx
 dsimp only at hk0 hk1 he0 he1 hg he ⊢;refine nY Z (sG (eZ Z (nB (sQ ?_))));refine AC Z (fun h1 => ?_) (fun h1 => ?_)
 ·
  simp only [HS] at h1;refine AB (tN (sQ (AD (sG ?_))))
  obtain ⟨hr1, hr2, hr3, hr4, hr5, hr6⟩ := G6 hk0 (by omega) hg
  have hes := congrArg List.length he
  rw [AX hk0 (by omega), CE, Jm] at hes;simp only [Nu] at hes;refine iY (k := ?_);refine eZ Z ?_
  try refine AI (Le.freeze (u := 16) rfl) ?_
  refine nZ Z (AR tys Z Z (AA Z) Z Z Z (nZ Z (sT Z (nZ Z (nB (sQ (A4 mixed (by kernel_rfl) (evQ ?_))))))));refine AS Z (evQ ?_);refine evQ ?_;refine evQ ?_;refine evIQ ?_;refine BI (td := .int .i64) (k := .u64) Z Z (AA Z) Z (by kernel_rfl) (by kernel_rfl) Z (Au (by omega) (by omega)) (BU ?_);refine ⟨_, Bt _ (by omega) (by omega), rfl, ?_⟩;refine AS Z (evQ ?_);refine evQ ?_;refine evQ ?_;refine evQ ?_;refine evIQ ?_;refine BI (td := .int .i64) (k := .u64) Z Z (AA Z) Z (by kernel_rfl) (by kernel_rfl) Z (Au (by omega) (by omega)) (AS Z (BU ?_));refine ⟨_, Bt _ (by omega) (by omega), rfl, ?_⟩;refine Aa Z Z (AA Z) Z Z Z (AF (by (try simp only [Nu]); omega)) Z ?_;refine evQ ?_;refine evQ ?_;refine evQ ?_;refine evQ ?_;refine AS Z (evIQ ?_);refine BU ?_;refine ⟨_, Je _ (by omega) (by omega), rfl, ?_⟩;refine Aa Z Z (AA Z) Z Z Z (AF (by (try simp only [Nu]); omega)) Z ?_;refine Aa Z Z (AA Z) Z Z Z (AF (by (try simp only [Nu]); omega)) Z ?_;refine evQ ?_;refine Bo (tN (rG (eK 3 Z (oN (bN (tN (kY [0,3,4,6,11,12,13,14,15,16,17,18,19,20,21,22,23,24,25,26,27,28,29,30,31,32,33,34,35,36,37,38,39,40,41] Z (rG (evI ?_)))))))));refine eZ Z (oN ?_);refine lQ (_, _, _) ?_ ?_
  ·dsimp only
   refine ⟨by omega, by omega, by omega, by omega, hr6, ?_⟩;rw [he, AX hk0 (by omega), CE, Jm];simp only [OA]
  ·(show Int.toNat _ < Int.toNat _); omega
 simp only [HS] at h1;refine AU (tE (AP (AK (tN (sG (eK 2 Z (nB (rT (eR ?_)))))))))
 ·rw [he, AQ (by omega)]; simp [CE]
theorem GD (rows : List Row) (many : Int) (hr : Eo rows many = true) (hm : many ≤ 300) (hl : rows.length ≤ 300) : Fun Tryz.prog 58 [.t (T.Rows rows)] (Aq [.t (T.str (Bk rows))]) := by
 have hlen := CD hr hm hl
 refine Fun.begin tys Tryz.func58 Z Z (N := 44) [(0, .t (T.Rows rows))] Z Z (fun w0 G F0 => ?_);refine sG (eZ Z (nA (eZ Z (evE ?_))));refine AZ (td := .int .i64) (k := .u64) Z Z (AA Z) Z (by kernel_rfl) (by kernel_rfl) Z (Au (by omega) (by omega)) (AJ ?_);refine ⟨_, Bp _ (by omega) (by omega), rfl, ?_⟩;refine eZ Z (nA (eZ Z (nB (sQ (sQ (kY [0,2,3,4] Z (rG (eZ Z (evE ?_)))))))));refine eZ Z (nB (AD ?_));refine lK (α := Int × Int × Tx) [0, 11, 12] [] (fun x => [(13, .t (.int (x.1))), (4, .t (.int (x.2.1))), (3, .t (T.str (x.2.2)))]) (fun x => []) (fun x => 0 ≤ (x.1) ∧ (x.1) ≤ rows.length ∧ 0 ≤ (x.2.1) ∧ (x.2.1) ≤ 300 ∧ Az many (rows.drop (x.1).toNat) (x.2.1) = true ∧ Bk rows = (x.2.2) ++ CE (x.2.1) (rows.drop (x.1).toNat)) (fun x => Int.toNat (rows.length - (x.1))) (0, 0, Cv rows.length) ?_ (fun x hx => ?_)
 ·exact ⟨by simp, by simp, by simp, by simp, hr, rfl⟩
 obtain ⟨k, e, s⟩ := x
 obtain ⟨hk0, hk1, he0, he1, hg, he⟩ := hx
 dsimp only at hk0 hk1 he0 he1 hg he ⊢;refine nY Z (sG (eZ Z (nB (sQ ?_))));refine AC Z (fun h1 => ?_) (fun h1 => ?_)
 ·
  simp only [HS] at h1;refine AB (tN (sQ (AD (sG ?_))))
  obtain ⟨hr1, hr2, hr3, hr4, hr5, hr6⟩ := G6 hk0 (by omega) hg
  have hes := congrArg List.length he
  rw [AX hk0 (by omega), CE, Jm] at hes;simp only [Nu] at hes;refine iY (k := ?_);refine eZ Z ?_
  try refine AI (Le.freeze (u := 16) rfl) ?_
  refine nZ Z (AR tys Z Z (AA Z) Z Z Z (nZ Z (sT Z (nZ Z (nB (sQ (A4 mixed (by kernel_rfl) (evQ ?_))))))));refine AS Z (evQ ?_);refine evQ ?_;refine evQ ?_;refine evIQ ?_;refine BI (td := .int .i64) (k := .u64) Z Z (AA Z) Z (by kernel_rfl) (by kernel_rfl) Z (Au (by omega) (by omega)) (BU ?_);refine ⟨_, Bp _ (by omega) (by omega), rfl, ?_⟩;refine AS Z (evQ ?_);refine evQ ?_;refine evQ ?_;refine evQ ?_;refine evIQ ?_;refine BI (td := .int .i64) (k := .u64) Z Z (AA Z) Z (by kernel_rfl) (by kernel_rfl) Z (Au (by omega) (by omega)) (AS Z (BU ?_));refine ⟨_, Bp _ (by omega) (by omega), rfl, ?_⟩;refine Aa Z Z (AA Z) Z Z Z (AF (by (try simp only [Nu]); omega)) Z ?_;refine evQ ?_;refine evQ ?_;refine evQ ?_;refine evQ ?_;refine AS Z (evIQ ?_);refine BU ?_;refine ⟨_, Ir _ (by omega) (by omega), rfl, ?_⟩;refine Aa Z Z (AA Z) Z Z Z (AF (by (try simp only [Nu]); omega)) Z ?_;refine Aa Z Z (AA Z) Z Z Z (AF (by (try simp only [Nu]); omega)) Z ?_;refine evQ ?_;refine Bo (tN (rG (eK 3 Z (oN (bN (tN (kY [0,3,4,6,11,12,13,14,15,16,17,18,19,20,21,22,23,24,25,26,27,28,29,30,31,32,33,34,35,36,37,38,39,40,41] Z (rG (evI ?_)))))))));refine eZ Z (oN ?_);refine lQ (_, _, _) ?_ ?_
  ·dsimp only
   refine ⟨by omega, by omega, by omega, by omega, hr6, ?_⟩;rw [he, AX hk0 (by omega), CE, Jm];simp only [OA]
  ·(show Int.toNat _ < Int.toNat _); omega
 simp only [HS] at h1;refine AU (tE (AP (AK (tN (sG (eK 2 Z (nB (rT (eR ?_)))))))))
 ·rw [he, AQ (by omega)]; simp [CE]
open Go.Eng
theorem Du {c : Code} : BP ⟨[c]⟩ = A2 c := by simp [BP]
theorem Jv (rows : List Row) (many : Int) (hl : rows.length ≤ 1048576) (hm : 0 ≤ many ∧ many ≤ 1048576) : Fun Tryz.prog 123 [.t (T.Rows rows), .t (.int many)] (Aq [.t (.bool (decide (1 ≤ many ∧ many ≤ 300) && decide ((rows.length : Int) ≤ 300) && Eo rows many))]) := by
 refine Fun.begin tys Tryz.func123 Z Z (N := 17) [(0, .t (T.Rows rows)), (1, .t (.int many))] Z Z (fun w0 G F0 => ?_);refine sG (eZ Z (nA (eZ Z (AJ ?_))));refine ⟨_, Ar _ _ _, rfl, ?_⟩;refine eZ Z ?_;refine gB (fun h1 => ?_) (fun h1 => ?_)
 ·
  simp only [HS] at h1;refine xK 5 Z (kZ [1,4,12,13] Z (xK 4 Z (nB (rT (eR ?_)))))
  ·exact BK (by simp_all <;> omega)
 simp only [HS] at h1;refine eZ Z (gY Z (evE ?_));refine xK 3 Z (kZ [0,1,4,12] Z ?_);refine gB (fun h2 => ?_) (fun h2 => ?_)
 ·
  simp only [HS] at h2;refine xK 4 Z (nB (rT (eR ?_)))
  ·exact BK (by simp_all <;> omega)
 simp only [HS] at h2;refine xK 2 Z (gY Z (AJ ?_));refine ⟨_, Jw rows many hl hm, rfl, ?_⟩;refine eK 2 Z (nB (rT (eR ?_)))
 ·exact BK (by simp_all <;> omega)
theorem HR (c : Code) (hc : c.ok 1048576) : Fun Tryz.prog 84 [.t c.tt] (Aq [.t (.bool (HD c))]) := by
 have hc1 : c.sites.length ≤ 1048576 := hc.1
 have hc2 : c.ins.length ≤ 1048576 := hc.2.1
 have hc3 : c.rows.length ≤ 1048576 := hc.2.2.1
 refine Fun.begin tys Tryz.func84 Z Z (N := 22) [(0, .t c.tt)] Z Z (fun w0 G F0 => ?_);refine sG (BD Z Z (AA Z) Z Z (nZ Z (eZ Z (nA (eZ Z ?_)))))
 try refine AI (Le.freeze (u := 4) rfl) ?_
 refine nZ Z ?_;refine LX tys [c.tt] Z Z (AA Z) Z Z Z Z Z (by decide) (by repeat (first | exact PartsF.nil' | refine PartsF.cons' rfl Z ?_)) Z ?_;refine nZ Z (AN tys Z Z (AA Z) Z Z Z (by kernel_rfl) Z Z Z Z Z Z (AR tys Z Z (AA Z) Z Z Z (nZ Z (sT Z (nZ Z (nB (sQ (kY [1,2,3] Z (rG (eZ Z ?_))))))))))
 try refine AI (Le.freeze (u := 7) rfl) ?_
 refine nZ Z (AJ ?_);refine ⟨_, IA ⟨[c]⟩ ⟨⟨by simp, fun x hx => by simp at hx; subst hx; exact hc⟩, trivial⟩, rfl, ?_⟩;refine eZ Z ?_;refine gB (fun h1 => ?_) (fun h1 => ?_)
 ·
  simp only [HS] at h1;refine xK 6 Z (kZ [1,2,14,16] Z (xK 6 Z (nB (rT (eR ?_)))))
  ·have hz : A2 c = true → 1 ≤ (c.ins.length : Int) ∧ (c.ins.length : Int) ≤ 300 ∧ (c.rows.length : Int) ≤ 300 := fun h => by have := AV h; omega
   exact BK (by rw [HD]; cases h9 : A2 c <;> simp_all [Du])
 refine xK 2 Z (gY Z (AJ ?_));refine ⟨_, Kt _ _ _ (by omega), rfl, ?_⟩;refine eK 2 Z ?_;refine gB (fun h2 => ?_) (fun h2 => ?_)
 ·
  simp only [HS] at h2;refine xZ Z (kZ [1,2,14,16] Z (xK 6 Z (nB (rT (eR ?_)))))
  ·have hz : A2 c = true → 1 ≤ (c.ins.length : Int) ∧ (c.ins.length : Int) ≤ 300 ∧ (c.rows.length : Int) ≤ 300 := fun h => by have := AV h; omega
   exact BK (by rw [HD]; cases h9 : A2 c <;> simp_all [Du])
 refine xK 2 Z (kZ [1,2,14,16] Z (xK 2 Z (gY Z (evE ?_))));refine gY Z (AJ ?_);refine ⟨_, Jv _ _ (by omega) (by omega), rfl, ?_⟩;refine eK 2 Z (nB (rT (eR ?_)))
 ·have hz : A2 c = true → 1 ≤ (c.ins.length : Int) ∧ (c.ins.length : Int) ≤ 300 ∧ (c.rows.length : Int) ≤ 300 := fun h => by have := AV h; omega
  exact BK (by rw [HD]; cases h9 : A2 c <;> simp_all [Du])
theorem E2 (c : Code) (hp : HD c = true) : Fun Tryz.prog 85 [.t c.tt] (Aq [.t (T.str (Bm c))]) := by
 have hlen := Fz hp
 obtain ⟨hp1, hp2, hp3⟩ := CQ hp
 obtain ⟨hz1, hz2, hz3, hz4, hz5, hz6⟩ := AV hp1
 have hu1 := Ak (n := c.params) (by omega)
 have hu2 := Ak (n := c.vars) (by omega)
 have hu3 := Ak (n := (c.sites.length : Int)) (by omega)
 have hu4 := Ak (n := (c.ins.length : Int)) (by omega)
 have hu5 := CD hp3 (by omega) hz5
 refine Fun.begin tys Tryz.func85 Z Z (N := 70) [(0, .t c.tt)] Z Z (fun w0 G F0 => ?_);refine sG (BD Z Z (AA Z) Z Z (nZ Z (eZ Z (nB (sQ (A4 mixed (by kernel_rfl) (evQ ?_)))))));refine evQ ?_;refine BI (td := .int .i64) (k := .u64) Z Z (AA Z) Z (by kernel_rfl) (by kernel_rfl) Z (Au (by omega) (by omega)) (BU ?_);refine ⟨_, Bt _ (by omega) (by omega), rfl, ?_⟩;refine AS Z (evQ ?_);refine evQ ?_;refine BI (td := .int .i64) (k := .u64) Z Z (AA Z) Z (by kernel_rfl) (by kernel_rfl) Z (Au (by omega) (by omega)) (BU ?_);refine ⟨_, Bt _ (by omega) (by omega), rfl, ?_⟩;refine Aa Z Z (AA Z) Z Z Z (AF (by (try simp only [Nu]); omega)) Z ?_;refine evQ ?_;refine AS Z (evQ ?_);refine evEQ ?_;refine BI (td := .int .i64) (k := .u64) Z Z (AA Z) Z (by kernel_rfl) (by kernel_rfl) Z (Au (by omega) (by omega)) (BU ?_);refine ⟨_, Bt _ (by omega) (by omega), rfl, ?_⟩;refine Aa Z Z (AA Z) Z Z Z (AF (by (try simp only [Nu]); omega)) Z ?_;refine evQ ?_;refine AS Z (Bo (tN (sQ (sG (eK 2 Z (evE ?_))))));refine eZ Z (nB (AD ?_));refine lK (α := Int × Tx) [1, 24, 25] [1] (fun x => [(26, .t (.int (x.1))), (3, .t (T.str (x.2)))]) (fun x => []) (fun x => 0 ≤ (x.1) ∧ (x.1) ≤ c.sites.length ∧ Bm c = (x.2) ++ ((c.sites.drop (x.1).toNat).flatMap Cv ++ (Cv c.ins.length ++ (c.ins.flatMap Db ++ Bk c.rows)))) (fun x => Int.toNat (c.sites.length - (x.1))) (0, FA c) ?_ (fun x hx => ?_)
 ·exact ⟨by simp, by simp, rfl⟩
 obtain ⟨k, s⟩ := x
 obtain ⟨hk0, hk1, he⟩ := hx
 dsimp only at hk0 hk1 he ⊢;refine nY Z (sG (eZ Z (nB (sQ ?_))));refine AC Z (fun h1 => ?_) (fun h1 => ?_)
 ·
  simp only [HS] at h1;refine AB (tN (sQ (AD (sG ?_))))
  have hn := CK hp2 (N9 (l := c.sites) (n := k.toNat) (by omega))
  have hes := congrArg List.length he
  rw [Ah hk0 (by omega)] at hes;simp only [Nu] at hes;refine iY (k := ?_);refine eK 2 Z (nB (rG (eK 2 Z (AZ (td := .int .i64) (k := .u64) Z Z (AA Z) Z (by kernel_rfl) (by kernel_rfl) Z (Au (by omega) (by omega)) (AJ ?_)))));refine ⟨_, Bt _ (by omega) (by omega), rfl, ?_⟩;refine AG Z Z (AA Z) Z Z Z (AF (by (try simp only [Nu]); omega)) Z ?_;refine kZ [1,3,5,24,25,26,27,28,29,30,31,32,33,34] Z (eZ Z (oN (bN (tN (rG (evI ?_))))));refine eZ Z (oN ?_);refine lQ (_, _) ?_ ?_
  ·dsimp only
   refine ⟨by omega, by omega, ?_⟩;rw [he, Ah hk0 (by omega)];simp only [OA]
  ·(show Int.toNat _ < Int.toNat _); omega
 simp only [HS] at h1;refine AU (tE (AP (AK (tN (sG ?_)))))
 have hes := congrArg List.length he
 simp only [Nu] at hes;refine eK 3 Z (evE ?_);refine AZ (td := .int .i64) (k := .u64) Z Z (AA Z) Z (by kernel_rfl) (by kernel_rfl) Z (Au (by omega) (by omega)) (AJ ?_);refine ⟨_, Bt _ (by omega) (by omega), rfl, ?_⟩;refine AG Z Z (AA Z) Z Z Z (AF (by (try simp only [Nu]); omega)) Z ?_;refine eZ Z (kZ [1,3] Z (nB (sQ (sG (eK 2 Z (evE ?_))))));refine eZ Z (nB (AD ?_));refine lK (α := Int × Tx) [1, 44, 45] [1] (fun x => [(46, .t (.int (x.1))), (3, .t (T.str (x.2)))]) (fun x => []) (fun x => 0 ≤ (x.1) ∧ (x.1) ≤ c.ins.length ∧ Bm c = (x.2) ++ ((c.ins.drop (x.1).toNat).flatMap Db ++ Bk c.rows)) (fun x => Int.toNat (c.ins.length - (x.1))) (0, s ++ Cv c.ins.length) ?_ (fun x hx => ?_)
 ·refine ⟨by simp, by simp, ?_⟩
  rw [he, BG (by omega)]
  simp
 obtain ⟨k, s⟩ := x
 obtain ⟨hk0, hk1, he⟩ := hx
 dsimp only at hk0 hk1 he ⊢;refine nY Z (sG (eZ Z (nB (sQ ?_))));refine AC Z (fun h2 => ?_) (fun h2 => ?_)
 ·
  simp only [HS] at h2;refine AB (tN (sQ (AD (sG ?_))))
  have hi := E6 (hz6 _ (N9 (l := c.ins) (n := k.toNat) (by omega)))
  have hes := congrArg List.length he
  rw [Ah hk0 (by omega), Db] at hes;simp only [Nu] at hes;refine iY (k := ?_);refine eZ Z ?_
  try refine AI (Le.freeze (u := 49) rfl) ?_
  refine nZ Z (AR tys Z Z (AA Z) Z Z Z (nZ Z (sT Z (nZ Z (nA (eK 3 Z (AZ (td := .int .i64) (k := .u64) Z Z (AA Z) Z (by kernel_rfl) (by kernel_rfl) Z (Au (by omega) (by omega)) (kZ [1,3,7,44,45,46,47,48,49,50,51,52,53] Z (AJ ?_)))))))));refine ⟨_, Bt _ (by omega) (by omega), rfl, ?_⟩;refine AG Z Z (AA Z) Z Z Z (AF (by (try simp only [Nu]); omega)) Z ?_;refine eZ Z (nA (eK 2 Z (AJ ?_)));refine ⟨_, EY _, rfl, ?_⟩;refine nB ?_;refine AC Z (fun h3 => ?_) (fun h3 => ?_)
  ·
   refine rG (eK 3 Z (kZ [1,3,7,44,45,46,47,48,49,50,51,52,53,54,55,56,57,58,59,60,61] Z (AJ ?_)));refine ⟨_, Je _ (by omega) (by omega), rfl, ?_⟩;refine AG Z Z (AA Z) Z Z Z (AF (by have hq := Cw (n := (c.ins[k.toNat]'(by omega)).n) (by omega) (by omega); (try simp only [Nu]); omega)) Z ?_;refine eZ Z (oN (bN (tN (rG (evI ?_)))));refine eZ Z (oN ?_);refine lQ (_, _) ?_ ?_
   ·dsimp only
    refine ⟨by omega, by omega, ?_⟩;rw [he, Ah hk0 (by omega), Db]
    simp_all
   ·(show Int.toNat _ < Int.toNat _); omega
  refine AB (bN (tN (rG (evI ?_))));refine eZ Z (oN ?_);refine lQ (_, _) ?_ ?_
  ·dsimp only
   refine ⟨by omega, by omega, ?_⟩;rw [he, Ah hk0 (by omega), Db]
   simp_all
  ·(show Int.toNat _ < Int.toNat _); omega
 simp only [HS] at h2;refine AU (tE (AP (AK (tN (sG ?_)))))
 have hes := congrArg List.length he
 simp only [Nu] at hes;refine eK 3 Z (AJ ?_);refine ⟨_, H9 c.rows c.ins.length hp3 (by omega) hz5, rfl, ?_⟩;refine AG Z Z (AA Z) Z Z Z (AF (by (try simp only [Nu]); omega)) Z ?_;refine eZ Z (nB (rT (eR ?_)))
 ·rw [he, BG (by omega)]; simp
noncomputable def codeBytesR (c : Code) : Tx × Bool := if HD c && decide (((Bm c).length : Int) ≤ 2000) then (Bm c, true) else ([], false)
theorem De {c : Code} (h : HD c = false) : codeBytesR c = ([], false) := by unfold codeBytesR; rw [h]; rfl
theorem Hh {c : Code} (h : 2000 < ((Bm c).length : Int)) : codeBytesR c = ([], false) := by unfold codeBytesR; rw [decide_eq_false (by omega), Og]; rfl
theorem Hf {c : Code} (h1 : HD c = true) (h : ((Bm c).length : Int) ≤ 2000) : codeBytesR c = (Bm c, true) := by unfold codeBytesR; rw [h1, decide_eq_true h]; rfl
theorem G7 {a b : Tx × Bool} (h : a = b) : [D.t (T.str a.1), D.t (.bool a.2)] = [D.t (T.str b.1), D.t (.bool b.2)] := by rw [h]
theorem Dt (c : Code) (hc : c.ok 1048576) : Fun Tryz.prog 43 [.t c.tt] (Aq [.t (T.str (codeBytesR c).1), .t (.bool (codeBytesR c).2)]) := by
 refine Fun.begin tys Tryz.func43 Z Z (N := 15) [(0, .t c.tt)] Z Z (fun w0 G F0 => ?_);refine sG (BD Z Z (AA Z) Z Z (nZ Z (eK 2 Z (nB (sQ (sG (eZ Z ?_)))))))
 try refine AI (Le.freeze (u := 4) rfl) ?_
 refine nZ Z (AJ ?_);refine ⟨_, HR c hc, rfl, ?_⟩;refine eK 2 Z ?_;refine gB (fun h1 => ?_) (fun h1 => ?_)
 ·
  simp only [HS] at h1;refine xK 2 Z (kZ [1,2,3,7,10] Z (xK 2 Z (nB (AW Z (sG (eK 2 Z (nB (rT (tR (eR ?_))))))))))
  ·first
   | exact G7 (a := ([], false)) (De (by assumption)).symm
 simp only [HS] at h1;refine eZ Z ?_
 try refine AI (Le.freeze (u := 8) rfl) ?_
 refine nZ Z (gY Z (AJ ?_));refine ⟨_, E2 c (by assumption), rfl, ?_⟩;refine kZ [1,2,3,7,9] Z (gY Z (A5 Z Z (AA Z) Z (by kernel_rfl) Z (xK 2 Z (nB ?_))));refine AC Z (fun h2 => ?_) (fun h2 => ?_)
 ·
  simp only [HS] at h2;refine sG (eK 2 Z (nB (rT (tR (eR ?_)))))
  ·first
   | exact G7 (a := ([], false)) (Hh (by assumption)).symm
 simp only [HS] at h2;refine AB (tN (sG (eZ Z ?_)))
 try refine AI (Le.freeze (u := 13) rfl) ?_
 refine nZ Z (AJ ?_);refine ⟨_, E2 c (by assumption), rfl, ?_⟩;refine eK 2 Z (nB (rT (eR ?_)))
 ·first
  | exact G7 (a := (Bm c, true)) (Hf (by assumption) (by omega)).symm
theorem Ff (n : Int) : Fun Tryz.prog 52 [.t (.int n)] (Aq [.t (.bool (!decide ((0 : Int) ≤ n ∧ n ≤ 1000000)))]) := by
 refine Fun.begin tys Tryz.func52 Z Z (N := 6) [(0, .t (.int n))] Z Z (fun w0 G F0 => ?_);refine sG (eZ Z (nA (eZ Z (AJ ?_))));refine ⟨_, BE _ _ _, rfl, ?_⟩;refine eK 2 Z (nB (rT (eR ?_)))
 ·rfl
theorem D2 (c : Code) (hc : c.ok 1048576) : Fun Tryz.prog 23 [.t c.tt] (Aq [.t (T.str (codeBytesR c).1), .t (.bool (codeBytesR c).2)]) := by
 have hc1 : c.sites.length ≤ 1048576 := hc.1
 have hc2 : c.ins.length ≤ 1048576 := hc.2.1
 have hc3 : c.rows.length ≤ 1048576 := hc.2.2.1
 refine Fun.begin tys Tryz.func23 Z Z (N := 87) [(0, .t c.tt)] Z Z (fun w0 G F0 => ?_);refine sG (BD Z Z (AA Z) Z Z (nZ Z (eK 2 Z (nB (sQ (sG (eZ Z ?_)))))))
 try refine AI (Le.freeze (u := 9) rfl) ?_
 refine nZ Z (AJ ?_);refine ⟨_, E4 c hc, rfl, ?_⟩;refine eK 2 Z ?_;refine gB (fun h1 => ?_) (fun h1 => ?_)
 ·
  simp only [HS] at h1;refine xK 2 Z (kZ [1,2,3,12,14,15] Z (xK 9 Z (kZ [1,2,3,21,24] Z (eZ Z (nB (AW Z (sG (eK 2 Z (nB (rT (tR (eR ?_))))))))))))
  ·first
   | (refine G7 (a := ([], false)) (De ?_).symm; rw [← OQ]; intro h9; obtain ⟨q1, q2, q3⟩ := CQ h9; (try rw [CX] at *); simp_all; done)
 simp only [HS] at h1;refine xK 2 Z (kZ [1,2,3,12,14] Z (xK 2 Z (gY Z (evE ?_))));refine gY Z (AJ ?_);refine ⟨_, Ib c.rows _ (by omega) (by omega), rfl, ?_⟩;refine xK 3 Z ?_;refine gB (fun h2 => ?_) (fun h2 => ?_)
 ·
  simp only [HS] at h2;refine xK 2 Z (kZ [1,2,3,21,24] Z (eZ Z (nB (AW Z (sG (eK 2 Z (nB (rT (tR (eR ?_))))))))))
  ·first
   | (refine G7 (a := ([], false)) (De ?_).symm; rw [← OQ]; intro h9; obtain ⟨q1, q2, q3⟩ := CQ h9; (try rw [CX] at *); simp_all; done)
 simp only [HS] at h2;refine xK 2 Z (kZ [1,2,3,21,23] Z (gY Z (AJ ?_)));refine ⟨_, JD c.sites (fun n => !decide ((0 : Int) ≤ n ∧ n ≤ 1000000)) _ [] Z (by omega) (fun x _ => Ff x), rfl, ?_⟩;refine eZ Z (nB ?_);refine AC Z (fun h3 => ?_) (fun h3 => ?_)
 ·
  refine sG (eK 2 Z (nB (rT (tR (eR ?_)))))
  ·first
   | (refine G7 (a := ([], false)) (De ?_).symm; rw [← OQ]; intro h9; obtain ⟨q1, q2, q3⟩ := CQ h9; (try rw [CX] at *); simp_all; done)
 refine AB (tN (sG ?_))
 have hp : HD c = true := by rw [CX] at *; simp_all [HD]
 have hlen := Fz hp
 obtain ⟨hp1, hp2, hp3⟩ := CQ hp
 obtain ⟨hz1, hz2, hz3, hz4, hz5, hz6⟩ := AV hp1
 have hu1 := Ak (n := c.params) (by omega)
 have hu2 := Ak (n := c.vars) (by omega)
 have hu3 := Ak (n := (c.sites.length : Int)) (by omega)
 have hu4 := Ak (n := (c.ins.length : Int)) (by omega)
 have hu5 := CD hp3 (by omega) hz5
 have hu6 : (FA c).length ≤ 33 := by rw [FA, Nu, Nu]; omega
 refine Ho tys 5 Z Z (AA Z) Z Z Z (fun b => ?_);refine AI (Le.roNil 99) (nZ Z (nZ Z (nB (sQ (D7 15 mixed Z (by kernel_rfl) (by kernel_rfl) (evQ ?_))))));refine evQ ?_;refine BI (td := .int .i64) (k := .u64) Z Z (AA Z) Z (by kernel_rfl) (by kernel_rfl) Z (Au (by omega) (by omega)) (AS Z (BU ?_));refine ⟨_, Bp _ (by omega) (by omega), rfl, ?_⟩;refine evQ ?_;refine evQ ?_;refine BI (td := .int .i64) (k := .u64) Z Z (AA Z) Z (by kernel_rfl) (by kernel_rfl) Z (Au (by omega) (by omega)) (BU ?_);refine ⟨_, Bp _ (by omega) (by omega), rfl, ?_⟩;refine Aa Z Z (AA Z) Z Z Z (AF (by (try simp only [Nu]); omega)) Z ?_;refine AS Z (evQ ?_);refine evQ ?_;refine evEQ ?_;refine BI (td := .int .i64) (k := .u64) Z Z (AA Z) Z (by kernel_rfl) (by kernel_rfl) Z (Au (by omega) (by omega)) (BU ?_);refine ⟨_, Bp _ (by omega) (by omega), rfl, ?_⟩;refine Aa Z Z (AA Z) Z Z Z (AF (by (try simp only [Nu]); omega)) Z ?_;refine AS Z (Bo ?_);refine cP [4] (hm := (AY b [] (FA c) (by simp; omega))) (k := ?_);refine nZ Z (nB (sQ (sG (eK 2 Z (evE ?_)))));refine eZ Z (nB (AD ?_));refine lK (α := Int × Tx) [1, 4, 43, 44] [1, 99] (fun x => [(45, .t (.int (x.1)))]) (fun x => [(4, .bld 82 5 b (x.2))]) (fun x => 0 ≤ (x.1) ∧ (x.1) ≤ c.sites.length ∧ Bm c = (x.2) ++ ((c.sites.drop (x.1).toNat).flatMap Cv ++ (Cv c.ins.length ++ (c.ins.flatMap Db ++ Bk c.rows)))) (fun x => Int.toNat (c.sites.length - (x.1))) (0, FA c) ?_ (fun x hx => ?_)
 ·exact ⟨by simp, by simp, rfl⟩
 obtain ⟨k, s⟩ := x
 obtain ⟨hk0, hk1, he⟩ := hx
 dsimp only at hk0 hk1 he ⊢;refine nY Z (sG (eZ Z (nB (sQ ?_))));refine AC Z (fun h4 => ?_) (fun h4 => ?_)
 ·
  simp only [HS] at h4;refine AB (tN (sQ (AD (sG ?_))))
  have hn := CK hp2 (N9 (l := c.sites) (n := k.toNat) (by omega))
  have hes := congrArg List.length he
  rw [Ah hk0 (by omega)] at hes;simp only [Nu] at hes;refine iY (k := ?_);refine eK 2 Z (nB (rG (eZ Z (AZ (td := .int .i64) (k := .u64) Z Z (AA Z) Z (by kernel_rfl) (by kernel_rfl) Z (Au (by omega) (by omega)) (AJ ?_)))));refine ⟨_, Bp _ (by omega) (by omega), rfl, ?_⟩;refine cP [4] (hm := (AY b s _ (by omega))) (k := ?_);refine nZ Z (oN (bN (tN (kY [1,4,6,43,44,45,46,47,48,49,50,51] Z (rG (evI ?_))))));refine eZ Z (oN ?_);refine lQ (_, _) ?_ ?_
  ·dsimp only
   refine ⟨by omega, by omega, ?_⟩;rw [he, Ah hk0 (by omega)];simp only [OA]
  ·(show Int.toNat _ < Int.toNat _); omega
 simp only [HS] at h4;refine AU (tE (AP (AK (tN (sG ?_)))))
 have hes := congrArg List.length he
 simp only [Nu] at hes;refine eK 2 Z (evE ?_);refine AZ (td := .int .i64) (k := .u64) Z Z (AA Z) Z (by kernel_rfl) (by kernel_rfl) Z (Au (by omega) (by omega)) (AJ ?_);refine ⟨_, Bp _ (by omega) (by omega), rfl, ?_⟩;refine cP [4] (hm := (AY b s (Cv c.ins.length) (by omega))) (k := ?_);refine nZ Z (nB (sQ (sQ (kY [1,4] Z (rG (eK 2 Z (evE ?_)))))));refine eZ Z (nB (AD ?_));refine lK (α := Int × Tx) [1, 4, 61, 62] [1, 99] (fun x => [(63, .t (.int (x.1)))]) (fun x => [(4, .bld 82 5 b (x.2))]) (fun x => 0 ≤ (x.1) ∧ (x.1) ≤ c.ins.length ∧ Bm c = (x.2) ++ ((c.ins.drop (x.1).toNat).flatMap Db ++ Bk c.rows)) (fun x => Int.toNat (c.ins.length - (x.1))) (0, s ++ Cv c.ins.length) ?_ (fun x hx => ?_)
 ·refine ⟨by simp, by simp, ?_⟩
  rw [he, BG (by omega)]
  simp
 obtain ⟨k, s⟩ := x
 obtain ⟨hk0, hk1, he⟩ := hx
 dsimp only at hk0 hk1 he ⊢;refine nY Z (sG (eZ Z (nB (sQ ?_))));refine AC Z (fun h5 => ?_) (fun h5 => ?_)
 ·
  simp only [HS] at h5;refine AB (tN (sQ (AD (sG ?_))))
  have hi := E6 (hz6 _ (N9 (l := c.ins) (n := k.toNat) (by omega)))
  have hes := congrArg List.length he
  rw [Ah hk0 (by omega), Db] at hes;simp only [Nu] at hes;refine iY (k := ?_);refine eZ Z ?_
  try refine AI (Le.freeze (u := 66) rfl) ?_
  refine nZ Z (AR tys Z Z (AA Z) Z Z Z (nZ Z (sT Z (nZ Z (nA (eK 2 Z (AZ (td := .int .i64) (k := .u64) Z Z (AA Z) Z (by kernel_rfl) (by kernel_rfl) Z (Au (by omega) (by omega)) (AJ ?_))))))));refine ⟨_, Bp _ (by omega) (by omega), rfl, ?_⟩;refine kZ [1,4,8,61,62,63,64,65,66,67,68,69,70] Z ?_;refine cP [4] (hm := (AY b s _ (by omega))) (k := ?_);refine nZ Z (nA (eK 2 Z (AJ ?_)));refine ⟨_, FD _, rfl, ?_⟩;refine nB ?_;refine AC Z (fun h6 => ?_) (fun h6 => ?_)
  ·
   refine rG (eK 2 Z (AJ ?_));refine ⟨_, Ir _ (by omega) (by omega), rfl, ?_⟩;refine cP [4] (hm := (AY b _ _ (by have hq := Cw (n := (c.ins[k.toNat]'(by omega)).n) (by omega) (by omega); rw [Nu]; omega))) (k := ?_);refine nZ Z (oN (bN (tN (kY [1,4,8,61,62,63,64,65,66,67,68,69,70,72,73,74,75,76,77] Z (rG (evI ?_))))));refine eZ Z (oN ?_);refine lQ (_, _) ?_ ?_
   ·dsimp only
    refine ⟨by omega, by omega, ?_⟩;rw [he, Ah hk0 (by omega), Db]
    simp_all
   ·(show Int.toNat _ < Int.toNat _); omega
  refine AB (bN (tN (rG (evI ?_))));refine eZ Z (oN ?_);refine lQ (_, _) ?_ ?_
  ·dsimp only
   refine ⟨by omega, by omega, ?_⟩;rw [he, Ah hk0 (by omega), Db]
   simp_all
  ·(show Int.toNat _ < Int.toNat _); omega
 simp only [HS] at h5;refine AU (tE (AP (AK (tN (sG ?_)))))
 have hes := congrArg List.length he
 simp only [Nu] at hes
 have hes2 : Bm c = s ++ Bk c.rows := by rw [he, BG (by omega)]; simp
 have hes3 := congrArg List.length hes2
 have hes4 : (s ++ Bk c.rows).length = (Bm c).length := hes3.symm
 refine eK 2 Z (AJ ?_);refine ⟨_, GD c.rows c.ins.length hp3 (by omega) hz5, rfl, ?_⟩;refine cP [4] (hm := (AY b s (Bk c.rows) (by omega))) (k := ?_);refine nZ Z (nB (sQ (sG ?_)));refine cP [4] (hm := (NK b (s ++ Bk c.rows))) (k := ?_);refine nZ Z (eZ Z (nB ?_));refine AC Z (fun h6 => ?_) (fun h6 => ?_)
 ·
  simp only [HS] at h6;refine sQ (kY [4] Z (rG (eK 2 Z (nB (rT (tR (eR ?_)))))))
  ·first
   | exact G7 (a := ([], false)) (Hh (by omega)).symm
 simp only [HS] at h6;refine AB (tN (sQ (kY [4] Z (rG ?_))));refine cP [4] (hm := (Dg b (s ++ Bk c.rows))) (k := ?_);refine nZ Z (eK 2 Z (nB (rT (eR ?_))))
 ·first
  | (rw [← hes2]; exact G7 (a := (Bm c, true)) (Hf hp (by omega)).symm)
open Go.Eng
def DS (n : Int) : Tx := [32] ++ Lib.itoa n
noncomputable def insLn (i : Ins) : Tx := insTx i ++ [10]
def Dy (r : Row) : Tx := [114, 111, 119, 32] ++ Lib.itoa r.lo ++ [32] ++ Lib.itoa r.hi ++ [32] ++ Lib.itoa r.pad ++ [10]
def Fy (c : Code) : Tx := [99, 111, 100, 101, 32] ++ Lib.itoa c.params ++ [32] ++ Lib.itoa c.vars
noncomputable def codeTx (c : Code) : Tx := Fy c ++ (c.sites.flatMap DS ++ ([10] ++ (c.ins.flatMap insLn ++ c.rows.flatMap Dy)))
theorem Cq {many : Int} : ∀ {rows : List Row} {e : Int}, Az many rows e = true → ∀ r, r ∈ rows → e ≤ r.lo ∧ r.lo < r.hi ∧ r.hi ≤ many ∧ 0 ≤ r.pad ∧ r.pad < many
 | [], e, h, r, hr => by cases hr
 | x :: l, e, h, r, hr => by
  rw [Az] at h;simp only [Nv, decide_eq_true_eq] at h
  rcases N6.1 hr with rfl | hr
  ·exact ⟨h.1, h.2.1, h.2.2.1, h.2.2.2.1.1, h.2.2.2.1.2⟩
  ·have := Cq h.2.2.2.2 r hr
   omega
theorem E5 {i : Ins} (h : Ca i = true) : (insTx i).length ≤ 29 := by
 have hw := E6 h
 have h1 := Ee (op := i.op)
 have h2 := Lib.itoa_length_le i.n (by omega) (by omega)
 rw [insTx];split
 ·simp only [Nu, Nx, N4]; omega
 ·omega
theorem Fx {c : Code} (h : HD c = true) : (codeTx c).length ≤ 40000 := by
 obtain ⟨h1, h2, h3⟩ := CQ h
 obtain ⟨b1, b2, b3, b4, b5, b6⟩ := AV h1
 have e1 := Lib.itoa_length_le c.params (by omega) (by omega)
 have e2 := Lib.itoa_length_le c.vars (by omega) (by omega)
 have e5 := Cz (f := DS) (k := 22) (l := c.sites) (fun n hn => by
  have := CK h2 hn
  have := Lib.itoa_length_le n (by omega) (by omega)
  rw [DS, Nu]; simp; omega)
 have e6 := Cz (f := insLn) (k := 30) (l := c.ins) (fun n hn => by
  have := E5 (b6 n hn)
  rw [insLn, Nu]; simp; omega)
 have e7 := Cz (f := Dy) (k := 70) (l := c.rows) (fun r hr => by
  have := Cq h3 r hr
  have g1 := Lib.itoa_length_le r.lo (by omega) (by omega)
  have g2 := Lib.itoa_length_le r.hi (by omega) (by omega)
  have g3 := Lib.itoa_length_le r.pad (by omega) (by omega)
  rw [Dy]; simp only [Nu, Nx, N4]; omega)
 rw [codeTx, Fy];simp only [Nu, Nx, N4];omega
theorem Em (i : Ins) (h : Ca i = true) : Fun Tryz.prog 87 [.t i.tt] (Aq [.t (T.str (insTx i)), .t (.bool true)]) := by
 have hw := E6 h
 have hwl := Ee (op := i.op)
 have hil := Lib.itoa_length_le i.n (by omega) (by omega)
 have h19 : wordsL.length = 19 := rfl
 have hwi : (wordsL[i.op.toNat]'(by omega)) = A6 i.op := by unfold A6; rw [OB, List.getElem?_eq_getElem]; rfl
 refine Fun.begin tys Tryz.func87 Z Z (N := 25) [(0, .t i.tt)] Z Z (fun w0 G F0 => ?_);refine sG (BD Z Z (AA Z) Z Z (nZ Z (eK 2 Z (nB (sQ (sG (eZ Z ?_)))))))
 try refine AI (Le.freeze (u := 4) rfl) ?_
 refine nZ Z (AJ ?_);refine ⟨_, Ey _, rfl, ?_⟩;refine eZ Z (AI (Le.known (t := 6) false Z (by simp [h])) ?_);refine nB (Ax Z (AB (tN (sQ (sG (eK 2 Z (AJ ?_)))))));refine ⟨_, EY _, rfl, ?_⟩;refine kZ [1,2,3,9] Z (nB ?_);refine AC Z (fun h1 => ?_) (fun h1 => ?_)
 ·
  refine sQ (A4 mixed (by kernel_rfl) (Jc Z Z (AA Z) Z Z Z Z Z (Fun.frz DG Z) Z (evQ ?_)));refine evQ ?_;refine Co tys Z Z (AA Z) Z Z Z Z Z Z Z (by omega) _ (FW _ _ (by omega) (by omega)) (evQ ?_);refine Aa Z Z (AA Z) Z Z Z (AF (by (try rw [hwi]); (try simp only [Nu, Nx, N4]); omega)) Z ?_;refine AS Z (evQ ?_);refine evQ ?_;refine BU ?_;refine ⟨_, Ks _ (by omega) (by omega), rfl, ?_⟩;refine Aa Z Z (AA Z) Z Z Z (AF (by (try rw [hwi]); (try simp only [Nu, Nx, N4]); omega)) Z ?_;refine evQ ?_;refine evQ ?_;refine AS Z (Bo (tN (rT (tR (eR ?_)))))
  ·(rw [hwi]; simp_all [insTx])
 refine AB (tN (sQ (A4 mixed (by kernel_rfl) (Jc Z Z (AA Z) Z Z Z Z Z (Fun.frz DG Z) Z (evQ ?_)))));refine evQ ?_;refine Co tys Z Z (AA Z) Z Z Z Z Z Z Z (by omega) _ (FW _ _ (by omega) (by omega)) (evQ ?_);refine evQ ?_;refine AS Z (evQ ?_);refine Bo (tN (rT (eR ?_)))
 ·(rw [hwi]; simp_all [insTx])
theorem IC (c : Code) (hp : HD c = true) : Fun Tryz.prog 44 [.t c.tt] (Aq [.t (T.str (codeTx c))]) := by
 have hlen := Fx hp
 obtain ⟨hp1, hp2, hp3⟩ := CQ hp
 obtain ⟨hz1, hz2, hz3, hz4, hz5, hz6⟩ := AV hp1
 have hu1 := Lib.itoa_length_le c.params (by omega) (by omega)
 have hu2 := Lib.itoa_length_le c.vars (by omega) (by omega)
 refine Fun.begin tys Tryz.func44 Z Z (N := 79) [(0, .t c.tt)] Z Z (fun w0 G F0 => ?_);refine sG (BD Z Z (AA Z) Z Z (nZ Z (eZ Z (nB (sQ (A4 mixed (by kernel_rfl) (evQ ?_)))))));refine evQ ?_;refine BU ?_;refine ⟨_, Bd _ (by omega) (by omega), rfl, ?_⟩;refine Aa Z Z (AA Z) Z Z Z (AF (by (try simp only [Nu, Nx, N4]); omega)) Z ?_;refine AS Z (Aa Z Z (AA Z) Z Z Z (AF (by (try simp only [Nu, Nx, N4]); omega)) Z ?_);refine evQ ?_;refine evQ ?_;refine BU ?_;refine ⟨_, Bd _ (by omega) (by omega), rfl, ?_⟩;refine Aa Z Z (AA Z) Z Z Z (AF (by (try simp only [Nu, Nx, N4]); omega)) Z ?_;refine evQ ?_;refine AS Z (Bo (tN (sQ (sG (eK 2 Z (evE ?_))))));refine eZ Z (nB (AD ?_));refine lK (α := Int × Tx) [1, 22, 23] [1] (fun x => [(24, .t (.int (x.1))), (3, .t (T.str (x.2)))]) (fun x => []) (fun x => 0 ≤ (x.1) ∧ (x.1) ≤ c.sites.length ∧ codeTx c = (x.2) ++ ((c.sites.drop (x.1).toNat).flatMap DS ++ ([10] ++ (c.ins.flatMap insLn ++ c.rows.flatMap Dy)))) (fun x => Int.toNat (c.sites.length - (x.1))) (0, Fy c) ?_ (fun x hx => ?_)
 ·exact ⟨by simp, by simp, rfl⟩
 obtain ⟨k, s⟩ := x
 obtain ⟨hk0, hk1, he⟩ := hx
 dsimp only at hk0 hk1 he ⊢;refine nY Z (sG (eZ Z (nB (sQ ?_))));refine AC Z (fun h1 => ?_) (fun h1 => ?_)
 ·
  simp only [HS] at h1;refine AB (tN (sQ (AD (sG ?_))))
  have hn := CK hp2 (N9 (l := c.sites) (n := k.toNat) (by omega))
  have hq := Lib.itoa_length_le (c.sites[k.toNat]'(by omega)) (by omega) (by omega)
  have hes := congrArg List.length he
  rw [Ah hk0 (by omega), DS] at hes;simp only [Nu, Nx, N4] at hes;refine iY (k := ?_);refine eK 2 Z (nB (rG (eK 2 Z (AJ ?_))));refine ⟨_, Bd _ (by omega) (by omega), rfl, ?_⟩;refine AG Z Z (AA Z) Z Z Z (AF (by (try simp only [Nu, Nx, N4]); omega)) Z ?_;refine AG Z Z (AA Z) Z Z Z (AF (by (try simp only [Nu, Nx, N4]); omega)) Z ?_;refine kZ [1,3,5,22,23,24,25,26,27,28,29,30,31,32] Z (eZ Z (oN (bN (tN (rG (evI ?_))))));refine eZ Z (oN ?_);refine lQ (_, _) ?_ ?_
  ·dsimp only
   refine ⟨by omega, by omega, ?_⟩;rw [he, Ah hk0 (by omega), DS];simp only [OA]
  ·(show Int.toNat _ < Int.toNat _); omega
 simp only [HS] at h1;refine AU (tE (AP (AK (tN (sG ?_)))))
 have hes := congrArg List.length he
 simp only [Nu, Nx, N4] at hes;refine eZ Z (AG Z Z (AA Z) Z Z Z (AF (by (try simp only [Nu, Nx, N4]); omega)) Z ?_);refine eZ Z (nB (sQ (sG (eK 2 Z (evE ?_)))));refine eZ Z (nB (AD ?_));refine lK (α := Int × Tx) [1, 37, 38] [1] (fun x => [(39, .t (.int (x.1))), (3, .t (T.str (x.2)))]) (fun x => []) (fun x => 0 ≤ (x.1) ∧ (x.1) ≤ c.ins.length ∧ codeTx c = (x.2) ++ ((c.ins.drop (x.1).toNat).flatMap insLn ++ c.rows.flatMap Dy)) (fun x => Int.toNat (c.ins.length - (x.1))) (0, s ++ [10]) ?_ (fun x hx => ?_)
 ·refine ⟨by simp, by simp, ?_⟩
  rw [he, BG (by omega)]
  simp
 obtain ⟨k, s⟩ := x
 obtain ⟨hk0, hk1, he⟩ := hx
 dsimp only at hk0 hk1 he ⊢;refine nY Z (sG (eZ Z (nB (sQ ?_))));refine AC Z (fun h2 => ?_) (fun h2 => ?_)
 ·
  simp only [HS] at h2;refine AB (tN (sQ (AD (sG ?_))))
  have hi := hz6 _ (N9 (l := c.ins) (n := k.toNat) (by omega))
  have hw := E6 hi
  have hq := E5 hi
  have hes := congrArg List.length he
  rw [Ah hk0 (by omega), insLn] at hes;simp only [Nu, Nx, N4] at hes;refine iY (k := ?_);refine eZ Z ?_
  try refine AI (Le.freeze (u := 42) rfl) ?_
  refine nZ Z (AR tys Z Z (AA Z) Z Z Z (nZ Z (sT Z (nZ Z (nA (eZ Z ?_))))))
  try refine AI (Le.freeze (u := 44) rfl) ?_
  refine nZ Z (AJ ?_);refine ⟨_, Em _ hi, rfl, ?_⟩;refine eZ Z (WO_evF tys Z Z (AA Z) (d := .t _) Z (nZ Z (kZ [1,3,7,37,38,39,40,41,42,43,44,45,46] Z (WO_evF tys Z Z (AA Z) (d := .t _) Z (nZ Z (eK 2 Z (nB (rG (eK 2 Z (AG Z Z (AA Z) Z Z Z (AF (by (try simp only [Nu, Nx, N4]); omega)) Z ?_))))))))));refine AG Z Z (AA Z) Z Z Z (AF (by (try simp only [Nu, Nx, N4]); omega)) Z ?_;refine eZ Z (oN (bN (tN (kY [1,3,7,8,37,38,39,40,41,42,43,44,45,46,47,48,49,50,51] Z (rG (evI ?_))))));refine eZ Z (oN ?_);refine lQ (_, _) ?_ ?_
  ·dsimp only
   refine ⟨by omega, by omega, ?_⟩;rw [he, Ah hk0 (by omega), insLn];simp only [OA]
  ·(show Int.toNat _ < Int.toNat _); omega
 simp only [HS] at h2;refine AU (tE (AP (AK (tN (sQ (sG (eK 2 Z (evE ?_))))))));refine eZ Z (nB (AD ?_));refine lK (α := Int × Tx) [1, 54, 55] [1] (fun x => [(56, .t (.int (x.1))), (3, .t (T.str (x.2)))]) (fun x => []) (fun x => 0 ≤ (x.1) ∧ (x.1) ≤ c.rows.length ∧ codeTx c = (x.2) ++ (c.rows.drop (x.1).toNat).flatMap Dy) (fun x => Int.toNat (c.rows.length - (x.1))) (0, s) ?_ (fun x hx => ?_)
 ·refine ⟨by simp, by simp, ?_⟩
  rw [he, BG (by omega)]
  simp
 obtain ⟨k, s⟩ := x
 obtain ⟨hk0, hk1, he⟩ := hx
 dsimp only at hk0 hk1 he ⊢;refine nY Z (sG (eZ Z (nB (sQ ?_))));refine AC Z (fun h3 => ?_) (fun h3 => ?_)
 ·
  simp only [HS] at h3;refine AB (tN (sQ (AD (sG ?_))))
  have hn := Cq hp3 _ (N9 (l := c.rows) (n := k.toNat) (by omega))
  have hq1 := Lib.itoa_length_le (c.rows[k.toNat]'(by omega)).lo (by omega) (by omega)
  have hq2 := Lib.itoa_length_le (c.rows[k.toNat]'(by omega)).hi (by omega) (by omega)
  have hq3 := Lib.itoa_length_le (c.rows[k.toNat]'(by omega)).pad (by omega) (by omega)
  have hes := congrArg List.length he
  rw [Ah hk0 (by omega), Dy] at hes;simp only [Nu, Nx, N4] at hes;refine iY (k := ?_);refine eZ Z ?_
  try refine AI (Le.freeze (u := 59) rfl) ?_
  refine nZ Z (AR tys Z Z (AA Z) Z Z Z (nZ Z (sT Z (nZ Z (nB (A4 mixed (by kernel_rfl) (evQ ?_)))))));refine AS Z (evQ ?_);refine evQ ?_;refine BU ?_;refine ⟨_, Bd _ (by omega) (by omega), rfl, ?_⟩;refine Aa Z Z (AA Z) Z Z Z (AF (by (try simp only [Nu, Nx, N4]); omega)) Z ?_;refine Aa Z Z (AA Z) Z Z Z (AF (by (try simp only [Nu, Nx, N4]); omega)) Z ?_;refine evQ ?_;refine AS Z (evQ ?_);refine BU ?_;refine ⟨_, Bd _ (by omega) (by omega), rfl, ?_⟩;refine Aa Z Z (AA Z) Z Z Z (AF (by (try simp only [Nu, Nx, N4]); omega)) Z ?_;refine Aa Z Z (AA Z) Z Z Z (AF (by (try simp only [Nu, Nx, N4]); omega)) Z ?_;refine evQ ?_;refine evQ ?_;refine AS Z (BU ?_);refine ⟨_, Bd _ (by omega) (by omega), rfl, ?_⟩
  iterate 3 (refine Aa rfl rfl (AA rfl) rfl rfl rfl (AF (by (try simp only [Nu, Nx, N4]); omega)) rfl ?_)
  refine evQ ?_;refine Bo (bN (tN (rG (evI ?_))));refine eZ Z (oN ?_);refine lQ (_, _) ?_ ?_
  ·dsimp only
   refine ⟨by omega, by omega, ?_⟩;rw [he, Ah hk0 (by omega), Dy];simp only [OA]
  ·(show Int.toNat _ < Int.toNat _); omega
 simp only [HS] at h3;refine AU (tE (AP (AK (tN (sG (eK 2 Z (nB (rT (eR ?_)))))))))
 ·rw [he, BG (by omega)]; simp
theorem He (c : Code) (hp : HD c = true) : FunL Tryz.prog LadC 24 [.t c.tt] (Aq [.t (T.str (codeTx c))]) := by
 have hlen := Fx hp
 obtain ⟨hp1, hp2, hp3⟩ := CQ hp
 obtain ⟨hz1, hz2, hz3, hz4, hz5, hz6⟩ := AV hp1
 have hu1 := Lib.itoa_length_le c.params (by omega) (by omega)
 have hu2 := Lib.itoa_length_le c.vars (by omega) (by omega)
 refine FunL.begin LadCS tys Tryz.func24 Z Z (N := 70) [(0, .t c.tt)] Z Z (fun w0 G F0 hL => ?_);refine sG (BD Z Z (AA Z) Z Z (nZ Z (eZ Z (nA ?_))));refine Ho tys 5 Z Z (AA Z) Z Z Z (fun b => ?_);refine AI (Le.roNil 99) (nZ Z (nZ Z (nB (sQ (D7 9 mixed Z (by kernel_rfl) (by kernel_rfl) (evQ ?_))))));refine evQ ?_;refine D5 hL ?_;refine ⟨_, Be _ (by omega) (by omega), rfl, ?_⟩;refine AS Z (Aa Z Z (AA Z) Z Z Z (AF (by (try simp only [Nu, Nx, N4]); omega)) Z ?_);refine Aa Z Z (AA Z) Z Z Z (AF (by (try simp only [Nu, Nx, N4]); omega)) Z ?_;refine evQ ?_;refine evQ ?_;refine D5 hL ?_;refine ⟨_, Be _ (by omega) (by omega), rfl, ?_⟩;refine Aa Z Z (AA Z) Z Z Z (AF (by (try simp only [Nu, Nx, N4]); omega)) Z ?_;refine AS Z (Bo ?_);refine cP [3] (hm := (AY b [] (Fy c) (by rw [Fy]; simp only [Nu, Nx, N4]; omega))) (k := ?_);refine nZ Z (nB (sQ (sG (eK 2 Z (evE ?_)))));refine eZ Z (nB (AD ?_));refine lK (α := Int × Tx) [1, 3, 21, 22] [1, 99] (fun x => [(23, .t (.int (x.1)))]) (fun x => [(3, .bld 82 5 b (x.2))]) (fun x => 0 ≤ (x.1) ∧ (x.1) ≤ c.sites.length ∧ codeTx c = (x.2) ++ ((c.sites.drop (x.1).toNat).flatMap DS ++ ([10] ++ (c.ins.flatMap insLn ++ c.rows.flatMap Dy)))) (fun x => Int.toNat (c.sites.length - (x.1))) (0, Fy c) ?_ (fun x hx => ?_)
 ·exact ⟨by simp, by simp, rfl⟩
 obtain ⟨k, s⟩ := x
 obtain ⟨hk0, hk1, he⟩ := hx
 dsimp only at hk0 hk1 he ⊢;refine nY Z (sG (eZ Z (nB (sQ ?_))));refine AC Z (fun h1 => ?_) (fun h1 => ?_)
 ·
  simp only [HS] at h1;refine AB (tN (sQ (AD (sG ?_))))
  have hn := CK hp2 (N9 (l := c.sites) (n := k.toNat) (by omega))
  have hq := Lib.itoa_length_le (c.sites[k.toNat]'(by omega)) (by omega) (by omega)
  have hes := congrArg List.length he
  rw [Ah hk0 (by omega), DS] at hes;simp only [Nu, Nx, N4] at hes;refine iY (k := ?_);refine eK 2 Z (nB (rG (eZ Z (B7 hL ?_))));refine ⟨_, Be _ (by omega) (by omega), rfl, ?_⟩;refine nZ Z (AG Z Z (AA Z) Z Z Z (AF (by (try simp only [Nu, Nx, N4]); omega)) Z ?_);refine cP [3] (hm := (AY b s _ (by (try simp only [Nu, Nx, N4]); omega))) (k := ?_);refine nZ Z (oN (bN (tN (kY [1,3,5,21,22,23,24,25,26,27,28,29] Z (rG (evI ?_))))));refine eZ Z (oN ?_);refine lQ (_, _) ?_ ?_
  ·dsimp only
   refine ⟨by omega, by omega, ?_⟩;rw [he, Ah hk0 (by omega), DS];simp only [OA]
  ·(show Int.toNat _ < Int.toNat _); omega
 simp only [HS] at h1;refine AU (tE (AP (AK (tN (sG ?_)))))
 have hes := congrArg List.length he
 simp only [Nu, Nx, N4] at hes;refine cP [3] (hm := (F5 b s 10 (by omega))) (k := ?_);refine nZ Z (nB (sQ (sG (eK 2 Z (evE ?_)))));refine eZ Z (nB (AD ?_));refine lK (α := Int × Tx) [1, 3, 34, 35] [1, 99] (fun x => [(36, .t (.int (x.1)))]) (fun x => [(3, .bld 82 5 b (x.2))]) (fun x => 0 ≤ (x.1) ∧ (x.1) ≤ c.ins.length ∧ codeTx c = (x.2) ++ ((c.ins.drop (x.1).toNat).flatMap insLn ++ c.rows.flatMap Dy)) (fun x => Int.toNat (c.ins.length - (x.1))) (0, s ++ [10]) ?_ (fun x hx => ?_)
 ·refine ⟨by simp, by simp, ?_⟩
  rw [he, BG (by omega)]
  simp
 obtain ⟨k, s⟩ := x
 obtain ⟨hk0, hk1, he⟩ := hx
 dsimp only at hk0 hk1 he ⊢;refine nY Z (sG (eZ Z (nB (sQ ?_))));refine AC Z (fun h2 => ?_) (fun h2 => ?_)
 ·
  simp only [HS] at h2;refine AB (tN (sQ (AD (sG ?_))))
  have hi := hz6 _ (N9 (l := c.ins) (n := k.toNat) (by omega))
  have hw := E6 hi
  have hq := E5 hi
  have hes := congrArg List.length he
  rw [Ah hk0 (by omega), insLn] at hes;simp only [Nu, Nx, N4] at hes;refine iY (k := ?_);refine eZ Z ?_
  try refine AI (Le.freeze (u := 39) rfl) ?_
  refine nZ Z (AR tys Z Z (AA Z) Z Z Z (nZ Z (sT Z (nZ Z (nB (rG (eZ Z ?_)))))))
  try refine AI (Le.freeze (u := 40) rfl) ?_
  refine nZ Z (B7 hL ?_);refine ⟨_, ED _ (by omega) (by omega) (by omega) (by omega), rfl, ?_⟩;refine nZ Z (AG Z Z (AA Z) Z Z Z (AF (by (try simp only [Nu, Nx, N4]); omega)) Z ?_);refine cP [3] (hm := (AY b s _ (by (try simp only [Nu, Nx, N4]); omega))) (k := ?_);refine nZ Z (kZ [1,3,7,34,35,36,37,38,39,40,41,42] Z (oN (bN (tN (rG (evI ?_))))));refine eZ Z (oN ?_);refine lQ (_, _) ?_ ?_
  ·dsimp only
   refine ⟨by omega, by omega, ?_⟩;rw [he, Ah hk0 (by omega), insLn];simp only [OA]
  ·(show Int.toNat _ < Int.toNat _); omega
 simp only [HS] at h2;refine AU (tE (AP (AK (tN (sQ (sG (eK 2 Z (evE ?_))))))));refine eZ Z (nB (AD ?_));refine lK (α := Int × Tx) [1, 3, 46, 47] [1, 99] (fun x => [(48, .t (.int (x.1)))]) (fun x => [(3, .bld 82 5 b (x.2))]) (fun x => 0 ≤ (x.1) ∧ (x.1) ≤ c.rows.length ∧ codeTx c = (x.2) ++ (c.rows.drop (x.1).toNat).flatMap Dy) (fun x => Int.toNat (c.rows.length - (x.1))) (0, s) ?_ (fun x hx => ?_)
 ·refine ⟨by simp, by simp, ?_⟩
  rw [he, BG (by omega)]
  simp
 obtain ⟨k, s⟩ := x
 obtain ⟨hk0, hk1, he⟩ := hx
 dsimp only at hk0 hk1 he ⊢;refine nY Z (sG (eZ Z (nB (sQ ?_))));refine AC Z (fun h3 => ?_) (fun h3 => ?_)
 ·
  simp only [HS] at h3;refine AB (tN (sQ (AD (sG ?_))))
  have hn := Cq hp3 _ (N9 (l := c.rows) (n := k.toNat) (by omega))
  have hq1 := Lib.itoa_length_le (c.rows[k.toNat]'(by omega)).lo (by omega) (by omega)
  have hq2 := Lib.itoa_length_le (c.rows[k.toNat]'(by omega)).hi (by omega) (by omega)
  have hq3 := Lib.itoa_length_le (c.rows[k.toNat]'(by omega)).pad (by omega) (by omega)
  have hes := congrArg List.length he
  rw [Ah hk0 (by omega), Dy] at hes;simp only [Nu, Nx, N4] at hes;refine iY (k := ?_);refine eZ Z ?_
  try refine AI (Le.freeze (u := 51) rfl) ?_
  refine nZ Z (AR tys Z Z (AA Z) Z Z Z (nZ Z (sT Z (nZ Z (nB (D7 15 mixed Z (by kernel_rfl) (by kernel_rfl) (evQ ?_)))))));refine AS Z (evQ ?_);refine D5 hL ?_;refine ⟨_, Be _ (by omega) (by omega), rfl, ?_⟩;refine Aa Z Z (AA Z) Z Z Z (AF (by (try simp only [Nu, Nx, N4]); omega)) Z ?_;refine Aa Z Z (AA Z) Z Z Z (AF (by (try simp only [Nu, Nx, N4]); omega)) Z ?_;refine evQ ?_;refine evQ ?_;refine AS Z (D5 hL ?_);refine ⟨_, Be _ (by omega) (by omega), rfl, ?_⟩;refine Aa Z Z (AA Z) Z Z Z (AF (by (try simp only [Nu, Nx, N4]); omega)) Z ?_;refine Aa Z Z (AA Z) Z Z Z (AF (by (try simp only [Nu, Nx, N4]); omega)) Z ?_;refine evQ ?_;refine evQ ?_;refine D5 hL ?_;refine ⟨_, Be _ (by omega) (by omega), rfl, ?_⟩;refine AS Z (Aa Z Z (AA Z) Z Z Z (AF (by (try simp only [Nu, Nx, N4]); omega)) Z ?_);refine Aa Z Z (AA Z) Z Z Z (AF (by (try simp only [Nu, Nx, N4]); omega)) Z ?_;refine Bo ?_;refine cP [3] (hm := (AY b s _ (by (try simp only [Nu, Nx, N4]); omega))) (k := ?_);refine nZ Z (oN (bN (tN (rG (evI ?_)))));refine eZ Z (oN ?_);refine lQ (_, _) ?_ ?_
  ·dsimp only
   refine ⟨by omega, by omega, ?_⟩;rw [he, Ah hk0 (by omega), Dy];simp only [OA]
  ·(show Int.toNat _ < Int.toNat _); omega
 simp only [HS] at h3;refine AU (tE (AP (AK (tN (sG ?_)))));refine cP [3] (hm := (Dg b s)) (k := ?_);refine nZ Z (eZ Z (nB (rT (eR ?_))))
 ·rw [he, BG (by omega)]; simp
noncomputable def codeTextR (c : Code) : Tx × Bool := if (codeBytesR c).2 then (codeTx c, true) else ([], false)
theorem Hg {c : Code} (h : (codeBytesR c).2 = true) : HD c = true := by
 unfold codeBytesR at h;split at h
 ·rename_i h2
  simp only [Nv] at h2;exact h2.1
 ·cases h
theorem EI (c : Code) (hc : c.ok 1048576) : Fun Tryz.prog 19 [.t c.tt] (Aq [.t (T.str (codeTextR c).1), .t (.bool (codeTextR c).2)]) := by
 refine Fun.begin tys Tryz.func19 Z Z (N := 15) [(0, .t c.tt)] Z Z (fun w0 G F0 => ?_);refine sG (BD Z Z (AA Z) Z Z (nZ Z (eK 2 Z (nB (sQ (sG (eZ Z ?_)))))))
 try refine AI (Le.freeze (u := 7) rfl) ?_
 refine nZ Z (AJ ?_);refine ⟨_, Dt c hc, rfl, ?_⟩;refine eZ Z (WO_evF tys Z Z (AA Z) (d := .t _) Z (nZ Z (WO_evF tys Z Z (AA Z) (d := .t _) Z (nZ Z (eZ Z (kZ [1,2,3,10] Z (eZ Z (nA (eK 2 Z (nB ?_))))))))));refine AC Z (fun h1 => ?_) (fun h1 => ?_)
 ·
  simp only [HS] at h1;refine sG (eK 2 Z (nB (rT (tR (eR ?_)))))
  ·simp_all [codeTextR]
 simp only [HS] at h1;refine AB (tN (sG (eZ Z ?_)))
 try refine AI (Le.freeze (u := 13) rfl) ?_
 refine nZ Z (AJ ?_);refine ⟨_, IC c (Hg (by assumption)), rfl, ?_⟩;refine eK 2 Z (nB (rT (eR ?_)))
 ·simp_all [codeTextR]
open Go.Eng
def DM : Tx := [114, 111, 119]
def C3 : Tx := [99, 111, 100, 101]
noncomputable def numW (w : Tx) : Bool := decide (0 ≤ digS w ∧ digS w ≤ 1000000)
noncomputable def numsW (ws : List Tx) : List Int := if ws.all numW then ws.map digS else []
def EZ (l : Tx) : Tx := (AH 32 [] l).getD 0 []
def B5 (l : Tx) : List Tx := (AH 32 [] l).drop 1
noncomputable def rowW (ws : List Tx) : Row := ⟨digS (ws.getD 0 []), digS (ws.getD 1 []), digS (ws.getD 2 [])⟩
noncomputable def rowOk (l : Tx) : Bool := (B5 l).all numW && decide ((B5 l).length = 3)
noncomputable def insOk (c : Code) (l : Tx) : Bool := (insRd l).2 && decide (c.rows.length = 0)
noncomputable def stepL (c : Code) (l : Tx) : Code × Bool :=
 if EZ l = DM then (if rowOk l = true then ({ c with rows := c.rows ++ [rowW (B5 l)] }, true) else (c, false))
 else if insOk c l = true then ({ c with ins := c.ins ++ [(insRd l).1] }, true) else (c, false)
noncomputable def headOk (l : Tx) : Bool := decide (EZ l = C3) && ((B5 l).all numW && decide (2 ≤ (B5 l).length))
noncomputable def headC (l : Tx) : Code := ⟨digS ((B5 l).getD 0 []), digS ((B5 l).getD 1 []), ((B5 l).drop 2).map digS, [], []⟩
def code0 : Code := ⟨0, 0, [], [], []⟩
noncomputable def stepG (k : Int) (c : Code) (l : Tx) : Code × Bool := if k = 0 then (if headOk l = true then (headC l, true) else (c, false)) else stepL c l
noncomputable def runG : Int → Code → List Tx → Int × Code
 | _, c, [] => (0, c)
 | k, c, l :: ls => if (stepG k c l).2 = true then runG (k + 1) (stepG k c l).1 ls else (k + 1, c)
def BN (s : Tx) : Bool := decide (s.length ≤ 8000) && decide (s.getLast? = some 10)
noncomputable def readL (s : Tx) : Code × Int × Bool :=
 if BN s = true then
  (if (runG 0 code0 (AH 10 [] s.dropLast)).1 = 0 then
   (if (codeBytesR (runG 0 code0 (AH 10 [] s.dropLast)).2).2 = true ∧ codeTx (runG 0 code0 (AH 10 [] s.dropLast)).2 = s then ((runG 0 code0 (AH 10 [] s.dropLast)).2, 0, true) else (code0, 0, false))
  else (code0, (runG 0 code0 (AH 10 [] s.dropLast)).1, false))
 else (code0, 0, false)
abbrev cC (S : T) (c : Code) : List D := [.t (T.int c.params), .t (T.int c.vars), .own S, .own (T.Inss c.ins), .own (T.Rows c.rows)]
theorem Kj {w : Tx} (h : numW w = true) : 0 ≤ digS w ∧ digS w ≤ 1000000 := of_decide_eq_true h
theorem LK {α : Type} {p : α → Bool} {l : List α} {k : Int} (h0 : 0 ≤ k) (h1 : k < l.length) (h : (l.take k.toNat).all p = true) (h2 : p (l[k.toNat]'(by omega)) = true) : (l.take (k + 1).toNat).all p = true := by
 rw [Eh h0 h1, List.all_append, h]
 simpa using h2
theorem Gl {α : Type} {p : α → Bool} {l : List α} {k : Int} (h0 : 0 ≤ k) (h1 : k < l.length) (h2 : ¬ p (l[k.toNat]'(by omega)) = true) : l.all p = false := by
 rw [← OQ, N1]
 exact fun h => h2 (h _ (N9 _))
theorem H2 {k : Int} {c : Code} {L : List Tx} (h0 : 0 ≤ k) (h1 : k < L.length) (hs : (stepG k c (L[k.toNat]'(by omega))).2 = true) : runG k c (L.drop k.toNat) = runG (k + 1) (stepG k c (L[k.toNat]'(by omega))).1 (L.drop (k + 1).toNat) := by
 rw [AX h0 h1, runG, if_pos hs]
theorem M9 {k : Int} {c : Code} {L : List Tx} (h0 : 0 ≤ k) (h1 : k < L.length) (hs : ¬ (stepG k c (L[k.toNat]'(by omega))).2 = true) : runG k c (L.drop k.toNat) = (k + 1, c) := by
 rw [AX h0 h1, runG, if_neg hs]
theorem Lv {k : Int} {c : Code} {L : List Tx} (h1 : (L.length : Int) ≤ k) : runG k c (L.drop k.toNat) = (0, c) := by
 rw [AQ h1, runG]
theorem stepL_sm {c : Code} {l : Tx} : (stepL c l).1.sites = c.sites ∧ (stepL c l).1.ins.length ≤ c.ins.length + 1 ∧ (stepL c l).1.rows.length ≤ c.rows.length + 1 := by
 unfold stepL;split
 ·split
  ·simp
  ·simp
 ·split
  ·simp
  ·simp
theorem Ij {k : Int} {c : Code} {l : Tx} {B : Nat} (hl : (B5 l).length ≤ B) (h1 : c.sites.length ≤ B) (h2 : c.ins.length ≤ k) (h3 : c.rows.length ≤ k) : (stepG k c l).1.sites.length ≤ B ∧ ((stepG k c l).1.ins.length : Int) ≤ k + 1 ∧ ((stepG k c l).1.rows.length : Int) ≤ k + 1 := by
 unfold stepG;split
 ·split
  ·refine ⟨?_, by simp [headC]; omega, by simp [headC]; omega⟩
   simp only [headC, N0, OT]; omega
  ·exact ⟨h1, by simp only; omega, by simp only; omega⟩
 ·have := stepL_sm (c := c) (l := l)
  rw [this.1];exact ⟨h1, by omega, by omega⟩
theorem M2 (u0 : Tx) (ws : List Tx) : List.take ((((u0 :: ws).map T.str).length : Int).toNat - Int.toNat 1) (List.drop (Int.toNat 1) ((u0 :: ws).map T.str)) = ws.map T.str := by
 have e : List.drop (Int.toNat 1) ((u0 :: ws).map T.str) = ws.map T.str := rfl
 rw [e, Nw (by simp)]
open Go.Eng Go.RowKit
theorem Fun.plain {P : Program} {f : FuncId} {vs : List Value} {u : Value} {r : Go.Eng.D} (hc : BJ P f) (h : ∀ w, Calls P f vs.toArray w fun e w' => e = .returned u ∧ w' = w) (hr : ∀ (w : World) (F : Nat → Prop), RelD w F (fun _ => none) [u] [r] []) : Eng.Fun P f (vs.map fun v => .t (.v v)) r := by
 refine ⟨hc, fun w F args hF hargs => ?_⟩
 have key : ∀ {vs : List Value} {ws : List Value}, RelD w F (fun _ => none) ws (vs.map fun v => Go.Eng.D.t (.v v)) [] → ws = vs := by
  intro vs
  induction vs with
  | nil => intro ws h; cases h; rfl
  | cons v vs ih =>
   intro ws h
   cases ws with
   | nil => cases h
   | cons a ws =>
    obtain ⟨b1, b2, h1, h2, h3⟩ := RelD.cons h
    obtain ⟨rfl, rfl⟩ := List.append_eq_nil_iff.1 h3.symm
    rw [Am h1, ih h2]
 have he := key hargs
 have ha : args = vs.toArray := by rw [← he]
 subst ha;refine (h w).mono ?_
 rintro e w' ⟨rfl, rfl⟩
 exact ⟨u, F, [], rfl, Below.refl _ _, fun _ h => h, fun _ h => .inl h, hr _ _, by simp, by simp⟩
open Go.Eng Go.RowKit Go.Sort
theorem Ia {w : World} {o : Obj} : Below w.heap.size w (w.alloc o) := by
 refine ⟨rfl, rfl, rfl, ?_, fun k hk => ?_⟩
 ·show w.heap.size ≤ (w.heap.push o).size
  rw [Array.size_push]; omega
 ·show (w.heap.push o)[k]? = w.heap[k]?
  rw [Array.getElem?_push_lt hk]; exact (Array.getElem?_eq_getElem hk).symm
theorem FunL.fresh {P : Program} {Λ : World → (Nat → Prop) → Prop} {f : FuncId} {vs us : List Value} {ty : TypeId} (hc : BJ P f)
  (h : ∀ w F, Λ w F → Calls P f vs.toArray w fun e w' => e = .returned (.slice (some ⟨w.heap.size, 0, none⟩) us.length us.length) ∧ w' = w.alloc (.cells us.toArray ty)) (h1 : ∀ u, u ∈ us → u.oneCell' = true) (hm : us.length ≤ maxLen) :
  FunL P Λ f (vs.map fun v => .t (.v v)) (.own (.list 1 (us.map T.v))) := by
 refine ⟨hc, fun w F args hΛ hF hargs => ?_⟩
 have he := BQ hargs
 have ha : args = vs.toArray := by rw [← he]
 subst ha;refine (h w F hΛ).mono ?_
 rintro e w' ⟨rfl, rfl⟩
 have hb : (w.alloc (.cells us.toArray ty)).heap[w.heap.size]? = some (.cells us.toArray ty (0, 0)) := by
  show (w.heap.push _)[w.heap.size]? = _;rw [Array.getElem?_push_size]
 have hs : (w.alloc (.cells us.toArray ty)).heap.size = w.heap.size + 1 := by
  show (w.heap.push _).size = _;rw [Array.size_push]
 refine ⟨_, F, [w.heap.size], rfl, Ia, fun _ h => h, fun _ h => .inl h, ?_, by simp, fun b hb => ?_⟩
 ·have ho := OwnL.list (w := w.alloc (.cells us.toArray ty)) (vs := []) (ts := []) (bs := []) (bs' := []) (n := 1) (cap := us.length) (xs := us.map T.v) (cs := us) hb (by simp) (by simp) (fun x hx => by obtain ⟨y, _, rfl⟩ := List.mem_map.1 hx; rfl) (by simp) hm (by rw [GV]; exact Ce h1) .nil
  rw [N0] at ho;exact .own (bs' := []) ho .done
 ·simp only [Oe] at hb
  subst hb;exact ⟨OJ _, by omega, fun h => absurd (hF _ h) (by omega)⟩
theorem Gy (s : Tx) (c : UInt8) (hs : s.length ≤ 1048576) : FunL Tryz.prog Lad 21 [.t (T.str s), .t (T.str [c])] (.own (T.strs (AH c [] s))) := by
 have hsz : (⟨⟨[c]⟩⟩ : ByteArray).size = 1 := rfl
 have hd := Lib.splitB_data ⟨⟨[c]⟩⟩ 0 (Lib.countB ⟨⟨s⟩⟩ ⟨⟨[c]⟩⟩) ⟨⟨s⟩⟩
 have hg : (Lib.splitB ⟨⟨[c]⟩⟩ 0 (Lib.countB ⟨⟨s⟩⟩ ⟨⟨[c]⟩⟩) ⟨⟨s⟩⟩).map (·.data.toList) = AH c [] s := by
  rw [hd];exact M4 s.length s (OJ _)
 have hl := Lib.splitB_all ⟨⟨[c]⟩⟩ (by rw [hsz]; exact OJ 1) 0 _ ⟨⟨s⟩⟩ rfl
 have hu : (Lib.splitB ⟨⟨[c]⟩⟩ 0 (Lib.countB ⟨⟨s⟩⟩ ⟨⟨[c]⟩⟩) ⟨⟨s⟩⟩).map Value.string = (AH c [] s).map fun x => Value.string ⟨⟨x⟩⟩ := by
  rw [← hg, List.map_map];rfl
 have hlen : ((AH c [] s).map fun x => Value.string ⟨⟨x⟩⟩).length = Lib.countB ⟨⟨s⟩⟩ ⟨⟨[c]⟩⟩ + 1 := by rw [← hu, N0, hl]
 have hb := Av (c := c) (l := s) (pre := [])
 have := FunL.fresh (P := Tryz.prog) (Λ := Lad) (f := 21) (vs := [.string ⟨⟨s⟩⟩, .string ⟨⟨[c]⟩⟩]) (us := (AH c [] s).map fun x => Value.string ⟨⟨x⟩⟩) (ty := 9) ⟨_, Tryz.func21, rfl, rfl⟩ (fun w F h => by
  obtain ⟨m, hm⟩ := h.2.2.1
  rw [hlen, ← hu]
  exact Tryz.strings_Split ⟨⟨s⟩⟩ ⟨⟨[c]⟩⟩ m w (show s.length < 4294967281 by omega) hm (by rw [hsz]; exact OJ 1)) (fun u hu => by obtain ⟨x, _, rfl⟩ := List.mem_map.1 hu; rfl) (by rw [N0]; exact Nat.le_trans hb (by unfold maxLen; omega))
 rw [List.map_map] at this;exact this
theorem GS (s p : Tx) (hs : s.length ≤ 1048576) : Fun Tryz.prog 20 [.t (T.str s), .t (T.str p)] (.t (.bool (Lib.hasSuffix s p))) := by
 refine Fun.plain (vs := [.string ⟨⟨s⟩⟩, .string ⟨⟨p⟩⟩]) (u := .bool (Lib.hasSuffix s p)) ⟨_, Tryz.func20, rfl, rfl⟩ (fun w => ?_) (fun w F => .t (.v Z .nil) .done);refine (Tryz.strings_HasSuffix ⟨⟨s⟩⟩ ⟨⟨p⟩⟩ w (show s.length ≤ 9223372036854775807 by omega)).mono ?_
 rintro e w' ⟨rfl, rfl⟩
 exact ⟨rfl, rfl⟩
open Go.Eng
theorem Ng {l : Tx} {n : Int} (h : Lib.atoiAll l = .ok n) : -9223372036854775808 ≤ n ∧ n ≤ 9223372036854775807 := by
 unfold Lib.atoiAll at h;split at h
 ·cases h
 ·split at h
  ·cases h
  ·cases h
  ·simp only at h
   split at h
   ·cases h
   ·split at h
    ·cases h
    ·injection h with h
     subst h
     split <;> omega
noncomputable def scrB (w : Tx) : Bool := match Lib.atoiAll w with
 | .ok n => decide (Lib.itoa n = w) && decide (-2147483648 ≤ n ∧ n ≤ 2147483647)
 | _ => false
noncomputable def scrN (w : Tx) : Int := match Lib.atoiAll w with
 | .ok n => n
 | _ => 0
theorem LI {w : Tx} {x : Int × Value} (h : Lh w x) (he : isErr w = false) : Lib.atoiAll w = .ok x.1 := by
 rcases h with ⟨_, h⟩ | ⟨_, h⟩
 ·exact h
 ·unfold isErr at he
  split at he
  ·rename_i v hv; exact absurd hv (h v)
  ·cases he
theorem Lt {w : Tx} (h : isErr w = true) : scrB w = false := by
 unfold isErr at h; unfold scrB
 cases ha : Lib.atoiAll w with
 | ok n => rw [ha] at h; cases h
 | _ => rfl
theorem Dx {w : Tx} {n : Int} (h : Lib.atoiAll w = .ok n) : scrB w = (decide (Lib.itoa n = w) && decide (-2147483648 ≤ n ∧ n ≤ 2147483647)) ∧ scrN w = n := by
 unfold scrB scrN; rw [h]; exact ⟨rfl, rfl⟩
theorem I3 {n : Int} (h : 0 ≤ n) : Lib.itoa n = Lib.decDigits n.toNat := by
 unfold Lib.itoa; rw [if_neg (by omega)]
theorem H0 (w : Tx) : (scrB w && decide (0 ≤ scrN w ∧ scrN w ≤ 1000000)) = numW w ∧ (numW w = true → scrN w = digS w) := by
 have key : numW w = true → scrB w = true ∧ scrN w = digS w := fun h => by
  obtain ⟨h0, h1⟩ := Kj h
  have e : Lib.itoa (digS w) = w := by rw [I3 h0]; exact (Gb h0).symm
  have e2 := Hk (n := digS w) (by omega) (by omega)
  rw [e] at e2
  obtain ⟨g1, g2⟩ := Dx e2
  rw [g1, e, g2, decide_eq_true (show -2147483648 ≤ digS w ∧ digS w ≤ 2147483647 by omega)]
  simp
 refine ⟨?_, fun h => (key h).2⟩
 by_cases h : numW w = true
 ·obtain ⟨h1, h2⟩ := key h
  rw [h, h1, h2]
  have := Kj h
  simp; omega
 ·have hf : numW w = false := by simpa using h
  rw [hf, ← OQ];intro hc;rw [Nv, decide_eq_true_eq] at hc
  obtain ⟨h1, h2, h3⟩ := hc
  cases ha : Lib.atoiAll w with
  | ok n =>
   obtain ⟨g1, g2⟩ := Dx ha
   rw [g1, Nv, decide_eq_true_eq] at h1;rw [g2] at h2 h3
   have e : digS w = n := by
    have := Gc (u := n.toNat) (by have h10 : (10 : Nat) ^ 10 = 10000000000 := (by decide); omega)
    rw [← I3 h2, h1.1] at this;omega
   exact h (by unfold numW; rw [e]; simp; omega)
  | _ => unfold scrB at h1; rw [ha] at h1; cases h1
noncomputable def scrL (ws : List Tx) : List Int := if ws.all scrB then ws.map scrN else []
theorem H1 {ws : List Tx} (h : ws.all scrB = false) : [D.own (T.list 1 []), D.t (T.v (.bool false))] = [D.own (T.ints (scrL ws)), D.t (T.bool (ws.all scrB))] := by
 rw [scrL, h]; rfl
theorem scrL_yes {ws : List Tx} (h : ws.all scrB = true) : [D.own (T.ints (ws.map scrN)), D.t (T.v (.bool true))] = [D.own (T.ints (scrL ws)), D.t (T.bool (ws.all scrB))] := by
 rw [scrL, h]; rfl
theorem M8 {w : Tx} (h : isErr w = true) : ¬ scrB w = true := by rw [Lt h]; exact Bool.false_ne_true
theorem M7 {w : Tx} {n : Int} (h : Lib.atoiAll w = .ok n) (h1 : ¬ Lib.itoa n = w) : ¬ scrB w = true := by rw [(Dx h).1, decide_eq_false h1]; exact Bool.false_ne_true
theorem M6 {w : Tx} {n : Int} (h : Lib.atoiAll w = .ok n) (h1 : ¬ (-2147483648 ≤ n ∧ n ≤ 2147483647)) : ¬ scrB w = true := by rw [(Dx h).1, decide_eq_false h1, Og]; exact Bool.false_ne_true
theorem M5 {w : Tx} {n : Int} (h : Lib.atoiAll w = .ok n) (h1 : Lib.itoa n = w) (h2 : -2147483648 ≤ n ∧ n ≤ 2147483647) : scrB w = true ∧ scrN w = n := by
 rw [(Dx h).1, decide_eq_true h1, decide_eq_true h2]; exact ⟨rfl, (Dx h).2⟩
theorem Dw (ws : List Tx) (hl : ws.length ≤ 1048577) (hw : ∀ w, w ∈ ws → w.length ≤ 1048576) : FunL Tryz.prog Lad 91 [.t (T.strs ws)] (Aq [.own (T.ints (scrL ws)), .t (.bool (ws.all scrB))]) := by
 refine FunL.begin LadS tys Tryz.func91 Z Z (N := 39) [(0, .t (T.strs ws))] Z Z (fun w0 G F0 hL => ?_);refine sG (eK 2 Z (nA (eZ Z (AI (Le.nilOwn (u := 4) 1 Z) (AI (Le.adoptE (u := 4) 4 Z Z) (nZ Z (nB (sQ (sG (eZ Z (evE ?_)))))))))));refine eZ Z (nB (AD ?_));refine lK (α := Int × Nat × List T) [9, 10] [] (fun x => [(11, .t (.int (x.1))), (4, .sl 4 0 (x.2.1))]) (fun x => [(4, .L 1 (x.2.2))]) (fun x => 0 ≤ (x.1) ∧ (x.1) ≤ ws.length ∧ (x.2.1) = (x.2.2).length ∧ ((x.2.2).length : Int) ≤ (x.1) ∧ (x.2.2) = ((ws.take (x.1).toNat).map scrN).map T.int ∧ (ws.take (x.1).toNat).all scrB = true) (fun x => Int.toNat (ws.length - (x.1))) (0, 0, []) ?_ (fun x hx => ?_)
 ·exact ⟨OC 0, by simp only; omega, rfl, OC 0, rfl, rfl⟩
 obtain ⟨k, m, xs⟩ := x
 obtain ⟨hk0, hk1, hm, hxl, hx, ha⟩ := hx
 dsimp only at hk0 hk1 hm hxl hx ha ⊢;refine nY Z (sG (eZ Z (nB (sQ ?_))));refine AC Z (fun h1 => ?_) (fun h1 => ?_)
 ·
  simp only [HS] at h1;refine AB (tN (sQ (AD (sG ?_))));refine iY (k := ?_);refine eK 2 Z (nA (eZ Z ?_));refine Hn Z Z (AA Z) Z Z (by repeat (first | exact ResL.done | exact ResL.imms (by first | rfl | assumption) | refine ResL.t ?_ | refine ResL.own ?_ | refine ResL.slA Z (by first | rfl | (simp; done) | (simp; omega)) ?_ | refine ResL.sl Z (by first | omega | (simp; done) | (simp; omega)) ?_ | refine ResL.rp ?_ | refine ResL.clo ?_ ?_ | refine ResL.aggT ?_ ?_ | refine ResL.ref Z ?_ ?_ | refine ResL.nil' ?_ | refine ResL.nil 1 ?_)) hL (JV (ws[k.toNat]'(by omega)) (hw _ (N9 _))) (fun _ => rfl) (fun ⟨n, er⟩ hat => ?_);refine nZ Z (eZ Z (WO_evF tys Z Z (AA Z) (d := .t _) Z (nZ Z (WO_evF tys Z Z (AA Z) (d := .t _) Z (nZ Z (kZ [4,6,9,10,11,12,13,14,15,16,17,18,19] Z (eK 2 Z (nB (sQ (sG (eZ Z (Hm Z Z (AA Z) Z (by kernel_rfl) Z (D6 hat) (eZ Z ?_)))))))))))));refine gB (fun h2 => ?_) (fun h2 => ?_)
  ·
   simp only [HS] at h2;refine xK 4 Z (kZ [4,6,7,8,9,10,11,12,13,14,15,16,17,18,19,20,21,22,23,24,25,26,27] Z (xK 5 Z (nB (AW Z (sG (eK 2 Z (nB (Ay (Le.nilOwn (u := 2) 1 Z) (nY Z (rT (tR (bR (tR (AO (bR ?_)))))))))))))));refine tR (eR ?_)
   ·first
    | exact H1 (Gl hk0 h1 (M8 h2))
  refine eZ Z (gY Z ?_)
  have hao := LI hat (by assumption)
  have hab := Ng hao
  refine B7 hL ?_;refine ⟨_, L7 n hab.1 hab.2, rfl, ?_⟩;refine nZ Z (xZ Z (gY Z (AG Z Z (AA Z) Z Z Z CW Z (kZ [4,6,7,8,9,10,11,12,13,14,15,16,17,18,19,20,21,22,23,24,25,26] Z (eK 2 Z ?_)))));refine gB (fun h3 => ?_) (fun h3 => ?_)
  ·
   simp only [HS] at h3;refine xK 3 Z (nB (AW Z (sG (eK 2 Z (nB (Ay (Le.nilOwn (u := 2) 1 Z) (nY Z (rT (tR (bR (tR (AO (bR (tR (eR ?_)))))))))))))))
   ·first
    | exact H1 (Gl hk0 h1 (M7 hao h3))
  simp only [HS] at h3;refine eZ Z (gY Z (AJ ?_));refine ⟨_, E3 _, rfl, ?_⟩;refine xK 2 Z (nB ?_);refine AC Z (fun h4 => ?_) (fun h4 => ?_)
  ·
   simp only [HS] at h4;refine sG (eK 2 Z (nB (Ay (Le.nilOwn (u := 2) 1 Z) (nY Z (rT (tR (bR (tR (AO (bR (tR (eR ?_))))))))))))
   ·first
    | exact H1 (Gl hk0 h1 (M6 hao h4))
  simp only [HS] at h4;refine AB (tN (rG (eK 2 Z (bZ [T.int n] ?_))));refine nZ Z (kZ [4,6,7,8,9,10,11,12,13,14,15,16,17,18,19,20,21,22,23,24,25,26,27,28,29,30,31,32,33,34,35] Z (Ac tys Z Z (AA Z) Z Z Z Z Z (.own Z (by first | omega | (simp only [Nu]; omega))) Z (.own Z (by first | decide | omega)) (by decide) (by simp; omega) (by decide) Z ?_));refine nZ Z (eZ Z (oN (bN (tN (rG (evI ?_))))));refine eZ Z (oN ?_);refine lQ (_, _, _) ?_ ?_
  ·dsimp only
   have g := M5 hao h3 h4
   refine ⟨by omega, by omega, by simp, by simp [hm]; omega, ?_, LK hk0 h1 ha g.1⟩;rw [Eh hk0 h1, hm, OH, hx, List.map_append, List.map_append, List.map_singleton, g.2]; rfl
  ·(show Int.toNat _ < Int.toNat _); omega
 simp only [HS] at h1;refine AU (tE (AP (AK (tN (sG (eK 3 Z (nB ?_)))))))
 (refine Ay (Le.gather (u := 2) (id := 4) rfl rfl (by first | (simp; done) | (simp; omega) | omega)) ?_; refine FP rfl ?_)
 refine rT (eR ?_)
 ·first
  | (rw [hm, OH, hx, Nw (by omega)]; rw [Nw (by omega)] at ha; exact scrL_yes ha)
noncomputable def lnL (word l : Tx) : List Int := if EZ l = word then scrL (B5 l) else []
noncomputable def lnB (word l : Tx) : Bool := decide (EZ l = word) && (B5 l).all numW
theorem Nh {ns : List Int} : (ns.any fun n => !decide ((0 : Int) ≤ n ∧ n ≤ 1000000)) = !(ns.all fun n => decide ((0 : Int) ≤ n ∧ n ≤ 1000000)) := by
 induction ns with
 | nil => rfl
 | cons a l ih => rw [List.any_cons, OP, ih, Bool.not_and]
theorem NH (ws : List Tx) : (ws.all scrB && !((scrL ws).any fun n => !decide ((0 : Int) ≤ n ∧ n ≤ 1000000))) = ws.all numW := by
 rw [Nh, Bool.not_not];unfold scrL
 by_cases h : ws.all scrB = true
 ·rw [if_pos h, h, Bool.true_and]
  induction ws with
  | nil => rfl
  | cons w l ih =>
   rw [OP, Nv] at h;rw [OV, OP, OP, ih h.2, ← (H0 w).1, h.1, Bool.true_and]
 ·have hf : ws.all scrB = false := by simpa using h
  rw [hf, Bool.false_and]
  symm
  rw [← OQ];intro hc;refine h (N1.2 fun w hw => ?_)
  have := N1.1 hc w hw
  rw [← (H0 w).1, Nv] at this;exact this.1
theorem Ew {word l : Tx} (h : lnB word l = true) : EZ l = word ∧ (B5 l).all numW = true ∧ lnL word l = numsW (B5 l) := by
 unfold lnB at h;rw [Nv, decide_eq_true_eq] at h;refine ⟨h.1, h.2, ?_⟩;rw [lnL, if_pos h.1, numsW, if_pos h.2, scrL]
 have h2 := h.2
 rw [← NH, Nv] at h2;rw [if_pos h2.1]
 refine List.map_congr_left fun w hw => ?_
 exact (H0 w).2 (N1.1 h.2 w hw)
theorem Iz {word l : Tx} {ws : List Tx} (h : EZ l = word) (hr : B5 l = ws) : lnB word l = ws.all numW := by
 rw [lnB, hr, decide_eq_true h, Bool.true_and]
theorem lnR_no {word l : Tx} (h : ¬ EZ l = word) : [D.own (T.list 1 []), D.t (T.v (.bool false))] = [D.own (T.ints (lnL word l)), D.t (T.bool (lnB word l))] := by
 rw [lnL, if_neg h, lnB, decide_eq_false h]; rfl
theorem EJ (n : Int) : Fun Tryz.prog 92 [.t (.int n)] (Aq [.t (.bool (!decide ((0 : Int) ≤ n ∧ n ≤ 1000000)))]) := by
 refine Fun.begin tys Tryz.func92 Z Z (N := 6) [(0, .t (.int n))] Z Z (fun w0 G F0 => ?_);refine sG (eZ Z (nA (eZ Z (AJ ?_))));refine ⟨_, BE _ _ _, rfl, ?_⟩;refine eK 2 Z (nB (rT (eR ?_)))
 ·rfl
theorem NJ {word l : Tx} {ws : List Tx} (h : EZ l = word) (hr : B5 l = ws) (h2 : ws.all scrB = false) : [D.own (T.list 1 (((scrL ws).map T.int).take (scrL ws).length)), D.t (T.v (.bool false))] = [D.own (T.ints (lnL word l)), D.t (T.bool (lnB word l))] := by
 rw [Nw (by simp), lnL, if_pos h, hr, Iz h hr, ← NH, h2, Bool.false_and]; rfl
theorem NI {word l : Tx} {ws : List Tx} (h : EZ l = word) (hr : B5 l = ws) (h2 : ws.all scrB = true) : [D.own (T.list 1 (((scrL ws).map T.int).take (scrL ws).length)), D.t (T.v (.bool !((scrL ws).any fun n => !decide ((0 : Int) ≤ n ∧ n ≤ 1000000))))] = [D.own (T.ints (lnL word l)), D.t (T.bool (lnB word l))] := by
 rw [Nw (by simp), lnL, if_pos h, hr, Iz h hr, ← NH, h2, Bool.true_and]; rfl
theorem Ch (l word : Tx) (hl : l.length ≤ 1048576) : FunL Tryz.prog Lad 47 [.t (T.str l), .t (T.str word)] (Aq [.own (T.ints (lnL word l)), .t (.bool (lnB word l))]) := by
 obtain ⟨u0, ws, hW⟩ : ∃ u0 ws, AH 32 [] l = u0 :: ws := A8
 have hsp := Gy l 32 hl
 rw [hW] at hsp
 have hln := Av (c := 32) (l := l) (pre := [])
 rw [hW] at hln
 have hl2 : ((u0 :: ws).length : Int) = (ws.length : Int) + 1 := by simp
 have hf : EZ l = u0 := by unfold EZ; rw [hW]; rfl
 have hr : B5 l = ws := by unfold B5; rw [hW]; rfl
 have heach : ∀ w, w ∈ u0 :: ws → w.length ≤ 1048576 := fun w h => by have := A1 (hW ▸ h); simp at this; omega
 have hsl : (scrL ws).length ≤ ws.length := by unfold scrL; split <;> simp
 refine FunL.begin LadS tys Tryz.func47 Z Z (N := 29) [(0, .t (T.str l)), (1, .t (T.str word))] Z Z (fun w0 G F0 hL => ?_);refine sG (eK 2 Z (nA (eZ Z (B7 hL ?_))));refine ⟨_, hsp, rfl, ?_⟩;refine nZ Z (AI (Le.freeze (u := 10) Z) (nZ Z (eZ Z (nB (sQ (sG (eZ Z ?_)))))));refine iY (k := ?_);refine eK 2 Z (kZ [4,5,6,13,14] Z (AG Z Z (AA Z) Z Z Z CW Z (nB ?_)));refine AC Z (fun h1 => ?_) (fun h1 => ?_)
 ·
  simp only [HS] at h1;refine sG (eK 2 Z (nB (Ay (Le.nilOwn (u := 4) 1 Z) (nY Z (rT (tR (eR ?_)))))))
  ·first
   | exact lnR_no (fun e => h1 (hf.symm.trans e))
 simp only [HS] at h1;refine AB (tN (sG (eZ Z (Cm tys Z Z (AA Z) Z Z Z Z Z Z Z Z (by first | omega | (simp only [N0]; omega)) (by first | omega | (simp only [N0]; omega)) (by first | omega | (simp only [N0]; omega)) ?_))));rw [M2 u0 ws];refine B7 hL ?_;refine ⟨_, Dw ws (by omega) (fun w h => heach w (by simp [h])), rfl, ?_⟩;refine nZ Z (Al Z Z (AA Z) (.inr Z) Z Z (Ao Z Z (AA Z) Z Z Z Z ?_))
 first | refine AI (Le.adoptE (u := 20) 20 rfl (by first | exact NL | exact rfl)) ?_ | skip
 refine nZ Z (WO_evF tys Z Z (AA Z) (d := .t _) Z (nZ Z (eK 2 Z (kZ [4,5,7,8] Z (nA (eK 3 Z ?_))))));refine gB (fun h2 => ?_) (fun h2 => ?_)
 ·
  simp only [HS] at h2;refine xK 5 Z (nB ?_)
  (refine Ay (Le.gather (u := 4) (id := 20) rfl rfl (by simp)) ?_; refine FP rfl ?_)
  refine rT (eR ?_)
  ·first
   | exact NJ (hf.trans h1) hr h2
 refine eZ Z (gY Z (AJ ?_));refine ⟨_, JD (scrL ws) (fun n => !decide ((0 : Int) ≤ n ∧ n ≤ 1000000)) _ [] Z (by omega) (fun x _ => EJ x), rfl, ?_⟩;refine xK 4 Z (kZ [4,5] Z (nB ?_))
 (refine Ay (Le.gather (u := 4) (id := 20) rfl rfl (by simp)) ?_; refine FP rfl ?_)
 refine rT (eR ?_)
 ·first
  | exact NI (hf.trans h1) hr h2
open Go.Eng
theorem L0 {ws : List Tx} (h : ws.all numW = false) : [D.own (T.list 1 []), D.t (T.v (.bool false))] = [D.own (T.ints (numsW ws)), D.t (T.bool (ws.all numW))] := by
 rw [numsW, h]; rfl
theorem numsW_yes {ws : List Tx} (h : ws.all numW = true) : [D.own (T.ints (ws.map digS)), D.t (T.v (.bool true))] = [D.own (T.ints (numsW ws)), D.t (T.bool (ws.all numW))] := by
 rw [numsW, h]; rfl
theorem E1 (ws : List Tx) (hl : ws.length ≤ 1048577) (hw : ∀ w, w ∈ ws → w.length ≤ 1048576) : Fun Tryz.prog 17 [.t (T.strs ws)] (Aq [.own (T.ints (numsW ws)), .t (.bool (ws.all numW))]) := by
 refine Fun.begin tys Tryz.func17 Z Z (N := 25) [(0, .t (T.strs ws))] Z Z (fun w0 G F0 => ?_);refine sG (eK 2 Z (nA (eZ Z (AI (Le.nilOwn (u := 4) 1 Z) (AI (Le.adoptE (u := 4) 4 Z Z) (nZ Z (nB (sQ (sG (eZ Z (evE ?_)))))))))));refine eZ Z (nB (AD ?_));refine lK (α := Int × Nat × List T) [8, 9] [] (fun x => [(10, .t (.int (x.1))), (4, .sl 4 0 (x.2.1))]) (fun x => [(4, .L 1 (x.2.2))]) (fun x => 0 ≤ (x.1) ∧ (x.1) ≤ ws.length ∧ (x.2.1) = (x.2.2).length ∧ ((x.2.2).length : Int) ≤ (x.1) ∧ (x.2.2) = ((ws.take (x.1).toNat).map digS).map T.int ∧ (ws.take (x.1).toNat).all numW = true) (fun x => Int.toNat (ws.length - (x.1))) (0, 0, []) ?_ (fun x hx => ?_)
 ·exact ⟨OC 0, by simp only; omega, rfl, OC 0, rfl, rfl⟩
 obtain ⟨k, m, xs⟩ := x
 obtain ⟨hk0, hk1, hm, hxl, hx, ha⟩ := hx
 dsimp only at hk0 hk1 hm hxl hx ha ⊢;refine nY Z (sG (eZ Z (nB (sQ ?_))));refine AC Z (fun h1 => ?_) (fun h1 => ?_)
 ·
  simp only [HS] at h1;refine AB (tN (sQ (AD (sG ?_))));refine iY (k := ?_);refine eK 2 Z (nA (eZ Z (AJ ?_)));refine ⟨_, Bc _ (hw _ (N9 _)), rfl, ?_⟩;refine eZ Z (nB (sQ (sQ (kY [4,6,7,8,9,10,11,12,13,14,15] Z (rG (eZ Z (AJ ?_)))))));refine ⟨_, Ar _ _ _, rfl, ?_⟩;refine eZ Z (nB ?_);refine AC Z (fun h2 => ?_) (fun h2 => ?_)
  ·
   simp only [HS] at h2;refine sG (eK 2 Z (nB (Ay (Le.nilOwn (u := 2) 1 Z) (nY Z (rT (tR (bR (tR (AO (bR (tR (eR ?_))))))))))))
   ·(exact L0 (Gl hk0 h1 (by simp_all [numW])))
  simp only [HS] at h2;refine AB (tN (rG (eK 2 Z (bZ [T.int (digS (ws[k.toNat]'(by omega)))] ?_))));refine nZ Z (Ac tys Z Z (AA Z) Z Z Z Z Z (.own Z (by first | omega | (simp only [Nu]; omega))) Z (.own Z (by first | decide | omega)) (by decide) (by simp; omega) (by decide) Z ?_);refine nZ Z (eZ Z (oN (bN (tN (kY [4,6,7,8,9,10,11,12,13,14,15,16,17,18,19,20,21,22] Z (rG (evI ?_)))))));refine eZ Z (oN ?_);refine lQ (_, _, _) ?_ ?_
  ·dsimp only
   refine ⟨by omega, by omega, by simp [hm], by simp [hm]; omega, ?_, LK hk0 h1 (by assumption) (by simp_all [numW])⟩; rw [Eh hk0 h1, hm, OH, hx, List.map_append, List.map_append]; rfl
  ·(show Int.toNat _ < Int.toNat _); omega
 simp only [HS] at h1;refine AU (tE (AP (AK (tN (sG (eK 3 Z (nB ?_)))))))
 (refine Ay (Le.gather (u := 2) (id := 4) rfl rfl (by first | (simp; done) | (simp; omega) | omega)) ?_; refine FP rfl ?_)
 refine rT (eR ?_)
 ·(rw [hm, OH, hx, Nw (by omega)]; rw [Nw (by omega)] at ha; exact numsW_yes ha)
theorem KV {c : Code} {l : Tx} {x0 x1 x2 : Tx} (h : EZ l = DM) (hr : B5 l = [x0, x1, x2]) (ha : (B5 l).all numW = true) : stepL c l = ({ c with rows := c.rows ++ [⟨digS x0, digS x1, digS x2⟩] }, true) := by
 rw [stepL, if_pos h, if_pos (by rw [rowOk, ha, hr]; rfl), rowW, hr]; rfl
theorem Cc {c : Code} {l : Tx} (h : EZ l = DM) (hr : ¬ ((B5 l).all numW = true ∧ (B5 l).length = 3)) : stepL c l = (c, false) := by
 rw [stepL, if_pos h, if_neg (by rw [rowOk, Nv, decide_eq_true_eq]; exact hr)]
theorem Ej {c : Code} {l : Tx} (h : ¬ EZ l = DM) (h1 : (insRd l).2 = true) (h2 : c.rows.length = 0) : stepL c l = ({ c with ins := c.ins ++ [(insRd l).1] }, true) := by
 rw [stepL, if_neg h, if_pos (by rw [insOk, h1, h2]; rfl)]
theorem DP {c : Code} {l : Tx} (h : ¬ EZ l = DM) (h1 : ¬ ((insRd l).2 = true ∧ c.rows.length = 0)) : stepL c l = (c, false) := by
 rw [stepL, if_neg h, if_neg (by rw [insOk, Nv, decide_eq_true_eq]; exact h1)]
theorem len3 {ws : List Tx} (h : ws.length = 3) : ∃ x0 x1 x2, ws = [x0, x1, x2] := by
 match ws, h with
 | [a, b, c], _ => exact ⟨a, b, c, rfl⟩
theorem Dr {c : Code} {l : Tx} {ws : List Tx} (h : EZ l = DM) (hr : B5 l = ws) (ha : ws.all numW = true) (h3 : (ws.length : Int) = 3) (hn : (numsW ws).length = ws.length) :
  stepL c l = ({ c with rows := c.rows ++ [⟨(numsW ws)[(0 : Int).toNat]'(by show 0 < _; omega), (numsW ws)[(1 : Int).toNat]'(by show 1 < _; omega), (numsW ws)[(2 : Int).toNat]'(by show 2 < _; omega)⟩] }, true) := by
 obtain ⟨x0, x1, x2, hw⟩ := len3 (ws := ws) (by omega)
 subst hw
 have e : numsW [x0, x1, x2] = [digS x0, digS x1, digS x2] := by rw [numsW, if_pos ha]; rfl
 rw [KV h hr (by rw [hr]; exact ha)];simp only [e];rfl
theorem noB1 {l : Tx} {ws : List Tx} (hr : B5 l = ws) (h : ws.all numW = false) : ¬ ((B5 l).all numW = true ∧ (B5 l).length = 3) := by rw [hr, h]; exact fun e => Bool.noConfusion e.1
theorem noB {b : Bool} {p : Prop} (h : b = false) : ¬ (b = true ∧ p) := by rw [h]; exact fun e => Bool.noConfusion e.1
theorem noB3 {l : Tx} {ws : List Tx} (hr : B5 l = ws) (h : ws.all numW = true) (h3 : ¬ ((numsW ws).length : Int) = 3) : ¬ ((B5 l).all numW = true ∧ (B5 l).length = 3) := by
 rw [hr]; exact fun e => h3 (by rw [numsW, if_pos h, N0]; omega)
theorem noR {b : Bool} {c : Code} (h : (0 : Int) < c.rows.length) : ¬ (b = true ∧ c.rows.length = 0) := fun e => by omega
theorem noR' {c : Code} (h : (c.rows.length : Int) ≤ 0) : c.rows.length = 0 := by omega
theorem IE (bw : Nat) (S : T) (c : Code) (l : Tx) (hl : l.length ≤ 1048576) (hc1 : c.ins.length ≤ 1000000) (hc2 : c.rows.length ≤ 1000000) : Proc Tryz.prog 16 [.t (.v (.pointer (some ⟨bw, 0, none⟩))), .t (T.str l)] ([]) ([]) [.obox (.pointer (some ⟨bw, 0, none⟩)) (cC S c)] (.t (.bool (stepL c l).2)) [.obox (.pointer (some ⟨bw, 0, none⟩)) (cC S (stepL c l).1)] := by
 obtain ⟨u0, ws, hW⟩ : ∃ u0 ws, AH 32 [] l = u0 :: ws := A8
 have hsp := CV l 32 hl
 rw [hW] at hsp
 have hln := Av (c := 32) (l := l) (pre := [])
 rw [hW] at hln
 have hl2 : ((u0 :: ws).length : Int) = (ws.length : Int) + 1 := by simp
 have hf : EZ l = u0 := by unfold EZ; rw [hW]; rfl
 have hr : B5 l = ws := by unfold B5; rw [hW]; rfl
 have heach : ∀ w, w ∈ u0 :: ws → w.length ≤ 1048576 := fun w h => by have := A1 (hW ▸ h); simp at this; omega
 refine Proc.intro tys Tryz.func16 Z Z (N := 73) [100] 99 ([(0, .t (.v (.pointer (some ⟨bw, 0, none⟩)))), (1, .t (T.str l))]) ([(100, .obox (.pointer (some ⟨bw, 0, none⟩)) (cC S c)), (99, .ro [] [])]) Z Z Z Z (by decide) (by decide) Z (fun w0 G F0 => ?_);refine nY Z (Ay (Le.openNew (u := 100) 1100 Z Z Z Z Z) (nY Z (Ay (Le.named (t := 0) (u := 100) 1100 Z Z) (nY Z (LO (sG (eZ Z (nA (eZ Z (AJ ?_))))))))));refine ⟨_, hsp, rfl, ?_⟩;refine AI (Le.freeze (u := 11) Z) (nZ Z (eZ Z (nB (sQ (sG (eZ Z ?_))))));refine iY (k := ?_);refine eZ Z (AG Z Z (AA Z) Z Z Z Dh Z (nB ?_));refine AC Z (fun h1 => ?_) (fun h1 => ?_)
 ·
  simp only [HS] at h1;refine sQ (kY [0,1,4,5] Z (rG (eZ Z (Cm tys Z Z (AA Z) Z Z Z Z Z Z Z Z (by first | omega | (simp only [N0]; omega)) (by first | omega | (simp only [N0]; omega)) (by first | omega | (simp only [N0]; omega)) ?_))));rw [M2 u0 ws];refine AJ ?_;refine ⟨_, E1 ws (by omega) (fun w h => heach w (by simp [h])), rfl, ?_⟩;refine Al Z Z (AA Z) (.inr Z) Z Z (nZ Z (Ao Z Z (AA Z) Z Z Z Z (AI (Le.freeze (u := 20) Z) (nZ Z (WO_evF tys Z Z (AA Z) (d := .t _) Z (nZ Z (eK 2 Z (nB (sQ (sQ (kY [0,1,4,6,7] Z (rG (eK 3 Z ?_)))))))))))));refine gB (fun h2 => ?_) (fun h2 => ?_)
  ·
   simp only [HS] at h2;refine xK 3 Z (nB (AW Z (sG (eZ Z (nB (rT (tR (tR ?_))))))))
   skip
   refine AL (Le.close (u := 100) 1100 Z Z Z) (AM Z (Af ?_));refine eP [_] ?_ ?_
   ·first
    | (rw [Cc (c := c) (l := l) (hf.trans h1) (noB1 hr h2)]; first | done | rfl | (simp [Nw]; done) | (simp [Nw]; rfl))
   ·first
    | (rw [Cc (c := c) (l := l) (hf.trans h1) (noB1 hr h2)]; first | done | rfl | (simp [Nw]; done) | (simp [Nw]; rfl))
  simp only [HS] at h2;refine eZ Z (gY Z (evE ?_));refine xK 2 Z (nB ?_);refine AC Z (fun h3 => ?_) (fun h3 => ?_)
  ·
   simp only [HS] at h3;refine sQ (kY [0,1,4,6] Z (rG (eZ Z (nB (rT (tR (tR ?_)))))))
   skip
   refine AL (Le.close (u := 100) 1100 Z Z Z) (AM Z (Af ?_));refine eP [_] ?_ ?_
   ·first
    | (rw [Cc (c := c) (l := l) (hf.trans h1) (noB3 hr h2 h3)]; first | done | rfl | (simp [Nw]; done) | (simp [Nw]; rfl))
   ·first
    | (rw [Cc (c := c) (l := l) (hf.trans h1) (noB3 hr h2 h3)]; first | done | rfl | (simp [Nw]; done) | (simp [Nw]; rfl))
  simp only [HS] at h3;refine AB (tN (sQ ?_));refine BB (u := 100) (idp := 400) (j := 4) Z Z Z (fun v9 => ?_);refine nY Z ?_
  have hall : ws.all numW = true := by simp_all
  have hnl : (numsW ws).length = ws.length := by rw [numsW, if_pos hall, N0]
  have hw3 : (ws.length : Int) = 3 := by simp_all
  refine kY [0,1,4,6] Z (Bu 17 [[400], [], [], [], [], [400], [400], [400], [400], [400], [400], [400], [400], [400], [400], [400], []] mixed Z (by kernel_rfl) (by kernel_rfl) (CL (Ad tys Z Z (AA Z) Z (AE (Ab (Ad tys Z Z (AA Z) Z (AE (Ab (DK rfl Z (AA Z) Z Z Z (AE (Ab (Ad tys Z Z (AA Z) Z (AE (Aj Z (Cp tys 400 Z Z (AA Z) Z Z ?_)))))))))))))));refine CL (Ad tys Z Z (AA Z) Z (AE (CL (D9 tys Z Z (AA Z) Z Z Z Z Z Z Z (by omega) _ (FW _ _ (by omega) (by omega)) (AE (CL (Ad tys Z Z (AA Z) Z (AE (Aj Z (CL (Ad tys Z Z (AA Z) Z (AE (CL (D9 tys Z Z (AA Z) Z Z Z Z Z Z Z (by omega) _ (FW _ _ (by omega) (by omega)) (AE ?_)))))))))))))));refine CL (Ad tys Z Z (AA Z) Z (AE (CL (Ad tys Z Z (AA Z) Z (AE (Aj Z (CL (D9 tys Z Z (AA Z) Z Z Z Z Z Z Z (by omega) _ (FW _ _ (by omega) (by omega)) (AE (CL (Ad tys Z Z (AA Z) Z (AE (CL (Hp tys Z Z (AA Z) Z Z Z (by kernel_rfl) Z Z Z Z Z Z (AE ?_)))))))))))))));refine CL ?_;refine CM tys [.agg [T.int ((numsW ws)[(0 : Int).toNat]'(by show 0 < _; omega)), T.int ((numsW ws)[(1 : Int).toNat]'(by show 1 < _; omega)), T.int ((numsW ws)[(2 : Int).toNat]'(by show 2 < _; omega))]] Z Z (AA Z) Z Z Z Z Z (AA Z) (by repeat (first | exact PartsOk.nil' | refine PartsOk.cons' rfl (by repeat (first | exact AbsL.nil' | refine AbsL.v' ?_ | refine AbsL.own' ?_ | refine AbsL.none' ?_)) Z ?_)) Z Z Z (by decide) ?_;refine AE (Aj rfl (Ab (CN tys rfl rfl (AA rfl) rfl rfl rfl rfl rfl rfl rfl rfl rfl ((fun x hx => by rw [Oe] at hx; subst hx; exact ⟨rfl, fun z hz => by simp only [T.cells, N6, List.not_mem_nil, or_false] at hz; rcases hz with rfl | rfl | rfl <;> exact ⟨_, rfl⟩⟩)) (by simp; omega) (by decide) rfl ?_)));refine AE (C7 ?_);refine ⟨by kernel_rfl, ?_⟩;refine nZ Z (CA rfl Z (AA Z) Z Z Z (eZ Z (sT Z (nZ Z (nA (eZ Z (nB (rT (tR ?_)))))))))
  skip
  refine AL (Le.close (u := 100) 1100 Z Z Z) (AM Z (Af ?_));refine eP [_] ?_ ?_
  ·first
   | (rw [Dr (c := c) (l := l) (hf.trans h1) hr hall hw3 hnl]; first | done | rfl | (simp [Nw]; done) | (simp [Nw]; rfl))
  ·first
   | (rw [Dr (c := c) (l := l) (hf.trans h1) hr hall hw3 hnl]; first | done | rfl | (simp [Nw]; done) | (simp [Nw]; rfl))
 simp only [HS] at h1;refine AB (tN (sQ (kY [0,1,4] Z (rG (eZ Z (AJ ?_))))));refine ⟨_, El l hl, rfl, ?_⟩;refine Al Z Z (AA Z) (.inr Z) Z Z (Ao Z Z (AA Z) Z Z Z Z ?_)
 first | refine AI (Le.adoptE (u := 51) 51 rfl (by first | exact NL | exact rfl)) ?_ | skip
 refine nZ Z (WO_evF tys Z Z (AA Z) (d := .t _) Z (nZ Z (AR tys Z Z (AA Z) Z Z Z (nZ Z (sT Z (nZ Z (eZ Z (nB (sQ (sQ (Ay (Le.adoptBox (u := 100) (j := 4) (id := 300) Z Z Z) (nY Z (kY [0,4,8,9] Z (rG (eK 3 Z ?_)))))))))))))));refine gB (fun h2 => ?_) (fun h2 => ?_)
 ·
  simp only [HS] at h2;refine xK 6 Z (kZ [0,4,8,62] Z (nB (AW Z (sG (eZ Z (nB (rT (tR ?_))))))))
  (refine AL (Le.gatherBox (u := 100) (j := 4) (id := 300) rfl rfl rfl (by simp) rfl) ?_; refine AM rfl ?_)
  refine AL (Le.close (u := 100) 1100 Z Z Z) (AM Z (Af ?_));refine eP [_] ?_ ?_
  ·first
   | (rw [DP (c := c) (l := l) (fun e => h1 (hf.symm.trans e)) (noB h2)]; first | done | rfl | (simp [Nw]; done) | (simp [Nw]; rfl))
  ·first
   | (rw [DP (c := c) (l := l) (fun e => h1 (hf.symm.trans e)) (noB h2)]; first | done | rfl | (simp [Nw]; done) | (simp [Nw]; rfl))
 simp only [HS] at h2;refine eZ Z (gY Z (CA rfl Z (AA Z) Z Z Z (xK 2 Z (gY Z (evE ?_)))));refine xZ Z (kZ [0,4,8,55,61] Z (eZ Z (nB ?_)));refine AC Z (fun h3 => ?_) (fun h3 => ?_)
 ·
  simp only [HS] at h3;refine sG (eZ Z (nB (rT (tR ?_))))
  (refine AL (Le.gatherBox (u := 100) (j := 4) (id := 300) rfl rfl rfl (by simp) rfl) ?_; refine AM rfl ?_)
  refine AL (Le.close (u := 100) 1100 Z Z Z) (AM Z (Af ?_));refine eP [_] ?_ ?_
  ·first
   | (rw [DP (c := c) (l := l) (fun e => h1 (hf.symm.trans e)) (noR h3)]; first | done | rfl | (simp [Nw]; done) | (simp [Nw]; rfl))
  ·first
   | (rw [DP (c := c) (l := l) (fun e => h1 (hf.symm.trans e)) (noR h3)]; first | done | rfl | (simp [Nw]; done) | (simp [Nw]; rfl))
 simp only [HS] at h3;refine AB (tN (sQ ?_));refine BB (u := 100) (idp := 401) (j := 3) Z Z Z (fun v9 => ?_);refine nY Z (Bu 8 [[401], [], [], [], [], [401], [401], []] mixed Z (by kernel_rfl) (by kernel_rfl) (CL (Ad tys Z Z (AA Z) Z (AE (Ab (Ad tys Z Z (AA Z) Z (AE (Ab (DK rfl Z (AA Z) Z Z Z (AE (Ab (Ad tys Z Z (AA Z) Z (AE (Aj Z (Cp tys 401 Z Z (AA Z) Z Z ?_)))))))))))))));refine CL (Dp tys Z Z (AA Z) Z Z (AE (CL ?_)));refine CM tys [.agg [T.int (insRd l).1.op, T.int (insRd l).1.n]] Z Z (AA Z) Z Z Z Z Z (AA Z) (by repeat (first | exact PartsOk.nil' | refine PartsOk.cons' rfl (by repeat (first | exact AbsL.nil' | refine AbsL.v' ?_ | refine AbsL.own' ?_ | refine AbsL.none' ?_)) Z ?_)) Z Z Z (by decide) ?_;refine AE (Ab (CN tys rfl rfl (AA rfl) rfl rfl rfl rfl rfl rfl rfl rfl rfl ((fun x hx => by rw [Oe] at hx; subst hx; exact ⟨rfl, fun z hz => by simp only [T.cells, N6, List.not_mem_nil, or_false] at hz; rcases hz with rfl | rfl <;> exact ⟨_, rfl⟩⟩)) (by simp; omega) (by decide) rfl ?_));refine AE (Aj Z (C7 ?_));refine ⟨by kernel_rfl, ?_⟩;refine nZ Z (CA rfl Z (AA Z) Z Z Z (eZ Z (sT Z (nZ Z (nA (eZ Z (nB (rT ?_))))))))
 (refine AL (Le.gatherBox (u := 100) (j := 4) (id := 300) rfl rfl rfl (by simp) rfl) ?_; refine AM rfl ?_)
 refine AL (Le.close (u := 100) 1100 Z Z Z) (AM Z (Af ?_));refine eP [_] ?_ ?_
 ·first
  | (rw [Ej (c := c) (l := l) (fun e => h1 (hf.symm.trans e)) h2 (noR' h3)]; first | done | rfl | (simp [Nw]; done) | (simp [Nw]; rfl))
 ·first
  | (rw [Ej (c := c) (l := l) (fun e => h1 (hf.symm.trans e)) h2 (noR' h3)]; first | done | rfl | (simp [Nw]; done) | (simp [Nw]; rfl))
end Go.Proofs.YthinnpkpafmbcaaGreatDoor
