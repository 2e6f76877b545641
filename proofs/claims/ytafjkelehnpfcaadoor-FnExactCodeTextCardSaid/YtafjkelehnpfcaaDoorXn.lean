/- Walks and laws of the claim. -/
import Derived.Test.YtafjkelehnpfcaaDoorXe
import Derived.Test.YtafjkelehnpfcaaDoorXlB
import Derived.Test.YtafjkelehnpfcaaDoorMe
set_option linter.unusedVariables false
set_option linter.unusedSimpArgs false
set_option maxRecDepth 100000
set_option maxHeartbeats 4000000
namespace Go.Proofs.YtafjkelehnpfcaaDoor
open Go.Eng
open Go.RowKit Go.Lib Go.Shelf Go.Eng
theorem isB {b : Nat} {p v : Value} {l : List UInt8} {w : World} (h : Go.Proofs.BldAt 75 5 b p v l w) : Lib.IsBuilder 75 5 0 b (byteCells l) w := by
  obtain ⟨h1, h2, h3, h4⟩ := h
  have e : (byteCells l).length = l.length := by simp [byteCells]
  rcases h2 with rfl | rfl
  · exact .inl ⟨Nat.zero_le _, v, h1, by rw [e]; exact h3, h4⟩
  · exact .inr ⟨Nat.zero_le _, v, h1, by rw [e]; exact h3, h4⟩
theorem len_fun (b : Nat) (l : List UInt8) :
    Go.Eng.Proc Tryd.prog 48 [.t (.v (.pointer (some ⟨b, 0, none⟩)))] [] [] [.bld 75 5 b l] (.t (.int l.length)) [.bld 75 5 b l] := by
  refine ⟨⟨_, Tryd.func48, rfl, rfl⟩, fun w F args bs hF hargs _ hms hnd hbs => ?_⟩
  have he := relD_plain (vs := [.pointer (some ⟨b, 0, none⟩)]) hargs
  have ha : args = #[.pointer (some ⟨b, 0, none⟩)] := by rw [← Array.toArray_toList (xs := args), he]
  subst ha
  have hms' := hms
  obtain ⟨b1, b2, hm, h0, rfl⟩ := hms
  have h0' : b2 = [] := h0
  subst h0'
  rw [List.append_nil] at hnd
  obtain ⟨p, v, hb, rfl⟩ := bld_of hm hnd
  refine (Tryd.Builder_Len 0 b (byteCells l) w (isB hb)).mono ?_
  rintro e w' ⟨rfl, rfl⟩
  have e1 : (byteCells l).length = l.length := by simp [byteCells]
  rw [e1]
  exact ⟨_, [], _, rfl, .t (.v rfl .nil) .done, hms', by simpa using hnd, fun x hx => .inl (by simpa using hx), rfl, rfl, rfl, Nat.le_refl _, fun _ _ _ => rfl⟩
open Go.RowKit Go.Lib Go.Shelf

theorem bldP_WriteByte (b : Nat) (p v : Value) (l : List UInt8) (x : UInt8) (w : World) (h : Go.Proofs.BldAt 75 5 b p v l w) (hlen : l.length + 1 ≤ 140737488355328) :
    Calls Tryd.prog 51 #[.pointer (some ⟨b, 0, none⟩), .int .u8 (x.toNat : Int)] w fun e w' => e = .returned .nilIface ∧ ∃ v', Go.Proofs.BldAt 75 5 b (.pointer (some ⟨b, 0, none⟩)) v' (l ++ [x]) w' ∧ Go.Proofs.BldKept b v v' w w' := by
  obtain ⟨i0, hi, hz0, hz1, hz2⟩ := info_parts (show (Tryd.prog.info? 5).map (fun i => (i.zero, i.size, i.bytes)) = some (some (.int .u8 0), 1, 1) by kernel_rfl)
  go_enter Tryd.func51, Tryd.ntmps51
  go_wp2_with (go_at_call 71; refine (bldP_check b p v l _ h).mono ?_)
  rintro e w1 ⟨rfl, h1, hw1⟩
  obtain ⟨hbk, _, hown, hne⟩ := h1
  have c0 : w1.cell? ⟨b, 0, none⟩ = some (.pointer (some ⟨b, 0, none⟩)) := by rw [Lib.cell_of_heap hbk]; rfl
  have c1 : w1.cell? ⟨b, 1, none⟩ = some v := by rw [Lib.cell_of_heap hbk]; rfl
  have hlt : b < w1.heap.size := by
    rcases Nat.lt_or_ge b w1.heap.size with h' | h'
    · exact h'
    · simp [Array.getElem?_eq_none h'] at hbk
  have hownA : ∀ o, (w1.alloc o).ownsRow 0 5 1 v l.length (byteCells l) := fun o => hown.kept (World.grownBy_alloc w1 o none) (by cases hv : v.ownBlock <;> simp)
  go_wp2_with (at_builtin; refine Go.Eng.wpList_append_exactC rfl _ _ 73 rfl 5 i0 (.int .u8 0) (show Tryd.prog.underlying 73 = some (.slice 5) by kernel_rfl) hi hz0 hz1 hz2 rfl _ _ _ rfl (hownA _) ⟨w1.heap.size, 0, none⟩ 1 1 [.int .u8 (x.toNat : Int)] rfl rfl ?c1 ?c2 ?c3 ?c4 ?_)
  case c1 =>
    intro j u hj
    match j, hj with
    | 0, hj => simp at hj; subst hj; simp [Addr.add]
  case c2 => intro u hu; simp at hu; subst hu; rfl
  case c3 => unfold maxLen; omega
  case c4 => omega
  intro v' w2 hown' hgrow hrow
  have hb2 : w2.heap[b]? = some (.cells #[.pointer (some ⟨b, 0, none⟩), v] 75 (0, 0)) := by
    rw [hgrow.block b (by simp; omega) (fun e => hne e.symm), Lib.alloc_old w1 _ b hlt]
    exact hbk
  have d0 : w2.cell? ⟨b, 0, none⟩ = some (.pointer (some ⟨b, 0, none⟩)) := by rw [Lib.cell_of_heap hb2]; rfl
  have d1 : w2.cell? ⟨b, 1, none⟩ = some v := by rw [Lib.cell_of_heap hb2]; rfl
  have f1 : w2.frozen? ⟨b, 1, none⟩ = false := Lib.frozen_of_heap hb2 1
  obtain ⟨ao, n', cap, rfl⟩ : ∃ ao n' cap, v' = .slice ao n' cap := by
    rcases hown'.2 with ⟨hv, _⟩ | ⟨g, cap, cur, hv, _⟩
    · exact ⟨_, _, _, hv⟩
    · exact ⟨_, _, _, hv⟩
  go_wp2
  go_ret
  have hne' : (Value.slice ao n' cap).ownBlock ≠ some b := Lib.ownBlock_neF (World.ownsRowF_of hown') hb2 (by decide)
  have e1 : byteCells (l ++ [x]) = byteCells l ++ [.int .u8 (x.toNat : Int)] := by simp [byteCells]
  have e2 : (l ++ [x]).length = l.length + 1 := by simp
  refine ⟨rfl, .slice ao n' cap, ⟨?_, .inr rfl, ?_, hne'⟩, ?_⟩
  · simp [World.setCell, Array.getElem?_modify, hb2]
  · rw [e1, e2]
    exact hown'.kept (row := some b) ⟨rfl, rfl, rfl, by simp [World.setCell], fun k _ hk => Below.heap_setCell _ _ _ _ (fun e => hk (by simp [e]))⟩ (Or.inr hne')
  · have hs1 : w1.heap.size = w.heap.size := by rcases hw1 with rfl | rfl <;> simp [World.setCell]
    have hk1 : ∀ k, k ≠ b → w1.heap[k]? = w.heap[k]? := by
      intro k hk
      rcases hw1 with rfl | rfl
      · rfl
      · exact Below.heap_setCell _ _ _ _ hk
    have ho1 : w1.os = w.os ∧ w1.tape = w.tape ∧ w1.output = w.output := by rcases hw1 with rfl | rfl <;> exact ⟨rfl, rfl, rfl⟩
    refine ⟨hgrow.os.trans ho1.1, hgrow.tape.trans ho1.2.1, hgrow.output.trans ho1.2.2, ?_, fun k hk hkb hkv => ?_, fun g hg => ?_⟩
    · have := hgrow.size
      simp [World.setCell] at this ⊢; omega
    · rw [Below.heap_setCell _ _ _ _ hkb, hgrow.block k (by simp; omega) (fun e => hkv e.symm), Lib.alloc_old w1 _ k (by omega), hk1 k hkb]
    · rcases hrow g hg with h5 | h5
      · exact .inl h5
      · refine .inr ⟨by first | omega | (have := World.grownBy_alloc w1 (.cells #[.int .u8 (x.toNat : Int)] 5) none; have h6 := this.size; have h7 : w1.heap.size ≤ g := Nat.le_trans h6 h5; omega), ?_⟩
        rcases hown'.2 with ⟨h6, _⟩ | ⟨g2, c2, cur2, h6, _, h7, _⟩
        · rw [h6] at hg; cases hg
        · rw [h6] at hg
          have hg2 : g2 = g := Option.some.inj hg
          subst hg2
          have := (Array.getElem?_eq_some_iff.1 h7).1
          simpa [World.setCell] using this

section
open Go.Eng
theorem writeByte_fun (b : Nat) (l : List UInt8) (x : UInt8) (hlen : l.length + 1 ≤ 140737488355328) :
    Go.Eng.Proc Tryd.prog 51 [.t (.v (.pointer (some ⟨b, 0, none⟩))), .t (T.byte x)] [] [] [.bld 75 5 b l] (.t (.v .nilIface)) [.bld 75 5 b (l ++ [x])] := by
  refine ⟨⟨_, Tryd.func51, rfl, rfl⟩, fun w F args bs hF hargs _ hms hnd hbs => ?_⟩
  have he := relD_plain (vs := [.pointer (some ⟨b, 0, none⟩), .int .u8 (x.toNat : Int)]) hargs
  have ha : args = #[.pointer (some ⟨b, 0, none⟩), .int .u8 (x.toNat : Int)] := by rw [← Array.toArray_toList (xs := args), he]
  subst ha
  obtain ⟨b1, b2, hm, h0, rfl⟩ := hms
  have h0' : b2 = [] := h0
  subst h0'
  rw [List.append_nil] at hnd hbs ⊢
  obtain ⟨p, v, hb, rfl⟩ := bld_of hm hnd
  refine (bldP_WriteByte b p v l x w hb hlen).mono ?_
  rintro e w' ⟨rfl, v', hb', k⟩
  have hbw := (hbs b (by simp)).1
  refine ⟨_, [], b :: v'.ownBlock.toList, rfl, .t (.v rfl .nil) .done, ⟨_, [], bld_to hb', rfl, by simp⟩, ?_, fun x hx => ?_, k.os, k.tape, k.output, k.size, fun x hx hn => k.block x hx (fun e => hn (by simp [e])) (fun e => hn (by simp [e]))⟩
  · rw [List.nil_append, List.nodup_cons]
    refine ⟨fun h => hb'.2.2.2 (by simpa using h), by cases v'.ownBlock <;> simp⟩
  · rw [List.nil_append] at hx
    rcases List.mem_cons.1 hx with rfl | hx
    · exact .inl (by simp)
    · rcases k.row x (by simpa using hx) with h5 | h5
      · exact .inl (by simp [h5])
      · exact .inr h5
end

theorem str_core (b : Nat) (p v : Value) (ao : Option Addr) (n cap : Nat) (q : Option Addr) (u : ByteArray) (w w1 w2 : World) (hv : v = .slice ao n cap)
    (c1 : w.drew.cell? ⟨b, 1, none⟩ = some (.slice ao n cap)) (c2 : w1.cell? ⟨b, 1, none⟩ = some (.slice ao n cap))
    (hSD : (Builtin.unsafeSliceData_ #[73] 103 #[.slice ao n cap]).run Tryd.prog w.drew = .ok (.pointer q) w1)
    (hUS : (Builtin.unsafeString_ #[103, 3] 9 #[.pointer q, .int .i64 n]).run Tryd.prog w1 = .ok (.string u) w2) :
    Calls Tryd.prog 49 #[.pointer (some ⟨b, 0, none⟩)] w fun e w' => e = .returned (.string u) ∧ w' = w2 := by
  have mx : Tryd.prog.follows Departure.mixedOrders = true := mixed
  go_enter Tryd.func49, Tryd.ntmps49
  go_wp2
  go_region_o
  all_goals (go_wp2; go_ret; exact ⟨rfl, rfl⟩)

theorem bldP_String (b : Nat) (p v : Value) (l : List UInt8) (w : World) (h : Go.Proofs.BldAt 75 5 b p v l w) :
    Calls Tryd.prog 49 #[.pointer (some ⟨b, 0, none⟩)] w fun e w' => e = .returned (.string ⟨l.toArray⟩) ∧ w'.os = w.os ∧ w'.tape = w.tape ∧ w'.output = w.output ∧ w.heap.size ≤ w'.heap.size ∧
      ∀ k, k < w.heap.size → k ≠ b → v.ownBlock ≠ some k → w'.heap[k]? = w.heap[k]? := by
  obtain ⟨hbk, _, hown, hne⟩ := h
  have hlt : b < w.heap.size := by
    rcases Nat.lt_or_ge b w.heap.size with h' | h'
    · exact h'
    · simp [Array.getElem?_eq_none h'] at hbk
  have tU8 : Tryd.prog.underlying 103 = some (.pointer 5) := by kernel_rfl
  have cU8 : Tryd.prog.cellsOf 5 = 1 := by kernel_rfl
  have c1 : w.drew.cell? ⟨b, 1, none⟩ = some v := by
    have h9 : w.drew.heap[b]? = some (.cells #[p, v] 75 (0, 0)) := hbk
    rw [Lib.cell_of_heap h9]; rfl
  rcases hown.2 with ⟨rfl, hl0⟩ | ⟨g, cap, cur, rfl, hbg, hg, hnc, hcm, hcs, htake⟩
  · have hl : l = [] := List.length_eq_zero_iff.1 hl0
    subst hl
    refine (str_core b p _ none 0 0 none .empty w w.drew w.drew rfl c1 c1 rfl (Lib.run_unsafeString_none _ _ _ _ _)).mono ?_
    rintro e w' ⟨rfl, rfl⟩
    exact ⟨rfl, rfl, rfl, rfl, Nat.le_refl _, fun k _ _ _ => rfl⟩
  · have hg' : w.drew.heap[g]? = some (.cells cur 5 (0, 0)) := hg
    by_cases hl : l = []
    · subst hl
      by_cases hc0 : cap = 0
      · subst hc0
        have hSD : (Builtin.unsafeSliceData_ #[73] 103 #[.slice (some ⟨g, 0, none⟩) 0 0]).run Tryd.prog w.drew = .ok (.pointer (some ⟨w.drew.heap.size, 0, none⟩)) (w.drew.alloc (.view ⟨g, 0, none⟩ 5)) :=
          Lib.run_unsafeSliceData_zero w.drew _ _ 5 tU8 ⟨g, 0, none⟩ 0 (5, cur.size) (by simp [World.shape?, hg'])
        refine (str_core b p _ (some ⟨g, 0, none⟩) 0 0 _ .empty w _ _ rfl c1 ?_ hSD (Lib.run_unsafeString_none _ _ _ _ _)).mono ?_
        · have h9 : (w.drew.alloc (.view ⟨g, 0, none⟩ 5)).heap[b]? = _ := (Lib.alloc_old w.drew _ b hlt).trans hbk
          rw [Lib.cell_of_heap h9]; rfl
        · rintro e w' ⟨rfl, rfl⟩
          exact ⟨rfl, rfl, rfl, rfl, (World.grownBy_alloc w.drew (.view ⟨g, 0, none⟩ 5) none).size, fun k hk _ _ => Lib.alloc_old w.drew _ k hk⟩
      · refine (str_core b p _ (some ⟨g, 0, none⟩) 0 cap _ .empty w w.drew w.drew rfl c1 c1 (Lib.run_unsafeSliceData_row _ _ _ _ _ _ hc0) (Lib.run_unsafeString_none _ _ _ _ _)).mono ?_
        rintro e w' ⟨rfl, rfl⟩
        exact ⟨rfl, rfl, rfl, rfl, Nat.le_refl _, fun k _ _ _ => rfl⟩
    · have hl0 : l.length ≠ 0 := by simpa using hl
      have hUS : (Builtin.unsafeString_ #[103, 3] 9 #[.pointer (some ⟨g, 0, none⟩), .int .i64 l.length]).run Tryd.prog w.drew = .ok (.string ⟨l.toArray⟩) (w.drew.freeze ⟨g, 0, none⟩ l.length) := by
        refine Lib.run_unsafeString_row w.drew _ _ _ 5 tU8 cU8 g cur.size (by simp [World.shape?, hg']) l hl (by omega) (by unfold maxLen at hcm; omega) ?_
        intro j x hx
        exact (World.ownsRowF_of hown).cells (g := g) rfl j (.int .u8 x.toNat) (by simp [Lib.byteCells, hx])
      refine (str_core b p _ (some ⟨g, 0, none⟩) l.length cap _ _ w w.drew _ rfl c1 c1 (Lib.run_unsafeSliceData_row _ _ _ _ _ _ (by omega)) hUS).mono ?_
      rintro e w' ⟨rfl, rfl⟩
      have hf := Lib.below_freeze (Below.refl g w.drew) (p := ⟨g, 0, none⟩) (Nat.le_refl _) l.length
      refine ⟨rfl, hf.os, hf.tape, hf.output, hf.size, fun k _ _ hk => ?_⟩
      have hkg : g ≠ k := fun e => hk (by simp [Value.ownBlock, e])
      unfold World.freeze
      split
      · rfl
      · show (w.drew.heap.modify g _)[k]? = w.heap[k]?
        rw [Array.getElem?_modify, if_neg hkg]
        rfl

section
open Go.Eng
theorem bldString_fun (b : Nat) (l : List UInt8) :
    Go.Eng.Proc Tryd.prog 49 [.t (.v (.pointer (some ⟨b, 0, none⟩)))] [] [] [.bld 75 5 b l] (.t (T.str l)) [.rawV [] []] := by
  refine ⟨⟨_, Tryd.func49, rfl, rfl⟩, fun w F args bs hF hargs _ hms hnd hbs => ?_⟩
  have he := relD_plain (vs := [.pointer (some ⟨b, 0, none⟩)]) hargs
  have ha : args = #[.pointer (some ⟨b, 0, none⟩)] := by rw [← Array.toArray_toList (xs := args), he]
  subst ha
  obtain ⟨b1, b2, hm, h0, rfl⟩ := hms
  have h0' : b2 = [] := h0
  subst h0'
  rw [List.append_nil] at hnd hbs ⊢
  obtain ⟨p, v, hb, rfl⟩ := bld_of hm hnd
  refine (bldP_String b p v l w hb).mono ?_
  rintro e w' ⟨rfl, k1, k2, k3, k4, k5⟩
  exact ⟨_, [], [], rfl, .t (.v rfl .nil) .done, ⟨[], [], .nil, rfl, rfl⟩, by simp, fun x hx => absurd hx (by simp), k1, k2, k3, k4, fun x hx hn => k5 x hx (fun e => hn (by simp [e])) (fun e => hn (by simp [e]))⟩
end
open Go.Eng

def insBy (i : Ins) : Tx := lebU i.op ++ (if hasNB i.op then lebS i.n else [])
def rowBy (e : Int) (r : Row) : Tx := lebU (r.lo - e) ++ lebU (r.hi - r.lo) ++ lebS (r.pad - r.hi)
def rowsBy : Int → List Row → Tx
  | _, [] => []
  | e, r :: l => rowBy e r ++ rowsBy r.hi l
def rowsTx (rows : List Row) : Tx := lebU rows.length ++ rowsBy 0 rows
def headBy (c : Code) : Tx := lebU c.params ++ lebU c.vars ++ lebU c.sites.length
def codeBy (c : Code) : Tx := headBy c ++ (c.sites.flatMap lebU ++ (lebU c.ins.length ++ (c.ins.flatMap insBy ++ rowsTx c.rows)))
/-- A code that is put. -/
def putB (c : Code) : Bool := sizedC c && (allIn c.sites 0 1000000 && rowsB c.rows c.ins.length)
theorem flat_len {α : Type} {f : α → Tx} {k : Nat} : ∀ {l : List α}, (∀ x, x ∈ l → (f x).length ≤ k) → (l.flatMap f).length ≤ k * l.length
  | [], _ => by simp
  | x :: l, h => by
    rw [List.flatMap_cons, List.length_append, List.length_cons, Nat.mul_add, Nat.mul_one]
    have h1 := h x (by simp)
    have h2 := flat_len (l := l) (fun y hy => h y (by simp [hy]))
    omega
theorem flatT_at {α : Type} {f : α → Tx} {l : List α} {k : Int} (h0 : 0 ≤ k) (h1 : k < l.length) : (l.drop k.toNat).flatMap f = f (l[k.toNat]'(by omega)) ++ (l.drop (k + 1).toNat).flatMap f := by
  rw [drop_at h0 h1, List.flatMap_cons]
theorem flatT_end {α : Type} {f : α → Tx} {l : List α} {k : Int} (h1 : (l.length : Int) ≤ k) : (l.drop k.toNat).flatMap f = [] := by
  rw [List.drop_of_length_le (by omega)]; rfl
theorem rowsBy_len : ∀ {rows : List Row} {e many : Int}, rowsGo many rows e = true → 0 ≤ e → many ≤ 300 → (rowsBy e rows).length ≤ 33 * rows.length
  | [], _, _, _, _, _ => by simp [rowsBy]
  | r :: l, e, many, h, he, hm => by
    rw [rowsGo] at h
    simp only [Bool.and_eq_true, decide_eq_true_eq] at h
    have h1 := lebU_len (n := r.lo - e) (by omega)
    have h2 := lebU_len (n := r.hi - r.lo) (by omega)
    have h3 := lebS_len (n := r.pad - r.hi) (by omega) (by omega)
    have h4 := rowsBy_len h.2.2.2.2 (by omega) hm
    rw [rowsBy, rowBy, List.length_append, List.length_append, List.length_append, List.length_cons]
    omega
theorem rowsTx_len {rows : List Row} {many : Int} (h : rowsB rows many = true) (hm : many ≤ 300) (hl : rows.length ≤ 300) : (rowsTx rows).length ≤ 10000 := by
  have h1 := rowsBy_len h (Int.le_refl 0) hm
  have h2 := lebU_len (n := (rows.length : Int)) (by omega)
  rw [rowsTx, List.length_append]
  omega
theorem insB_w {i : Ins} (h : insB i = true) : 1 ≤ i.op ∧ i.op ≤ 18 ∧ -2147483648 ≤ i.n ∧ i.n ≤ 2147483647 := ⟨(insB_more h).1, (insB_more h).2.1, (insB_more h).2.2.1, (insB_more h).2.2.2.1⟩
theorem insBy_len {i : Ins} (h : insB i = true) : (insBy i).length ≤ 22 := by
  have hw := insB_w h
  have h1 := lebU_len (n := i.op) (by omega)
  have h2 := lebS_len (n := i.n) (by omega) (by omega)
  rw [insBy, List.length_append]
  split
  · omega
  · simp; omega
theorem allIn_get {l : List Int} {lo hi : Int} (h : allIn l lo hi = true) {n : Int} (hn : n ∈ l) : lo ≤ n ∧ n ≤ hi := by
  unfold allIn at h
  have := List.all_eq_true.1 h n hn
  simpa using this
theorem putB_of {c : Code} (h : putB c = true) : sizedC c = true ∧ allIn c.sites 0 1000000 = true ∧ rowsB c.rows c.ins.length = true := by
  unfold putB at h
  simpa only [Bool.and_eq_true] using h
theorem codeBy_len {c : Code} (h : putB c = true) : (codeBy c).length ≤ 20000 := by
  obtain ⟨h1, h2, h3⟩ := putB_of h
  obtain ⟨b1, b2, b3, b4, b5, b6⟩ := sizedC_of h1
  have e1 := lebU_len (n := c.params) (by omega)
  have e2 := lebU_len (n := c.vars) (by omega)
  have e3 := lebU_len (n := (c.sites.length : Int)) (by omega)
  have e4 := lebU_len (n := (c.ins.length : Int)) (by omega)
  have e5 := flat_len (f := lebU) (k := 11) (l := c.sites) (fun n hn => lebU_len (by have := allIn_get h2 hn; omega))
  have e6 := flat_len (f := insBy) (k := 22) (l := c.ins) (fun n hn => insBy_len (b6 n hn))
  have e7 := rowsTx_len h3 (by omega) b5
  rw [codeBy, headBy]
  simp only [List.length_append]
  omega
theorem rowsGo_at {rows : List Row} {many e k : Int} (h0 : 0 ≤ k) (h1 : k < rows.length) (h : rowsGo many (rows.drop k.toNat) e = true) :
    e ≤ (rows[k.toNat]'(by omega)).lo ∧ (rows[k.toNat]'(by omega)).lo < (rows[k.toNat]'(by omega)).hi ∧ (rows[k.toNat]'(by omega)).hi ≤ many ∧ 0 ≤ (rows[k.toNat]'(by omega)).pad ∧ (rows[k.toNat]'(by omega)).pad < many ∧
      rowsGo many (rows.drop (k + 1).toNat) (rows[k.toNat]'(by omega)).hi = true := by
  rw [drop_at h0 h1, rowsGo] at h
  simp only [Bool.and_eq_true, decide_eq_true_eq] at h
  exact ⟨h.1, h.2.1, h.2.2.1, h.2.2.2.1.1, h.2.2.2.1.2, h.2.2.2.2⟩

theorem l7Bytes_fun (rows : List Row) (many : Int) (hr : rowsB rows many = true) (hm : many ≤ 300) (hl : rows.length ≤ 300) : Fun Tryd.prog 66 [.t (T.Rows rows)] (tupD [.t (T.str (rowsTx rows))]) := by
  have hlen := rowsTx_len hr hm hl
  refine Fun.begin tys Tryd.func66 rfl rfl (N := 44) [(0, .t (T.Rows rows))] rfl rfl (fun w0 G F0 => ?_)
  refine W_seq ?_
  refine W_region ?_
  refine ev ?_
  refine WO_nil ?_
  refine thenQ_n ?_
  refine W_seq ?_
  refine W_region ?_
  refine ev ?_
  refine evE ?_
  refine WO_convId (td := .int .i64) (k := .u64) rfl rfl (lt_of rfl) rfl (by kernel_rfl) (by kernel_rfl) rfl (wrapU64 (by omega) (by omega)) ?_
  refine callB ?_
  refine ⟨_, PutU_fun _ (by omega) (by omega), rfl, ?_⟩
  refine ev ?_
  refine WO_nil ?_
  refine thenQ_n ?_
  refine W_seq ?_
  refine W_region ?_
  refine ev ?_
  refine WO_nil ?_
  refine thenQ_n ?_
  iterate 2 (refine W_seq ?_)
  refine W_keep [0, 2, 3, 4] rfl ?_
  refine W_region ?_
  refine ev ?_
  refine evE ?_
  refine ev ?_
  refine WO_nil ?_
  refine thenQ_n ?_
  refine W_block ?_
  refine W_loopK (α := Int × Int × Tx) [0, 11, 12] [] (fun (x : Int × Int × Tx) => [(13, .t (.int (x.1))), (4, .t (.int (x.2.1))), (3, .t (T.str (x.2.2)))]) (fun (x : Int × Int × Tx) => []) (fun (x : Int × Int × Tx) => 0 ≤ (x.1) ∧ (x.1) ≤ rows.length ∧ 0 ≤ (x.2.1) ∧ (x.2.1) ≤ 300 ∧ rowsGo many (rows.drop (x.1).toNat) (x.2.1) = true ∧ rowsTx rows = (x.2.2) ++ rowsBy (x.2.1) (rows.drop (x.1).toNat)) (fun (x : Int × Int × Tx) => Int.toNat (rows.length - (x.1))) (0, 0, lebU rows.length) ?_ ?_ ?_ (fun x hx => ?_)
  · repeat (first | exact Sub.nil' | refine Sub.cons' rfl ?_ )
  · repeat (first | exact SubM.nil' | refine SubM.cons' rfl ?_ )
  · exact ⟨by simp, by simp, by simp, by simp, hr, rfl⟩
  obtain ⟨k, e, s⟩ := x
  obtain ⟨hk0, hk1, he0, he1, hg, he⟩ := hx
  try dsimp only at hk0 hk1 he0 he1 hg he ⊢
  refine W_norm rfl ?_
  refine W_seq ?_
  refine W_region ?_
  refine ev ?_
  refine WO_nil ?_
  refine thenQ_n ?_
  refine W_seq ?_
  refine W_cond rfl (fun h1 => ?_) (fun h1 => ?_)
  ·
    try simp only [HS] at h1
    refine W_skip ?_
    refine thenQ_n ?_
    refine W_seq ?_
    refine W_block ?_
    refine W_seq ?_
    refine W_region ?_
    obtain ⟨hr1, hr2, hr3, hr4, hr5, hr6⟩ := rowsGo_at hk0 (by omega) hg
    have hes := congrArg List.length he
    rw [drop_at hk0 (by omega), rowsBy, rowBy] at hes
    simp only [List.length_append] at hes
    first | refine WO_idxT tys rfl rfl (lt_of rfl) rfl rfl rfl rfl rfl rfl rfl (by omega) _ (getT _ _ (by omega) (by omega)) ?_ | refine WO_idxS tys rfl rfl (lt_of rfl) rfl rfl rfl rfl rfl rfl rfl rfl (by omega) (by omega) ?_
    first | (refine ev ?_; try refine WO_le (Le.freeze (u := 16) rfl) ?_) | refine WO_loadL tys rfl rfl (lt_of rfl) rfl rfl rfl rfl (getT _ _ (by omega) (by omega)) rfl ?_ | refine WO_loadL tys rfl rfl (lt_of rfl) rfl rfl rfl rfl (getT0 _ _ (by omega) (by omega)) rfl ?_
    refine WO_norm rfl ?_
    refine WO_alloc tys rfl rfl (lt_of rfl) rfl rfl rfl ?_
    refine WO_norm rfl ?_
    refine WO_store tys rfl rfl rfl rfl rfl rfl rfl rfl (lt_of rfl) ?_
    refine WO_norm rfl ?_
    refine WO_nil ?_
    refine thenQ_n ?_
    refine W_seq ?_
    refine W_regionD mixed (by kernel_rfl) ?_
    refine evQ ?_
    refine QL_norm rfl ?_
    iterate 3 (refine evQ ?_)
    refine evIQ ?_
    refine QL_convId (td := .int .i64) (k := .u64) rfl rfl (lt_of rfl) rfl (by kernel_rfl) (by kernel_rfl) rfl (wrapU64 (by omega) (by omega)) ?_
    refine callBQ ?_
    refine ⟨_, PutU_fun _ (by omega) (by omega), rfl, ?_⟩
    refine QL_norm rfl ?_
    iterate 4 (refine evQ ?_)
    refine evIQ ?_
    refine QL_convId (td := .int .i64) (k := .u64) rfl rfl (lt_of rfl) rfl (by kernel_rfl) (by kernel_rfl) rfl (wrapU64 (by omega) (by omega)) ?_
    refine QL_norm rfl ?_
    refine callBQ ?_
    refine ⟨_, PutU_fun _ (by omega) (by omega), rfl, ?_⟩
    refine QL_binW rfl rfl (lt_of rfl) rfl rfl rfl (binStrAdd (by (try simp only [List.length_append]); omega)) rfl ?_
    iterate 4 (refine evQ ?_)
    refine QL_norm rfl ?_
    refine evIQ ?_
    refine callBQ ?_
    refine ⟨_, PutS_fun _ (by omega) (by omega), rfl, ?_⟩
    iterate 2 (refine QL_binW rfl rfl (lt_of rfl) rfl rfl rfl (binStrAdd (by (try simp only [List.length_append]); omega)) rfl ?_)
    refine evQ ?_
    refine QL_nil ?_
    refine thenQ_n ?_
    refine W_region ?_
    iterate 3 (refine ev ?_)
    refine WO_nil ?_
    refine inBlk_n ?_
    refine thenQ_n ?_
    refine W_keep [0, 3, 4, 6, 11, 12, 13, 14, 15, 16, 17, 18, 19, 20, 21, 22, 23, 24, 25, 26, 27, 28, 29, 30, 31, 32, 33, 34, 35, 36, 37, 38, 39, 40, 41] rfl ?_
    refine W_region ?_
    refine evI ?_
    refine ev ?_
    refine WO_nil ?_
    refine loopQ_n (_, _, _) (by (try dsimp only); repeat (first | exact Sub.nil' | refine Sub.cons' rfl ?_ )) (by (try dsimp only); repeat (first | exact SubM.nil' | refine SubM.cons' rfl ?_ )) ?_ ?_
    · try dsimp only
      refine ⟨by omega, by omega, by omega, by omega, hr6, ?_⟩
      rw [he, drop_at hk0 (by omega), rowsBy, rowBy]
      simp only [List.append_assoc]
    · (show Int.toNat _ < Int.toNat _); omega
  try simp only [HS] at h1
  refine W_exit ?_
  refine thenQ_e ?_
  refine loopQ_e ?_
  refine inBlk_y ?_
  refine thenQ_n ?_
  refine W_seq ?_
  refine W_region ?_
  refine ev ?_
  refine ev ?_
  refine WO_nil ?_
  refine thenQ_n ?_
  refine W_ret ?_
  refine Ends_of (.inr rfl) (ret_okF rfl) (by decide) rfl ?_
  · rw [he, drop_end (by omega)]; simp [rowsBy]

theorem rowsBytes_fun (rows : List Row) (many : Int) (hr : rowsB rows many = true) (hm : many ≤ 300) (hl : rows.length ≤ 300) : Fun Tryd.prog 47 [.t (T.Rows rows)] (tupD [.t (T.str (rowsTx rows))]) := by
  have hlen := rowsTx_len hr hm hl
  refine Fun.begin tys Tryd.func47 rfl rfl (N := 44) [(0, .t (T.Rows rows))] rfl rfl (fun w0 G F0 => ?_)
  refine W_seq ?_
  refine W_region ?_
  refine ev ?_
  refine WO_nil ?_
  refine thenQ_n ?_
  refine W_seq ?_
  refine W_region ?_
  refine ev ?_
  refine evE ?_
  refine WO_convId (td := .int .i64) (k := .u64) rfl rfl (lt_of rfl) rfl (by kernel_rfl) (by kernel_rfl) rfl (wrapU64 (by omega) (by omega)) ?_
  refine callB ?_
  refine ⟨_, putU_fun _ (by omega) (by omega), rfl, ?_⟩
  refine ev ?_
  refine WO_nil ?_
  refine thenQ_n ?_
  refine W_seq ?_
  refine W_region ?_
  refine ev ?_
  refine WO_nil ?_
  refine thenQ_n ?_
  iterate 2 (refine W_seq ?_)
  refine W_keep [0, 2, 3, 4] rfl ?_
  refine W_region ?_
  refine ev ?_
  refine evE ?_
  refine ev ?_
  refine WO_nil ?_
  refine thenQ_n ?_
  refine W_block ?_
  refine W_loopK (α := Int × Int × Tx) [0, 11, 12] [] (fun (x : Int × Int × Tx) => [(13, .t (.int (x.1))), (4, .t (.int (x.2.1))), (3, .t (T.str (x.2.2)))]) (fun (x : Int × Int × Tx) => []) (fun (x : Int × Int × Tx) => 0 ≤ (x.1) ∧ (x.1) ≤ rows.length ∧ 0 ≤ (x.2.1) ∧ (x.2.1) ≤ 300 ∧ rowsGo many (rows.drop (x.1).toNat) (x.2.1) = true ∧ rowsTx rows = (x.2.2) ++ rowsBy (x.2.1) (rows.drop (x.1).toNat)) (fun (x : Int × Int × Tx) => Int.toNat (rows.length - (x.1))) (0, 0, lebU rows.length) ?_ ?_ ?_ (fun x hx => ?_)
  · repeat (first | exact Sub.nil' | refine Sub.cons' rfl ?_ )
  · repeat (first | exact SubM.nil' | refine SubM.cons' rfl ?_ )
  · exact ⟨by simp, by simp, by simp, by simp, hr, rfl⟩
  obtain ⟨k, e, s⟩ := x
  obtain ⟨hk0, hk1, he0, he1, hg, he⟩ := hx
  try dsimp only at hk0 hk1 he0 he1 hg he ⊢
  refine W_norm rfl ?_
  refine W_seq ?_
  refine W_region ?_
  refine ev ?_
  refine WO_nil ?_
  refine thenQ_n ?_
  refine W_seq ?_
  refine W_cond rfl (fun h1 => ?_) (fun h1 => ?_)
  ·
    try simp only [HS] at h1
    refine W_skip ?_
    refine thenQ_n ?_
    refine W_seq ?_
    refine W_block ?_
    refine W_seq ?_
    refine W_region ?_
    obtain ⟨hr1, hr2, hr3, hr4, hr5, hr6⟩ := rowsGo_at hk0 (by omega) hg
    have hes := congrArg List.length he
    rw [drop_at hk0 (by omega), rowsBy, rowBy] at hes
    simp only [List.length_append] at hes
    first | refine WO_idxT tys rfl rfl (lt_of rfl) rfl rfl rfl rfl rfl rfl rfl (by omega) _ (getT _ _ (by omega) (by omega)) ?_ | refine WO_idxS tys rfl rfl (lt_of rfl) rfl rfl rfl rfl rfl rfl rfl rfl (by omega) (by omega) ?_
    first | (refine ev ?_; try refine WO_le (Le.freeze (u := 16) rfl) ?_) | refine WO_loadL tys rfl rfl (lt_of rfl) rfl rfl rfl rfl (getT _ _ (by omega) (by omega)) rfl ?_ | refine WO_loadL tys rfl rfl (lt_of rfl) rfl rfl rfl rfl (getT0 _ _ (by omega) (by omega)) rfl ?_
    refine WO_norm rfl ?_
    refine WO_alloc tys rfl rfl (lt_of rfl) rfl rfl rfl ?_
    refine WO_norm rfl ?_
    refine WO_store tys rfl rfl rfl rfl rfl rfl rfl rfl (lt_of rfl) ?_
    refine WO_norm rfl ?_
    refine WO_nil ?_
    refine thenQ_n ?_
    refine W_seq ?_
    refine W_regionD mixed (by kernel_rfl) ?_
    refine evQ ?_
    refine QL_norm rfl ?_
    iterate 3 (refine evQ ?_)
    refine evIQ ?_
    refine QL_convId (td := .int .i64) (k := .u64) rfl rfl (lt_of rfl) rfl (by kernel_rfl) (by kernel_rfl) rfl (wrapU64 (by omega) (by omega)) ?_
    refine callBQ ?_
    refine ⟨_, putU_fun _ (by omega) (by omega), rfl, ?_⟩
    refine QL_norm rfl ?_
    iterate 4 (refine evQ ?_)
    refine evIQ ?_
    refine QL_convId (td := .int .i64) (k := .u64) rfl rfl (lt_of rfl) rfl (by kernel_rfl) (by kernel_rfl) rfl (wrapU64 (by omega) (by omega)) ?_
    refine QL_norm rfl ?_
    refine callBQ ?_
    refine ⟨_, putU_fun _ (by omega) (by omega), rfl, ?_⟩
    refine QL_binW rfl rfl (lt_of rfl) rfl rfl rfl (binStrAdd (by (try simp only [List.length_append]); omega)) rfl ?_
    iterate 4 (refine evQ ?_)
    refine QL_norm rfl ?_
    refine evIQ ?_
    refine callBQ ?_
    refine ⟨_, putS_fun _ (by omega) (by omega), rfl, ?_⟩
    iterate 2 (refine QL_binW rfl rfl (lt_of rfl) rfl rfl rfl (binStrAdd (by (try simp only [List.length_append]); omega)) rfl ?_)
    refine evQ ?_
    refine QL_nil ?_
    refine thenQ_n ?_
    refine W_region ?_
    iterate 3 (refine ev ?_)
    refine WO_nil ?_
    refine inBlk_n ?_
    refine thenQ_n ?_
    refine W_keep [0, 3, 4, 6, 11, 12, 13, 14, 15, 16, 17, 18, 19, 20, 21, 22, 23, 24, 25, 26, 27, 28, 29, 30, 31, 32, 33, 34, 35, 36, 37, 38, 39, 40, 41] rfl ?_
    refine W_region ?_
    refine evI ?_
    refine ev ?_
    refine WO_nil ?_
    refine loopQ_n (_, _, _) (by (try dsimp only); repeat (first | exact Sub.nil' | refine Sub.cons' rfl ?_ )) (by (try dsimp only); repeat (first | exact SubM.nil' | refine SubM.cons' rfl ?_ )) ?_ ?_
    · try dsimp only
      refine ⟨by omega, by omega, by omega, by omega, hr6, ?_⟩
      rw [he, drop_at hk0 (by omega), rowsBy, rowBy]
      simp only [List.append_assoc]
    · (show Int.toNat _ < Int.toNat _); omega
  try simp only [HS] at h1
  refine W_exit ?_
  refine thenQ_e ?_
  refine loopQ_e ?_
  refine inBlk_y ?_
  refine thenQ_n ?_
  refine W_seq ?_
  refine W_region ?_
  refine ev ?_
  refine ev ?_
  refine WO_nil ?_
  refine thenQ_n ?_
  refine W_ret ?_
  refine Ends_of (.inr rfl) (ret_okF rfl) (by decide) rfl ?_
  · rw [he, drop_end (by omega)]; simp [rowsBy]
open Go.Eng

theorem sizedX_one {c : Code} : sizedX ⟨[c]⟩ = sizedC c := by simp [sizedX]
theorem l7Good_fun (rows : List Row) (many : Int) (hl : rows.length ≤ 1048576) (hm : 0 ≤ many ∧ many ≤ 1048576) : Fun Tryd.prog 63 [.t (T.Rows rows), .t (.int many)] (tupD [.t (.bool (decide (1 ≤ many ∧ many ≤ 300) && decide ((rows.length : Int) ≤ 300) && rowsB rows many))]) := by
  refine Fun.begin tys Tryd.func63 rfl rfl (N := 17) [(0, .t (T.Rows rows)), (1, .t (.int many))] rfl rfl (fun w0 G F0 => ?_)
  refine W_seq ?_
  refine W_region ?_
  refine ev ?_
  refine WO_nil ?_
  refine thenQ_n ?_
  refine W_seq ?_
  refine W_region ?_
  refine ev ?_
  refine callB ?_
  refine ⟨_, l1In_fun _ _ _, rfl, ?_⟩
  refine ev ?_
  refine WO_guard rfl rfl rfl rfl (lt_of rfl) (fun h1 => ?_) (fun h1 => ?_)
  rotate_left
  ·
    try simp only [HS] at h1
    iterate 2 (refine WO_guardN rfl rfl rfl rfl rfl (lt_of rfl) ?_)
    refine ev ?_
    refine ev ?_
    refine WO_guardN rfl rfl rfl rfl rfl (lt_of rfl) ?_
    refine WO_keep [1, 4, 12, 13] rfl ?_
    iterate 2 (refine WO_guardN rfl rfl rfl rfl rfl (lt_of rfl) ?_)
    refine ev ?_
    refine ev ?_
    refine WO_nil ?_
    refine thenQ_n ?_
    refine W_ret ?_
    refine Ends_of (.inr rfl) (ret_okF rfl) (by decide) rfl ?_
    · exact retB (by simp_all <;> omega)
  try simp only [HS] at h1
  refine ev ?_
  refine WO_guardY rfl rfl rfl rfl (lt_of rfl) ?_
  refine evE ?_
  refine WO_guardY rfl rfl rfl rfl (lt_of rfl) ?_
  iterate 3 (refine ev ?_)
  refine WO_keep [0, 1, 4, 12] rfl ?_
  refine WO_guard rfl rfl rfl rfl (lt_of rfl) (fun h2 => ?_) (fun h2 => ?_)
  rotate_left
  ·
    try simp only [HS] at h2
    iterate 2 (refine WO_guardN rfl rfl rfl rfl rfl (lt_of rfl) ?_)
    refine ev ?_
    refine ev ?_
    refine WO_nil ?_
    refine thenQ_n ?_
    refine W_ret ?_
    refine Ends_of (.inr rfl) (ret_okF rfl) (by decide) rfl ?_
    · exact retB (by simp_all <;> omega)
  try simp only [HS] at h2
  refine ev ?_
  refine WO_guardY rfl rfl rfl rfl (lt_of rfl) ?_
  refine ev ?_
  refine WO_guardY rfl rfl rfl rfl (lt_of rfl) ?_
  refine callB ?_
  refine ⟨_, l5Rows_fun rows many hl hm, rfl, ?_⟩
  refine ev ?_
  refine ev ?_
  refine WO_nil ?_
  refine thenQ_n ?_
  refine W_ret ?_
  refine Ends_of (.inr rfl) (ret_okF rfl) (by decide) rfl ?_
  · exact retB (by simp_all <;> omega)

theorem l12Sized_fun (c : Code) (hc : c.ok 1048576) : Fun Tryd.prog 32 [.t c.tt] (tupD [.t (.bool (putB c))]) := by
  have hc1 : c.sites.length ≤ 1048576 := hc.1
  have hc2 : c.ins.length ≤ 1048576 := hc.2.1
  have hc3 : c.rows.length ≤ 1048576 := hc.2.2.1
  refine Fun.begin tys Tryd.func32 rfl rfl (N := 22) [(0, .t c.tt)] rfl rfl (fun w0 G F0 => ?_)
  refine W_seq ?_
  refine W_region ?_
  refine WO_box rfl rfl (lt_of rfl) rfl rfl ?_
  refine WO_norm rfl ?_
  refine ev ?_
  refine WO_nil ?_
  refine thenQ_n ?_
  refine W_seq ?_
  refine W_region ?_
  first | (refine ev ?_; try refine WO_le (Le.freeze (u := 4) rfl) ?_) | refine WO_loadMove tys rfl rfl (lt_of rfl) rfl rfl rfl rfl rfl rfl ?_
  refine WO_norm rfl ?_
  refine WO_buildF tys [c.tt] rfl rfl (lt_of rfl) rfl rfl rfl rfl rfl (by decide) (by repeat (first | exact PartsF.nil' | refine PartsF.cons' rfl rfl ?_)) rfl ?_
  refine WO_norm rfl ?_
  refine WO_struct tys rfl rfl (lt_of rfl) rfl rfl rfl (by kernel_rfl) rfl rfl rfl rfl rfl rfl ?_
  refine WO_alloc tys rfl rfl (lt_of rfl) rfl rfl rfl ?_
  refine WO_norm rfl ?_
  refine WO_store tys rfl rfl rfl rfl rfl rfl rfl rfl (lt_of rfl) ?_
  refine WO_norm rfl ?_
  refine WO_nil ?_
  refine thenQ_n ?_
  refine W_seq ?_
  refine W_keep [1, 2, 3] rfl ?_
  refine W_region ?_
  first | (refine ev ?_; try refine WO_le (Le.freeze (u := 7) rfl) ?_) | refine WO_loadMove tys rfl rfl (lt_of rfl) rfl rfl rfl rfl rfl rfl ?_
  refine WO_norm rfl ?_
  refine callB ?_
  refine ⟨_, l5Sized_fun ⟨[c]⟩ ⟨⟨by simp, fun x hx => by simp at hx; subst hx; exact hc⟩, trivial⟩, rfl, ?_⟩
  refine ev ?_
  refine WO_guard rfl rfl rfl rfl (lt_of rfl) (fun h1 => ?_) (fun h1 => ?_)
  rotate_left
  ·
    try simp only [HS] at h1
    iterate 2 (refine WO_guardN rfl rfl rfl rfl rfl (lt_of rfl) ?_)
    refine ev ?_
    refine ev ?_
    iterate 2 (refine WO_guardN rfl rfl rfl rfl rfl (lt_of rfl) ?_)
    refine WO_keep [1, 2, 14, 16] rfl ?_
    iterate 4 (refine WO_guardN rfl rfl rfl rfl rfl (lt_of rfl) ?_)
    refine ev ?_
    refine ev ?_
    refine WO_nil ?_
    refine thenQ_n ?_
    refine W_ret ?_
    refine Ends_of (.inr rfl) (ret_okF rfl) (by decide) rfl ?_
    · have hz : sizedC c = true → 1 ≤ (c.ins.length : Int) ∧ (c.ins.length : Int) ≤ 300 ∧ (c.rows.length : Int) ≤ 300 := fun h => by have := sizedC_of h; omega
      exact retB (by rw [putB]; cases h9 : sizedC c <;> simp_all [sizedX_one])
  try simp only [HS] at h1
  refine ev ?_
  refine WO_guardY rfl rfl rfl rfl (lt_of rfl) ?_
  refine ev ?_
  refine WO_guardY rfl rfl rfl rfl (lt_of rfl) ?_
  refine callB ?_
  refine ⟨_, l1All_fun _ _ _ (by omega), rfl, ?_⟩
  refine ev ?_
  refine ev ?_
  refine WO_guard rfl rfl rfl rfl (lt_of rfl) (fun h2 => ?_) (fun h2 => ?_)
  rotate_left
  ·
    try simp only [HS] at h2
    refine WO_guardN rfl rfl rfl rfl rfl (lt_of rfl) ?_
    refine WO_keep [1, 2, 14, 16] rfl ?_
    iterate 4 (refine WO_guardN rfl rfl rfl rfl rfl (lt_of rfl) ?_)
    refine ev ?_
    refine ev ?_
    refine WO_nil ?_
    refine thenQ_n ?_
    refine W_ret ?_
    refine Ends_of (.inr rfl) (ret_okF rfl) (by decide) rfl ?_
    · have hz : sizedC c = true → 1 ≤ (c.ins.length : Int) ∧ (c.ins.length : Int) ≤ 300 ∧ (c.rows.length : Int) ≤ 300 := fun h => by have := sizedC_of h; omega
      exact retB (by rw [putB]; cases h9 : sizedC c <;> simp_all [sizedX_one])
  try simp only [HS] at h2
  refine ev ?_
  refine WO_guardY rfl rfl rfl rfl (lt_of rfl) ?_
  refine ev ?_
  refine WO_keep [1, 2, 14, 16] rfl ?_
  refine WO_guardY rfl rfl rfl rfl (lt_of rfl) ?_
  refine ev ?_
  refine WO_guardY rfl rfl rfl rfl (lt_of rfl) ?_
  refine ev ?_
  refine WO_guardY rfl rfl rfl rfl (lt_of rfl) ?_
  refine evE ?_
  refine WO_guardY rfl rfl rfl rfl (lt_of rfl) ?_
  refine callB ?_
  refine ⟨_, l7Good_fun _ _ (by omega) (by omega), rfl, ?_⟩
  refine ev ?_
  refine ev ?_
  refine WO_nil ?_
  refine thenQ_n ?_
  refine W_ret ?_
  refine Ends_of (.inr rfl) (ret_okF rfl) (by decide) rfl ?_
  · have hz : sizedC c = true → 1 ≤ (c.ins.length : Int) ∧ (c.ins.length : Int) ≤ 300 ∧ (c.rows.length : Int) ≤ 300 := fun h => by have := sizedC_of h; omega
    exact retB (by rw [putB]; cases h9 : sizedC c <;> simp_all [sizedX_one])

theorem l12Code_fun (c : Code) (hp : putB c = true) : Fun Tryd.prog 33 [.t c.tt] (tupD [.t (T.str (codeBy c))]) := by
  have hlen := codeBy_len hp
  obtain ⟨hp1, hp2, hp3⟩ := putB_of hp
  obtain ⟨hz1, hz2, hz3, hz4, hz5, hz6⟩ := sizedC_of hp1
  have hu1 := lebU_len (n := c.params) (by omega)
  have hu2 := lebU_len (n := c.vars) (by omega)
  have hu3 := lebU_len (n := (c.sites.length : Int)) (by omega)
  have hu4 := lebU_len (n := (c.ins.length : Int)) (by omega)
  have hu5 := rowsTx_len hp3 (by omega) hz5
  refine Fun.begin tys Tryd.func33 rfl rfl (N := 70) [(0, .t c.tt)] rfl rfl (fun w0 G F0 => ?_)
  refine W_seq ?_
  refine W_region ?_
  refine WO_box rfl rfl (lt_of rfl) rfl rfl ?_
  refine WO_norm rfl ?_
  refine ev ?_
  refine WO_nil ?_
  refine thenQ_n ?_
  refine W_seq ?_
  refine W_regionD mixed (by kernel_rfl) ?_
  refine evQ ?_
  refine evQ ?_
  refine QL_convId (td := .int .i64) (k := .u64) rfl rfl (lt_of rfl) rfl (by kernel_rfl) (by kernel_rfl) rfl (wrapU64 (by omega) (by omega)) ?_
  refine callBQ ?_
  refine ⟨_, PutU_fun _ (by omega) (by omega), rfl, ?_⟩
  refine QL_norm rfl ?_
  refine evQ ?_
  refine evQ ?_
  refine QL_convId (td := .int .i64) (k := .u64) rfl rfl (lt_of rfl) rfl (by kernel_rfl) (by kernel_rfl) rfl (wrapU64 (by omega) (by omega)) ?_
  refine callBQ ?_
  refine ⟨_, PutU_fun _ (by omega) (by omega), rfl, ?_⟩
  refine QL_binW rfl rfl (lt_of rfl) rfl rfl rfl (binStrAdd (by (try simp only [List.length_append]); omega)) rfl ?_
  refine evQ ?_
  refine QL_norm rfl ?_
  refine evQ ?_
  refine evEQ ?_
  refine QL_convId (td := .int .i64) (k := .u64) rfl rfl (lt_of rfl) rfl (by kernel_rfl) (by kernel_rfl) rfl (wrapU64 (by omega) (by omega)) ?_
  refine callBQ ?_
  refine ⟨_, PutU_fun _ (by omega) (by omega), rfl, ?_⟩
  refine QL_binW rfl rfl (lt_of rfl) rfl rfl rfl (binStrAdd (by (try simp only [List.length_append]); omega)) rfl ?_
  refine evQ ?_
  refine QL_norm rfl ?_
  refine QL_nil ?_
  refine thenQ_n ?_
  iterate 2 (refine W_seq ?_)
  refine W_region ?_
  refine ev ?_
  refine ev ?_
  refine evE ?_
  refine ev ?_
  refine WO_nil ?_
  refine thenQ_n ?_
  refine W_block ?_
  refine W_loopK (α := Int × Tx) [1, 24, 25] [1] (fun (x : Int × Tx) => [(26, .t (.int (x.1))), (3, .t (T.str (x.2)))]) (fun (x : Int × Tx) => []) (fun (x : Int × Tx) => 0 ≤ (x.1) ∧ (x.1) ≤ c.sites.length ∧ codeBy c = (x.2) ++ ((c.sites.drop (x.1).toNat).flatMap lebU ++ (lebU c.ins.length ++ (c.ins.flatMap insBy ++ rowsTx c.rows)))) (fun (x : Int × Tx) => Int.toNat (c.sites.length - (x.1))) (0, headBy c) ?_ ?_ ?_ (fun x hx => ?_)
  · repeat (first | exact Sub.nil' | refine Sub.cons' rfl ?_ )
  · repeat (first | exact SubM.nil' | refine SubM.cons' rfl ?_ )
  · exact ⟨by simp, by simp, rfl⟩
  obtain ⟨k, s⟩ := x
  obtain ⟨hk0, hk1, he⟩ := hx
  try dsimp only at hk0 hk1 he ⊢
  refine W_norm rfl ?_
  refine W_seq ?_
  refine W_region ?_
  refine ev ?_
  refine WO_nil ?_
  refine thenQ_n ?_
  refine W_seq ?_
  refine W_cond rfl (fun h1 => ?_) (fun h1 => ?_)
  ·
    try simp only [HS] at h1
    refine W_skip ?_
    refine thenQ_n ?_
    refine W_seq ?_
    refine W_block ?_
    refine W_seq ?_
    refine W_region ?_
    have hn := allIn_get hp2 (List.getElem_mem (l := c.sites) (n := k.toNat) (by omega))
    have hes := congrArg List.length he
    rw [flatT_at hk0 (by omega)] at hes
    simp only [List.length_append] at hes
    first | refine WO_idxT tys rfl rfl (lt_of rfl) rfl rfl rfl rfl rfl rfl rfl (by omega) _ (getT _ _ (by omega) (by omega)) ?_ | refine WO_idxS tys rfl rfl (lt_of rfl) rfl rfl rfl rfl rfl rfl rfl rfl (by omega) (by omega) ?_
    first | refine ev ?_ | refine WO_loadL tys rfl rfl (lt_of rfl) rfl rfl rfl rfl (getT _ _ (by omega) (by omega)) rfl ?_ | refine WO_loadL tys rfl rfl (lt_of rfl) rfl rfl rfl rfl (getT0 _ _ (by omega) (by omega)) rfl ?_
    refine ev ?_
    refine WO_nil ?_
    refine thenQ_n ?_
    refine W_region ?_
    refine ev ?_
    refine ev ?_
    refine WO_convId (td := .int .i64) (k := .u64) rfl rfl (lt_of rfl) rfl (by kernel_rfl) (by kernel_rfl) rfl (wrapU64 (by omega) (by omega)) ?_
    refine callB ?_
    refine ⟨_, PutU_fun _ (by omega) (by omega), rfl, ?_⟩
    refine WO_binW rfl rfl (lt_of rfl) rfl rfl rfl (binStrAdd (by (try simp only [List.length_append]); omega)) rfl ?_
    refine WO_keep [1, 3, 5, 24, 25, 26, 27, 28, 29, 30, 31, 32, 33, 34] rfl ?_
    refine ev ?_
    refine WO_nil ?_
    refine inBlk_n ?_
    refine thenQ_n ?_
    refine W_region ?_
    refine evI ?_
    refine ev ?_
    refine WO_nil ?_
    refine loopQ_n (_, _) (by (try dsimp only); repeat (first | exact Sub.nil' | refine Sub.cons' rfl ?_ )) (by (try dsimp only); repeat (first | exact SubM.nil' | refine SubM.cons' rfl ?_ )) ?_ ?_
    · try dsimp only
      refine ⟨by omega, by omega, ?_⟩
      rw [he, flatT_at hk0 (by omega)]
      simp only [List.append_assoc]
    · (show Int.toNat _ < Int.toNat _); omega
  try simp only [HS] at h1
  refine W_exit ?_
  refine thenQ_e ?_
  refine loopQ_e ?_
  refine inBlk_y ?_
  refine thenQ_n ?_
  refine W_seq ?_
  refine W_region ?_
  have hes := congrArg List.length he
  simp only [List.length_append] at hes
  iterate 3 (refine ev ?_)
  refine evE ?_
  refine WO_convId (td := .int .i64) (k := .u64) rfl rfl (lt_of rfl) rfl (by kernel_rfl) (by kernel_rfl) rfl (wrapU64 (by omega) (by omega)) ?_
  refine callB ?_
  refine ⟨_, PutU_fun _ (by omega) (by omega), rfl, ?_⟩
  refine WO_binW rfl rfl (lt_of rfl) rfl rfl rfl (binStrAdd (by (try simp only [List.length_append]); omega)) rfl ?_
  refine ev ?_
  refine WO_keep [1, 3] rfl ?_
  refine WO_nil ?_
  refine thenQ_n ?_
  iterate 2 (refine W_seq ?_)
  refine W_region ?_
  refine ev ?_
  refine ev ?_
  refine evE ?_
  refine ev ?_
  refine WO_nil ?_
  refine thenQ_n ?_
  refine W_block ?_
  refine W_loopK (α := Int × Tx) [1, 44, 45] [1] (fun (x : Int × Tx) => [(46, .t (.int (x.1))), (3, .t (T.str (x.2)))]) (fun (x : Int × Tx) => []) (fun (x : Int × Tx) => 0 ≤ (x.1) ∧ (x.1) ≤ c.ins.length ∧ codeBy c = (x.2) ++ ((c.ins.drop (x.1).toNat).flatMap insBy ++ rowsTx c.rows)) (fun (x : Int × Tx) => Int.toNat (c.ins.length - (x.1))) (0, s ++ lebU c.ins.length) ?_ ?_ ?_ (fun x hx => ?_)
  · repeat (first | exact Sub.nil' | refine Sub.cons' rfl ?_ )
  · repeat (first | exact SubM.nil' | refine SubM.cons' rfl ?_ )
  · refine ⟨by simp, by simp, ?_⟩
    rw [he, flatT_end (by omega)]
    simp
  obtain ⟨k, s⟩ := x
  obtain ⟨hk0, hk1, he⟩ := hx
  try dsimp only at hk0 hk1 he ⊢
  refine W_norm rfl ?_
  refine W_seq ?_
  refine W_region ?_
  refine ev ?_
  refine WO_nil ?_
  refine thenQ_n ?_
  refine W_seq ?_
  refine W_cond rfl (fun h2 => ?_) (fun h2 => ?_)
  ·
    try simp only [HS] at h2
    refine W_skip ?_
    refine thenQ_n ?_
    refine W_seq ?_
    refine W_block ?_
    refine W_seq ?_
    refine W_region ?_
    have hi := insB_w (hz6 _ (List.getElem_mem (l := c.ins) (n := k.toNat) (by omega)))
    have hes := congrArg List.length he
    rw [flatT_at hk0 (by omega), insBy] at hes
    simp only [List.length_append] at hes
    first | refine WO_idxT tys rfl rfl (lt_of rfl) rfl rfl rfl rfl rfl rfl rfl (by omega) _ (getT _ _ (by omega) (by omega)) ?_ | refine WO_idxS tys rfl rfl (lt_of rfl) rfl rfl rfl rfl rfl rfl rfl rfl (by omega) (by omega) ?_
    first | (refine ev ?_; try refine WO_le (Le.freeze (u := 49) rfl) ?_) | refine WO_loadL tys rfl rfl (lt_of rfl) rfl rfl rfl rfl (getT _ _ (by omega) (by omega)) rfl ?_ | refine WO_loadL tys rfl rfl (lt_of rfl) rfl rfl rfl rfl (getT0 _ _ (by omega) (by omega)) rfl ?_
    refine WO_norm rfl ?_
    refine WO_alloc tys rfl rfl (lt_of rfl) rfl rfl rfl ?_
    refine WO_norm rfl ?_
    refine WO_store tys rfl rfl rfl rfl rfl rfl rfl rfl (lt_of rfl) ?_
    refine WO_norm rfl ?_
    refine WO_nil ?_
    refine thenQ_n ?_
    refine W_seq ?_
    refine W_region ?_
    iterate 3 (refine ev ?_)
    refine WO_convId (td := .int .i64) (k := .u64) rfl rfl (lt_of rfl) rfl (by kernel_rfl) (by kernel_rfl) rfl (wrapU64 (by omega) (by omega)) ?_
    refine WO_keep [1, 3, 7, 44, 45, 46, 47, 48, 49, 50, 51, 52, 53] rfl ?_
    refine callB ?_
    refine ⟨_, PutU_fun _ (by omega) (by omega), rfl, ?_⟩
    refine WO_binW rfl rfl (lt_of rfl) rfl rfl rfl (binStrAdd (by (try simp only [List.length_append]); omega)) rfl ?_
    refine ev ?_
    refine WO_nil ?_
    refine thenQ_n ?_
    refine W_seq ?_
    refine W_region ?_
    refine ev ?_
    refine ev ?_
    refine callB ?_
    refine ⟨_, hasN_fun _, rfl, ?_⟩
    refine WO_nil ?_
    refine thenQ_n ?_
    refine W_cond rfl (fun h3 => ?_) (fun h3 => ?_)
    ·
      try simp only [HS] at h3
      refine W_region ?_
      iterate 3 (refine ev ?_)
      refine WO_keep [1, 3, 7, 44, 45, 46, 47, 48, 49, 50, 51, 52, 53, 54, 55, 56, 57, 58, 59, 60, 61] rfl ?_
      refine callB ?_
      refine ⟨_, PutS_fun _ (by omega) (by omega), rfl, ?_⟩
      refine WO_binW rfl rfl (lt_of rfl) rfl rfl rfl (binStrAdd (by have hq := lebS_len (n := (c.ins[k.toNat]'(by omega)).n) (by omega) (by omega); (try simp only [List.length_append]); omega)) rfl ?_
      refine ev ?_
      refine WO_nil ?_
      refine inBlk_n ?_
      refine thenQ_n ?_
      refine W_region ?_
      refine evI ?_
      refine ev ?_
      refine WO_nil ?_
      refine loopQ_n (_, _) (by (try dsimp only); repeat (first | exact Sub.nil' | refine Sub.cons' rfl ?_ )) (by (try dsimp only); repeat (first | exact SubM.nil' | refine SubM.cons' rfl ?_ )) ?_ ?_
      · try dsimp only
        refine ⟨by omega, by omega, ?_⟩
        rw [he, flatT_at hk0 (by omega), insBy]
        simp_all
      · (show Int.toNat _ < Int.toNat _); omega
    try simp only [HS] at h3
    refine W_skip ?_
    refine inBlk_n ?_
    refine thenQ_n ?_
    refine W_region ?_
    refine evI ?_
    refine ev ?_
    refine WO_nil ?_
    refine loopQ_n (_, _) (by (try dsimp only); repeat (first | exact Sub.nil' | refine Sub.cons' rfl ?_ )) (by (try dsimp only); repeat (first | exact SubM.nil' | refine SubM.cons' rfl ?_ )) ?_ ?_
    · try dsimp only
      refine ⟨by omega, by omega, ?_⟩
      rw [he, flatT_at hk0 (by omega), insBy]
      simp_all
    · (show Int.toNat _ < Int.toNat _); omega
  try simp only [HS] at h2
  refine W_exit ?_
  refine thenQ_e ?_
  refine loopQ_e ?_
  refine inBlk_y ?_
  refine thenQ_n ?_
  refine W_seq ?_
  refine W_region ?_
  have hes := congrArg List.length he
  simp only [List.length_append] at hes
  iterate 3 (refine ev ?_)
  refine callB ?_
  refine ⟨_, l7Bytes_fun c.rows c.ins.length hp3 (by omega) hz5, rfl, ?_⟩
  refine WO_binW rfl rfl (lt_of rfl) rfl rfl rfl (binStrAdd (by (try simp only [List.length_append]); omega)) rfl ?_
  refine ev ?_
  refine WO_nil ?_
  refine thenQ_n ?_
  refine W_ret ?_
  refine Ends_of (.inr rfl) (ret_okF rfl) (by decide) rfl ?_
  · rw [he, flatT_end (by omega)]; simp

noncomputable def codeBytesR (c : Code) : Tx × Bool := if putB c && decide (((codeBy c).length : Int) ≤ 2000) then (codeBy c, true) else ([], false)
theorem codeR_no1 {c : Code} (h : putB c = false) : codeBytesR c = ([], false) := by unfold codeBytesR; rw [h]; rfl
theorem codeR_no2 {c : Code} (h : 2000 < ((codeBy c).length : Int)) : codeBytesR c = ([], false) := by unfold codeBytesR; rw [decide_eq_false (by omega), Bool.and_false]; rfl
theorem codeR_yes {c : Code} (h1 : putB c = true) (h : ((codeBy c).length : Int) ≤ 2000) : codeBytesR c = (codeBy c, true) := by unfold codeBytesR; rw [h1, decide_eq_true h]; rfl
theorem retCB {a b : Tx × Bool} (h : a = b) : [D.t (T.str a.1), D.t (.bool a.2)] = [D.t (T.str b.1), D.t (.bool b.2)] := by rw [h]

theorem specCodeBytes_fun (c : Code) (hc : c.ok 1048576) : Fun Tryd.prog 16 [.t c.tt] (tupD [.t (T.str (codeBytesR c).1), .t (.bool (codeBytesR c).2)]) := by
  refine Fun.begin tys Tryd.func16 rfl rfl (N := 15) [(0, .t c.tt)] rfl rfl (fun w0 G F0 => ?_)
  refine W_seq ?_
  refine W_region ?_
  refine WO_box rfl rfl (lt_of rfl) rfl rfl ?_
  refine WO_norm rfl ?_
  refine ev ?_
  refine ev ?_
  refine WO_nil ?_
  refine thenQ_n ?_
  iterate 2 (refine W_seq ?_)
  refine W_region ?_
  first | (refine ev ?_; try refine WO_le (Le.freeze (u := 4) rfl) ?_) | refine WO_loadMove tys rfl rfl (lt_of rfl) rfl rfl rfl rfl rfl rfl ?_
  refine WO_norm rfl ?_
  refine callB ?_
  refine ⟨_, l12Sized_fun c hc, rfl, ?_⟩
  refine ev ?_
  refine ev ?_
  refine WO_guard rfl rfl rfl rfl (lt_of rfl) (fun h1 => ?_) (fun h1 => ?_)
  rotate_left
  ·
    try simp only [HS] at h1
    iterate 2 (refine WO_guardN rfl rfl rfl rfl rfl (lt_of rfl) ?_)
    refine WO_keep [1, 2, 3, 7, 10] rfl ?_
    refine WO_guardN rfl rfl rfl rfl rfl (lt_of rfl) ?_
    refine ev ?_
    refine WO_nil ?_
    refine thenQ_n ?_
    refine W_condT rfl ?_
    refine W_seq ?_
    refine W_region ?_
    refine ev ?_
    refine ev ?_
    refine WO_nil ?_
    refine thenQ_n ?_
    refine W_ret ?_
    refine thenQ_r ?_
    refine Ends_of (.inr rfl) (ret_okF rfl) (by decide) rfl ?_
    · first
      | exact retCB (a := ([], false)) (codeR_no1 (by assumption)).symm
      | exact retCB (a := ([], false)) (codeR_no2 (by assumption)).symm
      | exact retCB (a := (codeBy c, true)) (codeR_yes (by assumption) (by omega)).symm
  try simp only [HS] at h1
  first | (refine ev ?_; try refine WO_le (Le.freeze (u := 8) rfl) ?_) | refine WO_loadMove tys rfl rfl (lt_of rfl) rfl rfl rfl rfl rfl rfl ?_
  refine WO_norm rfl ?_
  refine WO_guardY rfl rfl rfl rfl (lt_of rfl) ?_
  refine callB ?_
  refine ⟨_, l12Code_fun c (by assumption), rfl, ?_⟩
  refine WO_keep [1, 2, 3, 7, 9] rfl ?_
  refine WO_guardY rfl rfl rfl rfl (lt_of rfl) ?_
  refine WO_strLen rfl rfl (lt_of rfl) rfl (by kernel_rfl) rfl ?_
  refine WO_guardY rfl rfl rfl rfl (lt_of rfl) ?_
  refine ev ?_
  refine ev ?_
  refine WO_nil ?_
  refine thenQ_n ?_
  refine W_cond rfl (fun h2 => ?_) (fun h2 => ?_)
  ·
    try simp only [HS] at h2
    refine W_seq ?_
    refine W_region ?_
    refine ev ?_
    refine ev ?_
    refine WO_nil ?_
    refine thenQ_n ?_
    refine W_ret ?_
    refine thenQ_r ?_
    refine Ends_of (.inr rfl) (ret_okF rfl) (by decide) rfl ?_
    · first
      | exact retCB (a := ([], false)) (codeR_no1 (by assumption)).symm
      | exact retCB (a := ([], false)) (codeR_no2 (by assumption)).symm
      | exact retCB (a := (codeBy c, true)) (codeR_yes (by assumption) (by omega)).symm
  try simp only [HS] at h2
  refine W_skip ?_
  refine thenQ_n ?_
  refine W_seq ?_
  refine W_region ?_
  first | (refine ev ?_; try refine WO_le (Le.freeze (u := 13) rfl) ?_) | refine WO_loadMove tys rfl rfl (lt_of rfl) rfl rfl rfl rfl rfl rfl ?_
  refine WO_norm rfl ?_
  refine callB ?_
  refine ⟨_, l12Code_fun c (by assumption), rfl, ?_⟩
  refine ev ?_
  refine ev ?_
  refine WO_nil ?_
  refine thenQ_n ?_
  refine W_ret ?_
  refine Ends_of (.inr rfl) (ret_okF rfl) (by decide) rfl ?_
  · first
    | exact retCB (a := ([], false)) (codeR_no1 (by assumption)).symm
    | exact retCB (a := ([], false)) (codeR_no2 (by assumption)).symm
    | exact retCB (a := (codeBy c, true)) (codeR_yes (by assumption) (by omega)).symm

theorem codeBytes1_fun (n : Int) : Fun Tryd.prog 41 [.t (.int n)] (tupD [.t (.bool (!decide ((0 : Int) ≤ n ∧ n ≤ 1000000)))]) := by
  refine Fun.begin tys Tryd.func41 rfl rfl (N := 6) [(0, .t (.int n))] rfl rfl (fun w0 G F0 => ?_)
  refine W_seq ?_
  refine W_region ?_
  refine ev ?_
  refine WO_nil ?_
  refine thenQ_n ?_
  refine W_seq ?_
  refine W_region ?_
  refine ev ?_
  refine callB ?_
  refine ⟨_, within_fun _ _ _, rfl, ?_⟩
  refine ev ?_
  refine ev ?_
  refine WO_nil ?_
  refine thenQ_n ?_
  refine W_ret ?_
  refine Ends_of (.inr rfl) (ret_okF rfl) (by decide) rfl ?_
  · first | rfl | (simp_all; done)

theorem implCodeBytes_fun (c : Code) (hc : c.ok 1048576) : Fun Tryd.prog 21 [.t c.tt] (tupD [.t (T.str (codeBytesR c).1), .t (.bool (codeBytesR c).2)]) := by
  have hc1 : c.sites.length ≤ 1048576 := hc.1
  have hc2 : c.ins.length ≤ 1048576 := hc.2.1
  have hc3 : c.rows.length ≤ 1048576 := hc.2.2.1
  refine Fun.begin tys Tryd.func21 rfl rfl (N := 87) [(0, .t c.tt)] rfl rfl (fun w0 G F0 => ?_)
  refine W_seq ?_
  refine W_region ?_
  refine WO_box rfl rfl (lt_of rfl) rfl rfl ?_
  refine WO_norm rfl ?_
  refine ev ?_
  refine ev ?_
  refine WO_nil ?_
  refine thenQ_n ?_
  iterate 2 (refine W_seq ?_)
  refine W_region ?_
  first | (refine ev ?_; try refine WO_le (Le.freeze (u := 9) rfl) ?_) | refine WO_loadMove tys rfl rfl (lt_of rfl) rfl rfl rfl rfl rfl rfl ?_
  refine WO_norm rfl ?_
  refine callB ?_
  refine ⟨_, isSizedCode_fun c hc, rfl, ?_⟩
  refine ev ?_
  refine ev ?_
  refine WO_guard rfl rfl rfl rfl (lt_of rfl) (fun h1 => ?_) (fun h1 => ?_)
  rotate_left
  ·
    try simp only [HS] at h1
    iterate 2 (refine WO_guardN rfl rfl rfl rfl rfl (lt_of rfl) ?_)
    refine WO_keep [1, 2, 3, 12, 14, 15] rfl ?_
    iterate 4 (refine WO_guardN rfl rfl rfl rfl rfl (lt_of rfl) ?_)
    refine ev ?_
    refine ev ?_
    iterate 3 (refine WO_guardN rfl rfl rfl rfl rfl (lt_of rfl) ?_)
    refine WO_keep [1, 2, 3, 21, 24] rfl ?_
    refine ev ?_
    refine WO_nil ?_
    refine thenQ_n ?_
    refine W_condT rfl ?_
    refine W_seq ?_
    refine W_region ?_
    refine ev ?_
    refine ev ?_
    refine WO_nil ?_
    refine thenQ_n ?_
    refine W_ret ?_
    refine thenQ_r ?_
    refine Ends_of (.inr rfl) (ret_okF rfl) (by decide) rfl ?_
    · first
      | (refine retCB (a := ([], false)) (codeR_no1 ?_).symm; rw [← Bool.not_eq_true]; intro h9; obtain ⟨q1, q2, q3⟩ := putB_of h9; (try rw [any_not_all] at *); simp_all; done)
      | exact retCB (a := ([], false)) (codeR_no2 (by omega)).symm
      | (rw [← hes2]; exact retCB (a := (codeBy c, true)) (codeR_yes hp (by omega)).symm)
  try simp only [HS] at h1
  refine ev ?_
  refine WO_guardY rfl rfl rfl rfl (lt_of rfl) ?_
  refine ev ?_
  refine WO_keep [1, 2, 3, 12, 14] rfl ?_
  refine WO_guardY rfl rfl rfl rfl (lt_of rfl) ?_
  refine ev ?_
  refine WO_guardY rfl rfl rfl rfl (lt_of rfl) ?_
  refine ev ?_
  refine WO_guardY rfl rfl rfl rfl (lt_of rfl) ?_
  refine evE ?_
  refine WO_guardY rfl rfl rfl rfl (lt_of rfl) ?_
  refine callB ?_
  refine ⟨_, areRows_fun c.rows _ (by omega) (by omega), rfl, ?_⟩
  refine WO_guardY rfl rfl rfl rfl (lt_of rfl) ?_
  iterate 3 (refine ev ?_)
  refine WO_guard rfl rfl rfl rfl (lt_of rfl) (fun h2 => ?_) (fun h2 => ?_)
  rotate_left
  ·
    try simp only [HS] at h2
    iterate 2 (refine WO_guardN rfl rfl rfl rfl rfl (lt_of rfl) ?_)
    refine WO_keep [1, 2, 3, 21, 24] rfl ?_
    refine ev ?_
    refine WO_nil ?_
    refine thenQ_n ?_
    refine W_condT rfl ?_
    refine W_seq ?_
    refine W_region ?_
    refine ev ?_
    refine ev ?_
    refine WO_nil ?_
    refine thenQ_n ?_
    refine W_ret ?_
    refine thenQ_r ?_
    refine Ends_of (.inr rfl) (ret_okF rfl) (by decide) rfl ?_
    · first
      | (refine retCB (a := ([], false)) (codeR_no1 ?_).symm; rw [← Bool.not_eq_true]; intro h9; obtain ⟨q1, q2, q3⟩ := putB_of h9; (try rw [any_not_all] at *); simp_all; done)
      | exact retCB (a := ([], false)) (codeR_no2 (by omega)).symm
      | (rw [← hes2]; exact retCB (a := (codeBy c, true)) (codeR_yes hp (by omega)).symm)
  try simp only [HS] at h2
  refine ev ?_
  refine WO_guardY rfl rfl rfl rfl (lt_of rfl) ?_
  refine ev ?_
  refine WO_keep [1, 2, 3, 21, 23] rfl ?_
  refine WO_guardY rfl rfl rfl rfl (lt_of rfl) ?_
  refine callB ?_
  refine ⟨_, hasS_fun c.sites (fun n => !decide ((0 : Int) ≤ n ∧ n ≤ 1000000)) _ [] rfl (by omega) (fun x _ => codeBytes1_fun x), rfl, ?_⟩
  refine ev ?_
  refine WO_nil ?_
  refine thenQ_n ?_
  refine W_cond rfl (fun h3 => ?_) (fun h3 => ?_)
  ·
    try simp only [HS] at h3
    refine W_seq ?_
    refine W_region ?_
    refine ev ?_
    refine ev ?_
    refine WO_nil ?_
    refine thenQ_n ?_
    refine W_ret ?_
    refine thenQ_r ?_
    refine Ends_of (.inr rfl) (ret_okF rfl) (by decide) rfl ?_
    · first
      | (refine retCB (a := ([], false)) (codeR_no1 ?_).symm; rw [← Bool.not_eq_true]; intro h9; obtain ⟨q1, q2, q3⟩ := putB_of h9; (try rw [any_not_all] at *); simp_all; done)
      | exact retCB (a := ([], false)) (codeR_no2 (by omega)).symm
      | (rw [← hes2]; exact retCB (a := (codeBy c, true)) (codeR_yes hp (by omega)).symm)
  try simp only [HS] at h3
  refine W_skip ?_
  refine thenQ_n ?_
  refine W_seq ?_
  refine W_region ?_
  have hp : putB c = true := by rw [any_not_all] at *; simp_all [putB]
  have hlen := codeBy_len hp
  obtain ⟨hp1, hp2, hp3⟩ := putB_of hp
  obtain ⟨hz1, hz2, hz3, hz4, hz5, hz6⟩ := sizedC_of hp1
  have hu1 := lebU_len (n := c.params) (by omega)
  have hu2 := lebU_len (n := c.vars) (by omega)
  have hu3 := lebU_len (n := (c.sites.length : Int)) (by omega)
  have hu4 := lebU_len (n := (c.ins.length : Int)) (by omega)
  have hu5 := rowsTx_len hp3 (by omega) hz5
  have hu6 : (headBy c).length ≤ 33 := by rw [headBy, List.length_append, List.length_append]; omega
  refine WO_bldNew tys 5 rfl rfl (lt_of rfl) rfl rfl rfl (fun b => ?_)
  refine WO_le (Le.roNil 99) ?_
  iterate 2 (refine WO_norm rfl ?_)
  refine WO_nil ?_
  refine thenQ_n ?_
  refine W_seq ?_
  refine W_regionDm 15 mixed rfl (by kernel_rfl) (by kernel_rfl) ?_
  refine evQ ?_
  refine evQ ?_
  refine QL_convId (td := .int .i64) (k := .u64) rfl rfl (lt_of rfl) rfl (by kernel_rfl) (by kernel_rfl) rfl (wrapU64 (by omega) (by omega)) ?_
  refine QL_norm rfl ?_
  refine callBQ ?_
  refine ⟨_, putU_fun _ (by omega) (by omega), rfl, ?_⟩
  refine evQ ?_
  refine evQ ?_
  refine QL_convId (td := .int .i64) (k := .u64) rfl rfl (lt_of rfl) rfl (by kernel_rfl) (by kernel_rfl) rfl (wrapU64 (by omega) (by omega)) ?_
  refine callBQ ?_
  refine ⟨_, putU_fun _ (by omega) (by omega), rfl, ?_⟩
  refine QL_binW rfl rfl (lt_of rfl) rfl rfl rfl (binStrAdd (by (try simp only [List.length_append]); omega)) rfl ?_
  refine QL_norm rfl ?_
  refine evQ ?_
  refine evQ ?_
  refine evEQ ?_
  refine QL_convId (td := .int .i64) (k := .u64) rfl rfl (lt_of rfl) rfl (by kernel_rfl) (by kernel_rfl) rfl (wrapU64 (by omega) (by omega)) ?_
  refine callBQ ?_
  refine ⟨_, putU_fun _ (by omega) (by omega), rfl, ?_⟩
  refine QL_binW rfl rfl (lt_of rfl) rfl rfl rfl (binStrAdd (by (try simp only [List.length_append]); omega)) rfl ?_
  refine QL_norm rfl ?_
  refine QL_nil ?_
  refine WO_callP (rid := 99) [4] rfl rfl (lt_of rfl) rfl rfl (by repeat (first | exact ResP.done | refine ResP.pin0 1004 rfl ?_ | refine ResP.t ?_ | refine ResP.nil 1 ?_ | refine ResP.nil' ?_ | refine ResP.own ?_ | refine ResP.sl rfl rfl (by first | omega | (simp; omega)) ?_ | refine ResP.aggT (by repeat (first | exact ResP.done | refine ResP.t ?_)) ?_)) rfl (by repeat (first | exact trivial | refine ⟨rfl, rfl, ?_⟩)) (by decide) (writeString_fun b [] (headBy c) (by simp; omega)) rfl rfl rfl ?_
  refine WO_norm rfl ?_
  refine WO_nil ?_
  refine thenQ_n ?_
  iterate 2 (refine W_seq ?_)
  refine W_region ?_
  refine ev ?_
  refine ev ?_
  refine evE ?_
  refine ev ?_
  refine WO_nil ?_
  refine thenQ_n ?_
  refine W_block ?_
  refine W_loopK (α := Int × Tx) [1, 4, 43, 44] [1, 99] (fun (x : Int × Tx) => [(45, .t (.int (x.1)))]) (fun (x : Int × Tx) => [(4, .bld 75 5 b (x.2))]) (fun (x : Int × Tx) => 0 ≤ (x.1) ∧ (x.1) ≤ c.sites.length ∧ codeBy c = (x.2) ++ ((c.sites.drop (x.1).toNat).flatMap lebU ++ (lebU c.ins.length ++ (c.ins.flatMap insBy ++ rowsTx c.rows)))) (fun (x : Int × Tx) => Int.toNat (c.sites.length - (x.1))) (0, headBy c) ?_ ?_ ?_ (fun x hx => ?_)
  · repeat (first | exact Sub.nil' | refine Sub.cons' rfl ?_ )
  · repeat (first | exact SubM.nil' | refine SubM.cons' rfl ?_ )
  · exact ⟨by simp, by simp, rfl⟩
  obtain ⟨k, s⟩ := x
  obtain ⟨hk0, hk1, he⟩ := hx
  try dsimp only at hk0 hk1 he ⊢
  refine W_norm rfl ?_
  refine W_seq ?_
  refine W_region ?_
  refine ev ?_
  refine WO_nil ?_
  refine thenQ_n ?_
  refine W_seq ?_
  refine W_cond rfl (fun h4 => ?_) (fun h4 => ?_)
  ·
    try simp only [HS] at h4
    refine W_skip ?_
    refine thenQ_n ?_
    refine W_seq ?_
    refine W_block ?_
    refine W_seq ?_
    refine W_region ?_
    have hn := allIn_get hp2 (List.getElem_mem (l := c.sites) (n := k.toNat) (by omega))
    have hes := congrArg List.length he
    rw [flatT_at hk0 (by omega)] at hes
    simp only [List.length_append] at hes
    first | refine WO_idxT tys rfl rfl (lt_of rfl) rfl rfl rfl rfl rfl rfl rfl (by omega) _ (getT _ _ (by omega) (by omega)) ?_ | refine WO_idxS tys rfl rfl (lt_of rfl) rfl rfl rfl rfl rfl rfl rfl rfl (by omega) (by omega) ?_
    first | refine ev ?_ | refine WO_loadL tys rfl rfl (lt_of rfl) rfl rfl rfl rfl (getT _ _ (by omega) (by omega)) rfl ?_ | refine WO_loadL tys rfl rfl (lt_of rfl) rfl rfl rfl rfl (getT0 _ _ (by omega) (by omega)) rfl ?_
    refine ev ?_
    refine WO_nil ?_
    refine thenQ_n ?_
    refine W_region ?_
    refine ev ?_
    refine WO_convId (td := .int .i64) (k := .u64) rfl rfl (lt_of rfl) rfl (by kernel_rfl) (by kernel_rfl) rfl (wrapU64 (by omega) (by omega)) ?_
    refine callB ?_
    refine ⟨_, putU_fun _ (by omega) (by omega), rfl, ?_⟩
    refine WO_callP (rid := 99) [4] rfl rfl (lt_of rfl) rfl rfl (by repeat (first | exact ResP.done | refine ResP.pin0 1004 rfl ?_ | refine ResP.t ?_ | refine ResP.nil 1 ?_ | refine ResP.nil' ?_ | refine ResP.own ?_ | refine ResP.sl rfl rfl (by first | omega | (simp; omega)) ?_ | refine ResP.aggT (by repeat (first | exact ResP.done | refine ResP.t ?_)) ?_)) rfl (by repeat (first | exact trivial | refine ⟨rfl, rfl, ?_⟩)) (by decide) (writeString_fun b s _ (by omega)) rfl rfl rfl ?_
    refine WO_norm rfl ?_
    refine WO_nil ?_
    refine inBlk_n ?_
    refine thenQ_n ?_
    refine W_keep [1, 4, 6, 43, 44, 45, 46, 47, 48, 49, 50, 51] rfl ?_
    refine W_region ?_
    refine evI ?_
    refine ev ?_
    refine WO_nil ?_
    refine loopQ_n (_, _) (by (try dsimp only); repeat (first | exact Sub.nil' | refine Sub.cons' rfl ?_ )) (by (try dsimp only); repeat (first | exact SubM.nil' | refine SubM.cons' rfl ?_ )) ?_ ?_
    · try dsimp only
      refine ⟨by omega, by omega, ?_⟩
      rw [he, flatT_at hk0 (by omega)]
      simp only [List.append_assoc]
    · (show Int.toNat _ < Int.toNat _); omega
  try simp only [HS] at h4
  refine W_exit ?_
  refine thenQ_e ?_
  refine loopQ_e ?_
  refine inBlk_y ?_
  refine thenQ_n ?_
  refine W_seq ?_
  refine W_region ?_
  have hes := congrArg List.length he
  simp only [List.length_append] at hes
  refine ev ?_
  refine ev ?_
  refine evE ?_
  refine WO_convId (td := .int .i64) (k := .u64) rfl rfl (lt_of rfl) rfl (by kernel_rfl) (by kernel_rfl) rfl (wrapU64 (by omega) (by omega)) ?_
  refine callB ?_
  refine ⟨_, putU_fun _ (by omega) (by omega), rfl, ?_⟩
  refine WO_callP (rid := 99) [4] rfl rfl (lt_of rfl) rfl rfl (by repeat (first | exact ResP.done | refine ResP.pin0 1004 rfl ?_ | refine ResP.t ?_ | refine ResP.nil 1 ?_ | refine ResP.nil' ?_ | refine ResP.own ?_ | refine ResP.sl rfl rfl (by first | omega | (simp; omega)) ?_ | refine ResP.aggT (by repeat (first | exact ResP.done | refine ResP.t ?_)) ?_)) rfl (by repeat (first | exact trivial | refine ⟨rfl, rfl, ?_⟩)) (by decide) (writeString_fun b s (lebU c.ins.length) (by omega)) rfl rfl rfl ?_
  refine WO_norm rfl ?_
  refine WO_nil ?_
  refine thenQ_n ?_
  iterate 2 (refine W_seq ?_)
  refine W_keep [1, 4] rfl ?_
  refine W_region ?_
  refine ev ?_
  refine ev ?_
  refine evE ?_
  refine ev ?_
  refine WO_nil ?_
  refine thenQ_n ?_
  refine W_block ?_
  refine W_loopK (α := Int × Tx) [1, 4, 61, 62] [1, 99] (fun (x : Int × Tx) => [(63, .t (.int (x.1)))]) (fun (x : Int × Tx) => [(4, .bld 75 5 b (x.2))]) (fun (x : Int × Tx) => 0 ≤ (x.1) ∧ (x.1) ≤ c.ins.length ∧ codeBy c = (x.2) ++ ((c.ins.drop (x.1).toNat).flatMap insBy ++ rowsTx c.rows)) (fun (x : Int × Tx) => Int.toNat (c.ins.length - (x.1))) (0, s ++ lebU c.ins.length) ?_ ?_ ?_ (fun x hx => ?_)
  · repeat (first | exact Sub.nil' | refine Sub.cons' rfl ?_ )
  · repeat (first | exact SubM.nil' | refine SubM.cons' rfl ?_ )
  · refine ⟨by simp, by simp, ?_⟩
    rw [he, flatT_end (by omega)]
    simp
  obtain ⟨k, s⟩ := x
  obtain ⟨hk0, hk1, he⟩ := hx
  try dsimp only at hk0 hk1 he ⊢
  refine W_norm rfl ?_
  refine W_seq ?_
  refine W_region ?_
  refine ev ?_
  refine WO_nil ?_
  refine thenQ_n ?_
  refine W_seq ?_
  refine W_cond rfl (fun h5 => ?_) (fun h5 => ?_)
  ·
    try simp only [HS] at h5
    refine W_skip ?_
    refine thenQ_n ?_
    refine W_seq ?_
    refine W_block ?_
    refine W_seq ?_
    refine W_region ?_
    have hi := insB_w (hz6 _ (List.getElem_mem (l := c.ins) (n := k.toNat) (by omega)))
    have hes := congrArg List.length he
    rw [flatT_at hk0 (by omega), insBy] at hes
    simp only [List.length_append] at hes
    first | refine WO_idxT tys rfl rfl (lt_of rfl) rfl rfl rfl rfl rfl rfl rfl (by omega) _ (getT _ _ (by omega) (by omega)) ?_ | refine WO_idxS tys rfl rfl (lt_of rfl) rfl rfl rfl rfl rfl rfl rfl rfl (by omega) (by omega) ?_
    first | (refine ev ?_; try refine WO_le (Le.freeze (u := 66) rfl) ?_) | refine WO_loadL tys rfl rfl (lt_of rfl) rfl rfl rfl rfl (getT _ _ (by omega) (by omega)) rfl ?_ | refine WO_loadL tys rfl rfl (lt_of rfl) rfl rfl rfl rfl (getT0 _ _ (by omega) (by omega)) rfl ?_
    refine WO_norm rfl ?_
    refine WO_alloc tys rfl rfl (lt_of rfl) rfl rfl rfl ?_
    refine WO_norm rfl ?_
    refine WO_store tys rfl rfl rfl rfl rfl rfl rfl rfl (lt_of rfl) ?_
    refine WO_norm rfl ?_
    refine WO_nil ?_
    refine thenQ_n ?_
    refine W_seq ?_
    refine W_region ?_
    refine ev ?_
    refine ev ?_
    refine WO_convId (td := .int .i64) (k := .u64) rfl rfl (lt_of rfl) rfl (by kernel_rfl) (by kernel_rfl) rfl (wrapU64 (by omega) (by omega)) ?_
    refine callB ?_
    refine ⟨_, putU_fun _ (by omega) (by omega), rfl, ?_⟩
    refine WO_keep [1, 4, 8, 61, 62, 63, 64, 65, 66, 67, 68, 69, 70] rfl ?_
    refine WO_callP (rid := 99) [4] rfl rfl (lt_of rfl) rfl rfl (by repeat (first | exact ResP.done | refine ResP.pin0 1004 rfl ?_ | refine ResP.t ?_ | refine ResP.nil 1 ?_ | refine ResP.nil' ?_ | refine ResP.own ?_ | refine ResP.sl rfl rfl (by first | omega | (simp; omega)) ?_ | refine ResP.aggT (by repeat (first | exact ResP.done | refine ResP.t ?_)) ?_)) rfl (by repeat (first | exact trivial | refine ⟨rfl, rfl, ?_⟩)) (by decide) (writeString_fun b s _ (by omega)) rfl rfl rfl ?_
    refine WO_norm rfl ?_
    refine WO_nil ?_
    refine thenQ_n ?_
    refine W_seq ?_
    refine W_region ?_
    refine ev ?_
    refine ev ?_
    refine callB ?_
    refine ⟨_, hasNI_fun _, rfl, ?_⟩
    refine WO_nil ?_
    refine thenQ_n ?_
    refine W_cond rfl (fun h6 => ?_) (fun h6 => ?_)
    ·
      try simp only [HS] at h6
      refine W_region ?_
      refine ev ?_
      refine ev ?_
      refine callB ?_
      refine ⟨_, putS_fun _ (by omega) (by omega), rfl, ?_⟩
      refine WO_callP (rid := 99) [4] rfl rfl (lt_of rfl) rfl rfl (by repeat (first | exact ResP.done | refine ResP.pin0 1004 rfl ?_ | refine ResP.t ?_ | refine ResP.nil 1 ?_ | refine ResP.nil' ?_ | refine ResP.own ?_ | refine ResP.sl rfl rfl (by first | omega | (simp; omega)) ?_ | refine ResP.aggT (by repeat (first | exact ResP.done | refine ResP.t ?_)) ?_)) rfl (by repeat (first | exact trivial | refine ⟨rfl, rfl, ?_⟩)) (by decide) (writeString_fun b _ _ (by have hq := lebS_len (n := (c.ins[k.toNat]'(by omega)).n) (by omega) (by omega); rw [List.length_append]; omega)) rfl rfl rfl ?_
      refine WO_norm rfl ?_
      refine WO_nil ?_
      refine inBlk_n ?_
      refine thenQ_n ?_
      refine W_keep [1, 4, 8, 61, 62, 63, 64, 65, 66, 67, 68, 69, 70, 72, 73, 74, 75, 76, 77] rfl ?_
      refine W_region ?_
      refine evI ?_
      refine ev ?_
      refine WO_nil ?_
      refine loopQ_n (_, _) (by (try dsimp only); repeat (first | exact Sub.nil' | refine Sub.cons' rfl ?_ )) (by (try dsimp only); repeat (first | exact SubM.nil' | refine SubM.cons' rfl ?_ )) ?_ ?_
      · try dsimp only
        refine ⟨by omega, by omega, ?_⟩
        rw [he, flatT_at hk0 (by omega), insBy]
        simp_all
      · (show Int.toNat _ < Int.toNat _); omega
    try simp only [HS] at h6
    refine W_skip ?_
    refine inBlk_n ?_
    refine thenQ_n ?_
    refine W_region ?_
    refine evI ?_
    refine ev ?_
    refine WO_nil ?_
    refine loopQ_n (_, _) (by (try dsimp only); repeat (first | exact Sub.nil' | refine Sub.cons' rfl ?_ )) (by (try dsimp only); repeat (first | exact SubM.nil' | refine SubM.cons' rfl ?_ )) ?_ ?_
    · try dsimp only
      refine ⟨by omega, by omega, ?_⟩
      rw [he, flatT_at hk0 (by omega), insBy]
      simp_all
    · (show Int.toNat _ < Int.toNat _); omega
  try simp only [HS] at h5
  refine W_exit ?_
  refine thenQ_e ?_
  refine loopQ_e ?_
  refine inBlk_y ?_
  refine thenQ_n ?_
  refine W_seq ?_
  refine W_region ?_
  have hes := congrArg List.length he
  simp only [List.length_append] at hes
  have hes2 : codeBy c = s ++ rowsTx c.rows := by rw [he, flatT_end (by omega)]; simp
  have hes3 := congrArg List.length hes2
  have hes4 : (s ++ rowsTx c.rows).length = (codeBy c).length := hes3.symm
  refine ev ?_
  refine ev ?_
  refine callB ?_
  refine ⟨_, rowsBytes_fun c.rows c.ins.length hp3 (by omega) hz5, rfl, ?_⟩
  refine WO_callP (rid := 99) [4] rfl rfl (lt_of rfl) rfl rfl (by repeat (first | exact ResP.done | refine ResP.pin0 1004 rfl ?_ | refine ResP.t ?_ | refine ResP.nil 1 ?_ | refine ResP.nil' ?_ | refine ResP.own ?_ | refine ResP.sl rfl rfl (by first | omega | (simp; omega)) ?_ | refine ResP.aggT (by repeat (first | exact ResP.done | refine ResP.t ?_)) ?_)) rfl (by repeat (first | exact trivial | refine ⟨rfl, rfl, ?_⟩)) (by decide) (writeString_fun b s (rowsTx c.rows) (by omega)) rfl rfl rfl ?_
  refine WO_norm rfl ?_
  refine WO_nil ?_
  refine thenQ_n ?_
  iterate 2 (refine W_seq ?_)
  refine W_region ?_
  refine WO_callP (rid := 99) [4] rfl rfl (lt_of rfl) rfl rfl (by repeat (first | exact ResP.done | refine ResP.pin0 1004 rfl ?_ | refine ResP.t ?_ | refine ResP.nil 1 ?_ | refine ResP.nil' ?_ | refine ResP.own ?_ | refine ResP.sl rfl rfl (by first | omega | (simp; omega)) ?_ | refine ResP.aggT (by repeat (first | exact ResP.done | refine ResP.t ?_)) ?_)) rfl (by repeat (first | exact trivial | refine ⟨rfl, rfl, ?_⟩)) (by decide) (len_fun b (s ++ rowsTx c.rows)) rfl rfl rfl ?_
  refine WO_norm rfl ?_
  refine ev ?_
  refine WO_nil ?_
  refine thenQ_n ?_
  refine W_cond rfl (fun h6 => ?_) (fun h6 => ?_)
  ·
    try simp only [HS] at h6
    refine W_seq ?_
    refine W_keep [4] rfl ?_
    refine W_region ?_
    refine ev ?_
    refine ev ?_
    refine WO_nil ?_
    refine thenQ_n ?_
    refine W_ret ?_
    refine thenQ_r ?_
    refine Ends_of (.inr rfl) (ret_okF rfl) (by decide) rfl ?_
    · first
      | (refine retCB (a := ([], false)) (codeR_no1 ?_).symm; rw [← Bool.not_eq_true]; intro h9; obtain ⟨q1, q2, q3⟩ := putB_of h9; (try rw [any_not_all] at *); simp_all; done)
      | exact retCB (a := ([], false)) (codeR_no2 (by omega)).symm
      | (rw [← hes2]; exact retCB (a := (codeBy c, true)) (codeR_yes hp (by omega)).symm)
  try simp only [HS] at h6
  refine W_skip ?_
  refine thenQ_n ?_
  refine W_seq ?_
  refine W_keep [4] rfl ?_
  refine W_region ?_
  refine WO_callP (rid := 99) [4] rfl rfl (lt_of rfl) rfl rfl (by repeat (first | exact ResP.done | refine ResP.pin0 1004 rfl ?_ | refine ResP.t ?_ | refine ResP.nil 1 ?_ | refine ResP.nil' ?_ | refine ResP.own ?_ | refine ResP.sl rfl rfl (by first | omega | (simp; omega)) ?_ | refine ResP.aggT (by repeat (first | exact ResP.done | refine ResP.t ?_)) ?_)) rfl (by repeat (first | exact trivial | refine ⟨rfl, rfl, ?_⟩)) (by decide) (bldString_fun b (s ++ rowsTx c.rows)) rfl rfl rfl ?_
  refine WO_norm rfl ?_
  refine ev ?_
  refine ev ?_
  refine WO_nil ?_
  refine thenQ_n ?_
  refine W_ret ?_
  refine Ends_of (.inr rfl) (ret_okF rfl) (by decide) rfl ?_
  · first
    | (refine retCB (a := ([], false)) (codeR_no1 ?_).symm; rw [← Bool.not_eq_true]; intro h9; obtain ⟨q1, q2, q3⟩ := putB_of h9; (try rw [any_not_all] at *); simp_all; done)
    | exact retCB (a := ([], false)) (codeR_no2 (by omega)).symm
    | (rw [← hes2]; exact retCB (a := (codeBy c, true)) (codeR_yes hp (by omega)).symm)
open Go.Eng

def siteTx (n : Int) : Tx := [32] ++ Lib.itoa n
noncomputable def insLn (i : Ins) : Tx := insTx i ++ [10]
def rowLn (r : Row) : Tx := [114, 111, 119, 32] ++ Lib.itoa r.lo ++ [32] ++ Lib.itoa r.hi ++ [32] ++ Lib.itoa r.pad ++ [10]
def codeHd (c : Code) : Tx := [99, 111, 100, 101, 32] ++ Lib.itoa c.params ++ [32] ++ Lib.itoa c.vars
noncomputable def codeTx (c : Code) : Tx := codeHd c ++ (c.sites.flatMap siteTx ++ ([10] ++ (c.ins.flatMap insLn ++ c.rows.flatMap rowLn)))
theorem rowsGo_mem {many : Int} : ∀ {rows : List Row} {e : Int}, rowsGo many rows e = true → ∀ r, r ∈ rows → e ≤ r.lo ∧ r.lo < r.hi ∧ r.hi ≤ many ∧ 0 ≤ r.pad ∧ r.pad < many
  | [], e, h, r, hr => by cases hr
  | x :: l, e, h, r, hr => by
    rw [rowsGo] at h
    simp only [Bool.and_eq_true, decide_eq_true_eq] at h
    rcases List.mem_cons.1 hr with rfl | hr
    · exact ⟨h.1, h.2.1, h.2.2.1, h.2.2.2.1.1, h.2.2.2.1.2⟩
    · have := rowsGo_mem h.2.2.2.2 r hr
      omega
theorem insTx_len {i : Ins} (h : insB i = true) : (insTx i).length ≤ 29 := by
  have hw := insB_w h
  have h1 := wordI_len (op := i.op)
  have h2 := Lib.itoa_length_le i.n (by omega) (by omega)
  rw [insTx]
  split
  · simp only [List.length_append, List.length_cons, List.length_nil]; omega
  · omega
theorem codeTx_len {c : Code} (h : putB c = true) : (codeTx c).length ≤ 40000 := by
  obtain ⟨h1, h2, h3⟩ := putB_of h
  obtain ⟨b1, b2, b3, b4, b5, b6⟩ := sizedC_of h1
  have e1 := Lib.itoa_length_le c.params (by omega) (by omega)
  have e2 := Lib.itoa_length_le c.vars (by omega) (by omega)
  have e5 := flat_len (f := siteTx) (k := 22) (l := c.sites) (fun n hn => by
    have := allIn_get h2 hn
    have := Lib.itoa_length_le n (by omega) (by omega)
    rw [siteTx, List.length_append]; simp; omega)
  have e6 := flat_len (f := insLn) (k := 30) (l := c.ins) (fun n hn => by
    have := insTx_len (b6 n hn)
    rw [insLn, List.length_append]; simp; omega)
  have e7 := flat_len (f := rowLn) (k := 70) (l := c.rows) (fun r hr => by
    have := rowsGo_mem h3 r hr
    have g1 := Lib.itoa_length_le r.lo (by omega) (by omega)
    have g2 := Lib.itoa_length_le r.hi (by omega) (by omega)
    have g3 := Lib.itoa_length_le r.pad (by omega) (by omega)
    rw [rowLn]; simp only [List.length_append, List.length_cons, List.length_nil]; omega)
  rw [codeTx, codeHd]
  simp only [List.length_append, List.length_cons, List.length_nil]
  omega

theorem specInsText_fun (i : Ins) (h : insB i = true) : Fun Tryd.prog 35 [.t i.tt] (tupD [.t (T.str (insTx i)), .t (.bool true)]) := by
  have hw := insB_w h
  have hwl := wordI_len (op := i.op)
  have hil := Lib.itoa_length_le i.n (by omega) (by omega)
  have h19 : wordsL.length = 19 := rfl
  have hwi : (wordsL[i.op.toNat]'(by omega)) = wordI i.op := by unfold wordI; rw [List.getD_eq_getElem?_getD, List.getElem?_eq_getElem]; rfl
  refine Fun.begin tys Tryd.func35 rfl rfl (N := 25) [(0, .t i.tt)] rfl rfl (fun w0 G F0 => ?_)
  refine W_seq ?_
  refine W_region ?_
  refine WO_box rfl rfl (lt_of rfl) rfl rfl ?_
  refine WO_norm rfl ?_
  refine ev ?_
  refine ev ?_
  refine WO_nil ?_
  refine thenQ_n ?_
  iterate 2 (refine W_seq ?_)
  refine W_region ?_
  first | (refine ev ?_; try refine WO_le (Le.freeze (u := 4) rfl) ?_) | refine WO_loadMove tys rfl rfl (lt_of rfl) rfl rfl rfl rfl rfl rfl ?_
  refine WO_norm rfl ?_
  refine callB ?_
  refine ⟨_, l5Ins_fun _, rfl, ?_⟩
  refine ev ?_
  refine WO_le (Le.known (t := 6) false rfl (by simp [h])) ?_
  refine WO_nil ?_
  refine thenQ_n ?_
  refine W_condF rfl ?_
  refine W_skip ?_
  refine thenQ_n ?_
  iterate 2 (refine W_seq ?_)
  refine W_region ?_
  refine ev ?_
  refine ev ?_
  refine callB ?_
  refine ⟨_, hasN_fun _, rfl, ?_⟩
  refine WO_keep [1, 2, 3, 9] rfl ?_
  refine WO_nil ?_
  refine thenQ_n ?_
  refine W_cond rfl (fun h1 => ?_) (fun h1 => ?_)
  ·
    try simp only [HS] at h1
    refine W_seq ?_
    refine W_regionD mixed (by kernel_rfl) ?_
    refine QL_callF rfl rfl (lt_of rfl) rfl rfl rfl rfl rfl (Fun.frz l5Words_fun rfl) rfl ?_
    refine evQ ?_
    refine evQ ?_
    first | refine QL_idxT tys rfl rfl (lt_of rfl) rfl rfl rfl rfl rfl rfl rfl (by omega) _ (getT _ _ (by omega) (by omega)) ?_ | refine QL_idxS tys rfl rfl (lt_of rfl) rfl rfl rfl rfl rfl rfl rfl rfl (by omega) (by omega) ?_
    first | refine evQ ?_ | refine QL_loadL tys rfl rfl (lt_of rfl) rfl rfl rfl rfl (getT _ _ (by omega) (by omega)) rfl ?_ | refine QL_loadL tys rfl rfl (lt_of rfl) rfl rfl rfl rfl (getT0 _ _ (by omega) (by omega)) rfl ?_
    refine QL_binW rfl rfl (lt_of rfl) rfl rfl rfl (binStrAdd (by (try rw [hwi]); (try simp only [List.length_append, List.length_cons, List.length_nil]); omega)) rfl ?_
    refine QL_norm rfl ?_
    refine evQ ?_
    refine evQ ?_
    refine callBQ ?_
    refine ⟨_, l2Int_fun _ (by omega) (by omega), rfl, ?_⟩
    refine QL_binW rfl rfl (lt_of rfl) rfl rfl rfl (binStrAdd (by (try rw [hwi]); (try simp only [List.length_append, List.length_cons, List.length_nil]); omega)) rfl ?_
    refine evQ ?_
    refine evQ ?_
    refine QL_norm rfl ?_
    refine QL_nil ?_
    refine thenQ_n ?_
    refine W_ret ?_
    refine thenQ_r ?_
    refine Ends_of (.inr rfl) (ret_okF rfl) (by decide) rfl ?_
    · (rw [hwi]; simp_all [insTx])
  try simp only [HS] at h1
  refine W_skip ?_
  refine thenQ_n ?_
  refine W_seq ?_
  refine W_regionD mixed (by kernel_rfl) ?_
  refine QL_callF rfl rfl (lt_of rfl) rfl rfl rfl rfl rfl (Fun.frz l5Words_fun rfl) rfl ?_
  refine evQ ?_
  refine evQ ?_
  first | refine QL_idxT tys rfl rfl (lt_of rfl) rfl rfl rfl rfl rfl rfl rfl (by omega) _ (getT _ _ (by omega) (by omega)) ?_ | refine QL_idxS tys rfl rfl (lt_of rfl) rfl rfl rfl rfl rfl rfl rfl rfl (by omega) (by omega) ?_
  first | refine evQ ?_ | refine QL_loadL tys rfl rfl (lt_of rfl) rfl rfl rfl rfl (getT _ _ (by omega) (by omega)) rfl ?_ | refine QL_loadL tys rfl rfl (lt_of rfl) rfl rfl rfl rfl (getT0 _ _ (by omega) (by omega)) rfl ?_
  refine evQ ?_
  refine QL_norm rfl ?_
  refine evQ ?_
  refine QL_nil ?_
  refine thenQ_n ?_
  refine W_ret ?_
  refine Ends_of (.inr rfl) (ret_okF rfl) (by decide) rfl ?_
  · (rw [hwi]; simp_all [insTx])

theorem l19Text_fun (c : Code) (hp : putB c = true) : Fun Tryd.prog 17 [.t c.tt] (tupD [.t (T.str (codeTx c))]) := by
  have hlen := codeTx_len hp
  obtain ⟨hp1, hp2, hp3⟩ := putB_of hp
  obtain ⟨hz1, hz2, hz3, hz4, hz5, hz6⟩ := sizedC_of hp1
  have hu1 := Lib.itoa_length_le c.params (by omega) (by omega)
  have hu2 := Lib.itoa_length_le c.vars (by omega) (by omega)
  refine Fun.begin tys Tryd.func17 rfl rfl (N := 79) [(0, .t c.tt)] rfl rfl (fun w0 G F0 => ?_)
  refine W_seq ?_
  refine W_region ?_
  refine WO_box rfl rfl (lt_of rfl) rfl rfl ?_
  refine WO_norm rfl ?_
  refine ev ?_
  refine WO_nil ?_
  refine thenQ_n ?_
  refine W_seq ?_
  refine W_regionD mixed (by kernel_rfl) ?_
  refine evQ ?_
  refine evQ ?_
  refine callBQ ?_
  refine ⟨_, l1Num_fun _ (by omega) (by omega), rfl, ?_⟩
  refine QL_binW rfl rfl (lt_of rfl) rfl rfl rfl (binStrAdd (by (try simp only [List.length_append, List.length_cons, List.length_nil]); omega)) rfl ?_
  refine QL_norm rfl ?_
  refine QL_binW rfl rfl (lt_of rfl) rfl rfl rfl (binStrAdd (by (try simp only [List.length_append, List.length_cons, List.length_nil]); omega)) rfl ?_
  refine evQ ?_
  refine evQ ?_
  refine callBQ ?_
  refine ⟨_, l1Num_fun _ (by omega) (by omega), rfl, ?_⟩
  refine QL_binW rfl rfl (lt_of rfl) rfl rfl rfl (binStrAdd (by (try simp only [List.length_append, List.length_cons, List.length_nil]); omega)) rfl ?_
  refine evQ ?_
  refine QL_norm rfl ?_
  refine QL_nil ?_
  refine thenQ_n ?_
  iterate 2 (refine W_seq ?_)
  refine W_region ?_
  refine ev ?_
  refine ev ?_
  refine evE ?_
  refine ev ?_
  refine WO_nil ?_
  refine thenQ_n ?_
  refine W_block ?_
  refine W_loopK (α := Int × Tx) [1, 22, 23] [1] (fun (x : Int × Tx) => [(24, .t (.int (x.1))), (3, .t (T.str (x.2)))]) (fun (x : Int × Tx) => []) (fun (x : Int × Tx) => 0 ≤ (x.1) ∧ (x.1) ≤ c.sites.length ∧ codeTx c = (x.2) ++ ((c.sites.drop (x.1).toNat).flatMap siteTx ++ ([10] ++ (c.ins.flatMap insLn ++ c.rows.flatMap rowLn)))) (fun (x : Int × Tx) => Int.toNat (c.sites.length - (x.1))) (0, codeHd c) ?_ ?_ ?_ (fun x hx => ?_)
  · repeat (first | exact Sub.nil' | refine Sub.cons' rfl ?_ )
  · repeat (first | exact SubM.nil' | refine SubM.cons' rfl ?_ )
  · exact ⟨by simp, by simp, rfl⟩
  obtain ⟨k, s⟩ := x
  obtain ⟨hk0, hk1, he⟩ := hx
  try dsimp only at hk0 hk1 he ⊢
  refine W_norm rfl ?_
  refine W_seq ?_
  refine W_region ?_
  refine ev ?_
  refine WO_nil ?_
  refine thenQ_n ?_
  refine W_seq ?_
  refine W_cond rfl (fun h1 => ?_) (fun h1 => ?_)
  ·
    try simp only [HS] at h1
    refine W_skip ?_
    refine thenQ_n ?_
    refine W_seq ?_
    refine W_block ?_
    refine W_seq ?_
    refine W_region ?_
    have hn := allIn_get hp2 (List.getElem_mem (l := c.sites) (n := k.toNat) (by omega))
    have hq := Lib.itoa_length_le (c.sites[k.toNat]'(by omega)) (by omega) (by omega)
    have hes := congrArg List.length he
    rw [flatT_at hk0 (by omega), siteTx] at hes
    simp only [List.length_append, List.length_cons, List.length_nil] at hes
    first | refine WO_idxT tys rfl rfl (lt_of rfl) rfl rfl rfl rfl rfl rfl rfl (by omega) _ (getT _ _ (by omega) (by omega)) ?_ | refine WO_idxS tys rfl rfl (lt_of rfl) rfl rfl rfl rfl rfl rfl rfl rfl (by omega) (by omega) ?_
    first | refine ev ?_ | refine WO_loadL tys rfl rfl (lt_of rfl) rfl rfl rfl rfl (getT _ _ (by omega) (by omega)) rfl ?_ | refine WO_loadL tys rfl rfl (lt_of rfl) rfl rfl rfl rfl (getT0 _ _ (by omega) (by omega)) rfl ?_
    refine ev ?_
    refine WO_nil ?_
    refine thenQ_n ?_
    refine W_region ?_
    refine ev ?_
    refine ev ?_
    refine callB ?_
    refine ⟨_, l1Num_fun _ (by omega) (by omega), rfl, ?_⟩
    iterate 2 (refine WO_binW rfl rfl (lt_of rfl) rfl rfl rfl (binStrAdd (by (try simp only [List.length_append, List.length_cons, List.length_nil]); omega)) rfl ?_)
    refine WO_keep [1, 3, 5, 22, 23, 24, 25, 26, 27, 28, 29, 30, 31, 32] rfl ?_
    refine ev ?_
    refine WO_nil ?_
    refine inBlk_n ?_
    refine thenQ_n ?_
    refine W_region ?_
    refine evI ?_
    refine ev ?_
    refine WO_nil ?_
    refine loopQ_n (_, _) (by (try dsimp only); repeat (first | exact Sub.nil' | refine Sub.cons' rfl ?_ )) (by (try dsimp only); repeat (first | exact SubM.nil' | refine SubM.cons' rfl ?_ )) ?_ ?_
    · try dsimp only
      refine ⟨by omega, by omega, ?_⟩
      rw [he, flatT_at hk0 (by omega), siteTx]
      simp only [List.append_assoc]
    · (show Int.toNat _ < Int.toNat _); omega
  try simp only [HS] at h1
  refine W_exit ?_
  refine thenQ_e ?_
  refine loopQ_e ?_
  refine inBlk_y ?_
  refine thenQ_n ?_
  refine W_seq ?_
  refine W_region ?_
  have hes := congrArg List.length he
  simp only [List.length_append, List.length_cons, List.length_nil] at hes
  refine ev ?_
  refine WO_binW rfl rfl (lt_of rfl) rfl rfl rfl (binStrAdd (by (try simp only [List.length_append, List.length_cons, List.length_nil]); omega)) rfl ?_
  refine ev ?_
  refine WO_nil ?_
  refine thenQ_n ?_
  iterate 2 (refine W_seq ?_)
  refine W_region ?_
  refine ev ?_
  refine ev ?_
  refine evE ?_
  refine ev ?_
  refine WO_nil ?_
  refine thenQ_n ?_
  refine W_block ?_
  refine W_loopK (α := Int × Tx) [1, 37, 38] [1] (fun (x : Int × Tx) => [(39, .t (.int (x.1))), (3, .t (T.str (x.2)))]) (fun (x : Int × Tx) => []) (fun (x : Int × Tx) => 0 ≤ (x.1) ∧ (x.1) ≤ c.ins.length ∧ codeTx c = (x.2) ++ ((c.ins.drop (x.1).toNat).flatMap insLn ++ c.rows.flatMap rowLn)) (fun (x : Int × Tx) => Int.toNat (c.ins.length - (x.1))) (0, s ++ [10]) ?_ ?_ ?_ (fun x hx => ?_)
  · repeat (first | exact Sub.nil' | refine Sub.cons' rfl ?_ )
  · repeat (first | exact SubM.nil' | refine SubM.cons' rfl ?_ )
  · refine ⟨by simp, by simp, ?_⟩
    rw [he, flatT_end (by omega)]
    simp
  obtain ⟨k, s⟩ := x
  obtain ⟨hk0, hk1, he⟩ := hx
  try dsimp only at hk0 hk1 he ⊢
  refine W_norm rfl ?_
  refine W_seq ?_
  refine W_region ?_
  refine ev ?_
  refine WO_nil ?_
  refine thenQ_n ?_
  refine W_seq ?_
  refine W_cond rfl (fun h2 => ?_) (fun h2 => ?_)
  ·
    try simp only [HS] at h2
    refine W_skip ?_
    refine thenQ_n ?_
    refine W_seq ?_
    refine W_block ?_
    refine W_seq ?_
    refine W_region ?_
    have hi := hz6 _ (List.getElem_mem (l := c.ins) (n := k.toNat) (by omega))
    have hw := insB_w hi
    have hq := insTx_len hi
    have hes := congrArg List.length he
    rw [flatT_at hk0 (by omega), insLn] at hes
    simp only [List.length_append, List.length_cons, List.length_nil] at hes
    first | refine WO_idxT tys rfl rfl (lt_of rfl) rfl rfl rfl rfl rfl rfl rfl (by omega) _ (getT _ _ (by omega) (by omega)) ?_ | refine WO_idxS tys rfl rfl (lt_of rfl) rfl rfl rfl rfl rfl rfl rfl rfl (by omega) (by omega) ?_
    first | (refine ev ?_; try refine WO_le (Le.freeze (u := 42) rfl) ?_) | refine WO_loadL tys rfl rfl (lt_of rfl) rfl rfl rfl rfl (getT _ _ (by omega) (by omega)) rfl ?_ | refine WO_loadL tys rfl rfl (lt_of rfl) rfl rfl rfl rfl (getT0 _ _ (by omega) (by omega)) rfl ?_
    refine WO_norm rfl ?_
    refine WO_alloc tys rfl rfl (lt_of rfl) rfl rfl rfl ?_
    refine WO_norm rfl ?_
    refine WO_store tys rfl rfl rfl rfl rfl rfl rfl rfl (lt_of rfl) ?_
    refine WO_norm rfl ?_
    refine WO_nil ?_
    refine thenQ_n ?_
    refine W_seq ?_
    refine W_region ?_
    first | (refine ev ?_; try refine WO_le (Le.freeze (u := 44) rfl) ?_) | refine WO_loadMove tys rfl rfl (lt_of rfl) rfl rfl rfl rfl rfl rfl ?_
    refine WO_norm rfl ?_
    refine callB ?_
    refine ⟨_, specInsText_fun _ hi, rfl, ?_⟩
    refine ev ?_
    first | refine WO_evF tys rfl rfl (lt_of rfl) (d := .t _) rfl ?_ | (refine WO_extract rfl rfl (lt_of rfl) rfl rfl rfl rfl ?_; first | refine WO_le (Le.adoptE (u := 46) 46 rfl (by first | exact lenN | exact rfl)) ?_ | skip)
    refine WO_norm rfl ?_
    refine WO_keep [1, 3, 7, 37, 38, 39, 40, 41, 42, 43, 44, 45, 46] rfl ?_
    first | refine WO_evF tys rfl rfl (lt_of rfl) (d := .t _) rfl ?_ | (refine WO_extract rfl rfl (lt_of rfl) rfl rfl rfl rfl ?_; first | refine WO_le (Le.adoptE (u := 47) 47 rfl (by first | exact lenN | exact rfl)) ?_ | skip)
    refine WO_norm rfl ?_
    refine ev ?_
    refine ev ?_
    refine WO_nil ?_
    refine thenQ_n ?_
    refine W_region ?_
    refine ev ?_
    refine ev ?_
    iterate 2 (refine WO_binW rfl rfl (lt_of rfl) rfl rfl rfl (binStrAdd (by (try simp only [List.length_append, List.length_cons, List.length_nil]); omega)) rfl ?_)
    refine ev ?_
    refine WO_nil ?_
    refine inBlk_n ?_
    refine thenQ_n ?_
    refine W_keep [1, 3, 7, 8, 37, 38, 39, 40, 41, 42, 43, 44, 45, 46, 47, 48, 49, 50, 51] rfl ?_
    refine W_region ?_
    refine evI ?_
    refine ev ?_
    refine WO_nil ?_
    refine loopQ_n (_, _) (by (try dsimp only); repeat (first | exact Sub.nil' | refine Sub.cons' rfl ?_ )) (by (try dsimp only); repeat (first | exact SubM.nil' | refine SubM.cons' rfl ?_ )) ?_ ?_
    · try dsimp only
      refine ⟨by omega, by omega, ?_⟩
      rw [he, flatT_at hk0 (by omega), insLn]
      simp only [List.append_assoc]
    · (show Int.toNat _ < Int.toNat _); omega
  try simp only [HS] at h2
  refine W_exit ?_
  refine thenQ_e ?_
  refine loopQ_e ?_
  refine inBlk_y ?_
  refine thenQ_n ?_
  iterate 2 (refine W_seq ?_)
  refine W_region ?_
  refine ev ?_
  refine ev ?_
  refine evE ?_
  refine ev ?_
  refine WO_nil ?_
  refine thenQ_n ?_
  refine W_block ?_
  refine W_loopK (α := Int × Tx) [1, 54, 55] [1] (fun (x : Int × Tx) => [(56, .t (.int (x.1))), (3, .t (T.str (x.2)))]) (fun (x : Int × Tx) => []) (fun (x : Int × Tx) => 0 ≤ (x.1) ∧ (x.1) ≤ c.rows.length ∧ codeTx c = (x.2) ++ (c.rows.drop (x.1).toNat).flatMap rowLn) (fun (x : Int × Tx) => Int.toNat (c.rows.length - (x.1))) (0, s) ?_ ?_ ?_ (fun x hx => ?_)
  · repeat (first | exact Sub.nil' | refine Sub.cons' rfl ?_ )
  · repeat (first | exact SubM.nil' | refine SubM.cons' rfl ?_ )
  · refine ⟨by simp, by simp, ?_⟩
    rw [he, flatT_end (by omega)]
    simp
  obtain ⟨k, s⟩ := x
  obtain ⟨hk0, hk1, he⟩ := hx
  try dsimp only at hk0 hk1 he ⊢
  refine W_norm rfl ?_
  refine W_seq ?_
  refine W_region ?_
  refine ev ?_
  refine WO_nil ?_
  refine thenQ_n ?_
  refine W_seq ?_
  refine W_cond rfl (fun h3 => ?_) (fun h3 => ?_)
  ·
    try simp only [HS] at h3
    refine W_skip ?_
    refine thenQ_n ?_
    refine W_seq ?_
    refine W_block ?_
    refine W_seq ?_
    refine W_region ?_
    have hn := rowsGo_mem hp3 _ (List.getElem_mem (l := c.rows) (n := k.toNat) (by omega))
    have hq1 := Lib.itoa_length_le (c.rows[k.toNat]'(by omega)).lo (by omega) (by omega)
    have hq2 := Lib.itoa_length_le (c.rows[k.toNat]'(by omega)).hi (by omega) (by omega)
    have hq3 := Lib.itoa_length_le (c.rows[k.toNat]'(by omega)).pad (by omega) (by omega)
    have hes := congrArg List.length he
    rw [flatT_at hk0 (by omega), rowLn] at hes
    simp only [List.length_append, List.length_cons, List.length_nil] at hes
    first | refine WO_idxT tys rfl rfl (lt_of rfl) rfl rfl rfl rfl rfl rfl rfl (by omega) _ (getT _ _ (by omega) (by omega)) ?_ | refine WO_idxS tys rfl rfl (lt_of rfl) rfl rfl rfl rfl rfl rfl rfl rfl (by omega) (by omega) ?_
    first | (refine ev ?_; try refine WO_le (Le.freeze (u := 59) rfl) ?_) | refine WO_loadL tys rfl rfl (lt_of rfl) rfl rfl rfl rfl (getT _ _ (by omega) (by omega)) rfl ?_ | refine WO_loadL tys rfl rfl (lt_of rfl) rfl rfl rfl rfl (getT0 _ _ (by omega) (by omega)) rfl ?_
    refine WO_norm rfl ?_
    refine WO_alloc tys rfl rfl (lt_of rfl) rfl rfl rfl ?_
    refine WO_norm rfl ?_
    refine WO_store tys rfl rfl rfl rfl rfl rfl rfl rfl (lt_of rfl) ?_
    refine WO_norm rfl ?_
    refine WO_nil ?_
    refine thenQ_n ?_
    refine W_regionD mixed (by kernel_rfl) ?_
    refine evQ ?_
    refine QL_norm rfl ?_
    refine evQ ?_
    refine evQ ?_
    refine callBQ ?_
    refine ⟨_, l1Num_fun _ (by omega) (by omega), rfl, ?_⟩
    iterate 2 (refine QL_binW rfl rfl (lt_of rfl) rfl rfl rfl (binStrAdd (by (try simp only [List.length_append, List.length_cons, List.length_nil]); omega)) rfl ?_)
    refine evQ ?_
    refine QL_norm rfl ?_
    refine evQ ?_
    refine callBQ ?_
    refine ⟨_, l1Num_fun _ (by omega) (by omega), rfl, ?_⟩
    iterate 2 (refine QL_binW rfl rfl (lt_of rfl) rfl rfl rfl (binStrAdd (by (try simp only [List.length_append, List.length_cons, List.length_nil]); omega)) rfl ?_)
    refine evQ ?_
    refine evQ ?_
    refine QL_norm rfl ?_
    refine callBQ ?_
    refine ⟨_, l1Num_fun _ (by omega) (by omega), rfl, ?_⟩
    iterate 3 (refine QL_binW rfl rfl (lt_of rfl) rfl rfl rfl (binStrAdd (by (try simp only [List.length_append, List.length_cons, List.length_nil]); omega)) rfl ?_)
    refine evQ ?_
    refine QL_nil ?_
    refine inBlk_n ?_
    refine thenQ_n ?_
    refine W_region ?_
    refine evI ?_
    refine ev ?_
    refine WO_nil ?_
    refine loopQ_n (_, _) (by (try dsimp only); repeat (first | exact Sub.nil' | refine Sub.cons' rfl ?_ )) (by (try dsimp only); repeat (first | exact SubM.nil' | refine SubM.cons' rfl ?_ )) ?_ ?_
    · try dsimp only
      refine ⟨by omega, by omega, ?_⟩
      rw [he, flatT_at hk0 (by omega), rowLn]
      simp only [List.append_assoc]
    · (show Int.toNat _ < Int.toNat _); omega
  try simp only [HS] at h3
  refine W_exit ?_
  refine thenQ_e ?_
  refine loopQ_e ?_
  refine inBlk_y ?_
  refine thenQ_n ?_
  refine W_seq ?_
  refine W_region ?_
  refine ev ?_
  refine ev ?_
  refine WO_nil ?_
  refine thenQ_n ?_
  refine W_ret ?_
  refine Ends_of (.inr rfl) (ret_okF rfl) (by decide) rfl ?_
  · rw [he, flatT_end (by omega)]; simp

theorem codeText_fun (c : Code) (hp : putB c = true) : FunL Tryd.prog LadC 22 [.t c.tt] (tupD [.t (T.str (codeTx c))]) := by
  have hlen := codeTx_len hp
  obtain ⟨hp1, hp2, hp3⟩ := putB_of hp
  obtain ⟨hz1, hz2, hz3, hz4, hz5, hz6⟩ := sizedC_of hp1
  have hu1 := Lib.itoa_length_le c.params (by omega) (by omega)
  have hu2 := Lib.itoa_length_le c.vars (by omega) (by omega)
  refine FunL.begin LadCS tys Tryd.func22 rfl rfl (N := 70) [(0, .t c.tt)] rfl rfl (fun w0 G F0 hL => ?_)
  refine W_seq ?_
  refine W_region ?_
  refine WO_box rfl rfl (lt_of rfl) rfl rfl ?_
  refine WO_norm rfl ?_
  refine ev ?_
  refine WO_nil ?_
  refine thenQ_n ?_
  refine W_seq ?_
  refine W_region ?_
  refine WO_bldNew tys 5 rfl rfl (lt_of rfl) rfl rfl rfl (fun b => ?_)
  refine WO_le (Le.roNil 99) ?_
  iterate 2 (refine WO_norm rfl ?_)
  refine WO_nil ?_
  refine thenQ_n ?_
  refine W_seq ?_
  refine W_regionDm 9 mixed rfl (by kernel_rfl) (by kernel_rfl) ?_
  refine evQ ?_
  refine evQ ?_
  refine callLBQ hL ?_
  refine ⟨_, itoaC_fun _ (by omega) (by omega), rfl, ?_⟩
  refine QL_norm rfl ?_
  iterate 2 (refine QL_binW rfl rfl (lt_of rfl) rfl rfl rfl (binStrAdd (by (try simp only [List.length_append, List.length_cons, List.length_nil]); omega)) rfl ?_)
  refine evQ ?_
  refine evQ ?_
  refine callLBQ hL ?_
  refine ⟨_, itoaC_fun _ (by omega) (by omega), rfl, ?_⟩
  refine QL_binW rfl rfl (lt_of rfl) rfl rfl rfl (binStrAdd (by (try simp only [List.length_append, List.length_cons, List.length_nil]); omega)) rfl ?_
  refine QL_norm rfl ?_
  refine QL_nil ?_
  refine WO_callP (rid := 99) [3] rfl rfl (lt_of rfl) rfl rfl (by repeat (first | exact ResP.done | refine ResP.pin0 1003 rfl ?_ | refine ResP.t ?_ | refine ResP.nil 1 ?_ | refine ResP.nil' ?_ | refine ResP.own ?_ | refine ResP.sl rfl rfl (by first | omega | (simp; omega)) ?_ | refine ResP.aggT (by repeat (first | exact ResP.done | refine ResP.t ?_)) ?_)) rfl (by repeat (first | exact trivial | refine ⟨rfl, rfl, ?_⟩)) (by decide) (writeString_fun b [] (codeHd c) (by rw [codeHd]; simp only [List.length_append, List.length_cons, List.length_nil]; omega)) rfl rfl rfl ?_
  refine WO_norm rfl ?_
  refine WO_nil ?_
  refine thenQ_n ?_
  iterate 2 (refine W_seq ?_)
  refine W_region ?_
  refine ev ?_
  refine ev ?_
  refine evE ?_
  refine ev ?_
  refine WO_nil ?_
  refine thenQ_n ?_
  refine W_block ?_
  refine W_loopK (α := Int × Tx) [1, 3, 21, 22] [1, 99] (fun (x : Int × Tx) => [(23, .t (.int (x.1)))]) (fun (x : Int × Tx) => [(3, .bld 75 5 b (x.2))]) (fun (x : Int × Tx) => 0 ≤ (x.1) ∧ (x.1) ≤ c.sites.length ∧ codeTx c = (x.2) ++ ((c.sites.drop (x.1).toNat).flatMap siteTx ++ ([10] ++ (c.ins.flatMap insLn ++ c.rows.flatMap rowLn)))) (fun (x : Int × Tx) => Int.toNat (c.sites.length - (x.1))) (0, codeHd c) ?_ ?_ ?_ (fun x hx => ?_)
  · repeat (first | exact Sub.nil' | refine Sub.cons' rfl ?_ )
  · repeat (first | exact SubM.nil' | refine SubM.cons' rfl ?_ )
  · exact ⟨by simp, by simp, rfl⟩
  obtain ⟨k, s⟩ := x
  obtain ⟨hk0, hk1, he⟩ := hx
  try dsimp only at hk0 hk1 he ⊢
  refine W_norm rfl ?_
  refine W_seq ?_
  refine W_region ?_
  refine ev ?_
  refine WO_nil ?_
  refine thenQ_n ?_
  refine W_seq ?_
  refine W_cond rfl (fun h1 => ?_) (fun h1 => ?_)
  ·
    try simp only [HS] at h1
    refine W_skip ?_
    refine thenQ_n ?_
    refine W_seq ?_
    refine W_block ?_
    refine W_seq ?_
    refine W_region ?_
    have hn := allIn_get hp2 (List.getElem_mem (l := c.sites) (n := k.toNat) (by omega))
    have hq := Lib.itoa_length_le (c.sites[k.toNat]'(by omega)) (by omega) (by omega)
    have hes := congrArg List.length he
    rw [flatT_at hk0 (by omega), siteTx] at hes
    simp only [List.length_append, List.length_cons, List.length_nil] at hes
    first | refine WO_idxT tys rfl rfl (lt_of rfl) rfl rfl rfl rfl rfl rfl rfl (by omega) _ (getT _ _ (by omega) (by omega)) ?_ | refine WO_idxS tys rfl rfl (lt_of rfl) rfl rfl rfl rfl rfl rfl rfl rfl (by omega) (by omega) ?_
    first | refine ev ?_ | refine WO_loadL tys rfl rfl (lt_of rfl) rfl rfl rfl rfl (getT _ _ (by omega) (by omega)) rfl ?_ | refine WO_loadL tys rfl rfl (lt_of rfl) rfl rfl rfl rfl (getT0 _ _ (by omega) (by omega)) rfl ?_
    refine ev ?_
    refine WO_nil ?_
    refine thenQ_n ?_
    refine W_region ?_
    refine ev ?_
    refine callLB hL ?_
    refine ⟨_, itoaC_fun _ (by omega) (by omega), rfl, ?_⟩
    refine WO_norm rfl ?_
    refine WO_binW rfl rfl (lt_of rfl) rfl rfl rfl (binStrAdd (by (try simp only [List.length_append, List.length_cons, List.length_nil]); omega)) rfl ?_
    refine WO_callP (rid := 99) [3] rfl rfl (lt_of rfl) rfl rfl (by repeat (first | exact ResP.done | refine ResP.pin0 1003 rfl ?_ | refine ResP.t ?_ | refine ResP.nil 1 ?_ | refine ResP.nil' ?_ | refine ResP.own ?_ | refine ResP.sl rfl rfl (by first | omega | (simp; omega)) ?_ | refine ResP.aggT (by repeat (first | exact ResP.done | refine ResP.t ?_)) ?_)) rfl (by repeat (first | exact trivial | refine ⟨rfl, rfl, ?_⟩)) (by decide) (writeString_fun b s _ (by (try simp only [List.length_append, List.length_cons, List.length_nil]); omega)) rfl rfl rfl ?_
    refine WO_norm rfl ?_
    refine WO_nil ?_
    refine inBlk_n ?_
    refine thenQ_n ?_
    refine W_keep [1, 3, 5, 21, 22, 23, 24, 25, 26, 27, 28, 29] rfl ?_
    refine W_region ?_
    refine evI ?_
    refine ev ?_
    refine WO_nil ?_
    refine loopQ_n (_, _) (by (try dsimp only); repeat (first | exact Sub.nil' | refine Sub.cons' rfl ?_ )) (by (try dsimp only); repeat (first | exact SubM.nil' | refine SubM.cons' rfl ?_ )) ?_ ?_
    · try dsimp only
      refine ⟨by omega, by omega, ?_⟩
      rw [he, flatT_at hk0 (by omega), siteTx]
      simp only [List.append_assoc]
    · (show Int.toNat _ < Int.toNat _); omega
  try simp only [HS] at h1
  refine W_exit ?_
  refine thenQ_e ?_
  refine loopQ_e ?_
  refine inBlk_y ?_
  refine thenQ_n ?_
  refine W_seq ?_
  refine W_region ?_
  have hes := congrArg List.length he
  simp only [List.length_append, List.length_cons, List.length_nil] at hes
  refine WO_callP (rid := 99) [3] rfl rfl (lt_of rfl) rfl rfl (by repeat (first | exact ResP.done | refine ResP.pin0 1003 rfl ?_ | refine ResP.t ?_ | refine ResP.nil 1 ?_ | refine ResP.nil' ?_ | refine ResP.own ?_ | refine ResP.sl rfl rfl (by first | omega | (simp; omega)) ?_ | refine ResP.aggT (by repeat (first | exact ResP.done | refine ResP.t ?_)) ?_)) rfl (by repeat (first | exact trivial | refine ⟨rfl, rfl, ?_⟩)) (by decide) (writeByte_fun b s 10 (by omega)) rfl rfl rfl ?_
  refine WO_norm rfl ?_
  refine WO_nil ?_
  refine thenQ_n ?_
  iterate 2 (refine W_seq ?_)
  refine W_region ?_
  refine ev ?_
  refine ev ?_
  refine evE ?_
  refine ev ?_
  refine WO_nil ?_
  refine thenQ_n ?_
  refine W_block ?_
  refine W_loopK (α := Int × Tx) [1, 3, 34, 35] [1, 99] (fun (x : Int × Tx) => [(36, .t (.int (x.1)))]) (fun (x : Int × Tx) => [(3, .bld 75 5 b (x.2))]) (fun (x : Int × Tx) => 0 ≤ (x.1) ∧ (x.1) ≤ c.ins.length ∧ codeTx c = (x.2) ++ ((c.ins.drop (x.1).toNat).flatMap insLn ++ c.rows.flatMap rowLn)) (fun (x : Int × Tx) => Int.toNat (c.ins.length - (x.1))) (0, s ++ [10]) ?_ ?_ ?_ (fun x hx => ?_)
  · repeat (first | exact Sub.nil' | refine Sub.cons' rfl ?_ )
  · repeat (first | exact SubM.nil' | refine SubM.cons' rfl ?_ )
  · refine ⟨by simp, by simp, ?_⟩
    rw [he, flatT_end (by omega)]
    simp
  obtain ⟨k, s⟩ := x
  obtain ⟨hk0, hk1, he⟩ := hx
  try dsimp only at hk0 hk1 he ⊢
  refine W_norm rfl ?_
  refine W_seq ?_
  refine W_region ?_
  refine ev ?_
  refine WO_nil ?_
  refine thenQ_n ?_
  refine W_seq ?_
  refine W_cond rfl (fun h2 => ?_) (fun h2 => ?_)
  ·
    try simp only [HS] at h2
    refine W_skip ?_
    refine thenQ_n ?_
    refine W_seq ?_
    refine W_block ?_
    refine W_seq ?_
    refine W_region ?_
    have hi := hz6 _ (List.getElem_mem (l := c.ins) (n := k.toNat) (by omega))
    have hw := insB_w hi
    have hq := insTx_len hi
    have hes := congrArg List.length he
    rw [flatT_at hk0 (by omega), insLn] at hes
    simp only [List.length_append, List.length_cons, List.length_nil] at hes
    first | refine WO_idxT tys rfl rfl (lt_of rfl) rfl rfl rfl rfl rfl rfl rfl (by omega) _ (getT _ _ (by omega) (by omega)) ?_ | refine WO_idxS tys rfl rfl (lt_of rfl) rfl rfl rfl rfl rfl rfl rfl rfl (by omega) (by omega) ?_
    first | (refine ev ?_; try refine WO_le (Le.freeze (u := 39) rfl) ?_) | refine WO_loadL tys rfl rfl (lt_of rfl) rfl rfl rfl rfl (getT _ _ (by omega) (by omega)) rfl ?_ | refine WO_loadL tys rfl rfl (lt_of rfl) rfl rfl rfl rfl (getT0 _ _ (by omega) (by omega)) rfl ?_
    refine WO_norm rfl ?_
    refine WO_alloc tys rfl rfl (lt_of rfl) rfl rfl rfl ?_
    refine WO_norm rfl ?_
    refine WO_store tys rfl rfl rfl rfl rfl rfl rfl rfl (lt_of rfl) ?_
    refine WO_norm rfl ?_
    refine WO_nil ?_
    refine thenQ_n ?_
    refine W_region ?_
    first | (refine ev ?_; try refine WO_le (Le.freeze (u := 40) rfl) ?_) | refine WO_loadMove tys rfl rfl (lt_of rfl) rfl rfl rfl rfl rfl rfl ?_
    refine WO_norm rfl ?_
    refine callLB hL ?_
    refine ⟨_, insTextC_fun _ (by omega) (by omega) (by omega) (by omega), rfl, ?_⟩
    refine WO_norm rfl ?_
    refine WO_binW rfl rfl (lt_of rfl) rfl rfl rfl (binStrAdd (by (try simp only [List.length_append, List.length_cons, List.length_nil]); omega)) rfl ?_
    refine WO_callP (rid := 99) [3] rfl rfl (lt_of rfl) rfl rfl (by repeat (first | exact ResP.done | refine ResP.pin0 1003 rfl ?_ | refine ResP.t ?_ | refine ResP.nil 1 ?_ | refine ResP.nil' ?_ | refine ResP.own ?_ | refine ResP.sl rfl rfl (by first | omega | (simp; omega)) ?_ | refine ResP.aggT (by repeat (first | exact ResP.done | refine ResP.t ?_)) ?_)) rfl (by repeat (first | exact trivial | refine ⟨rfl, rfl, ?_⟩)) (by decide) (writeString_fun b s _ (by (try simp only [List.length_append, List.length_cons, List.length_nil]); omega)) rfl rfl rfl ?_
    refine WO_norm rfl ?_
    refine WO_keep [1, 3, 7, 34, 35, 36, 37, 38, 39, 40, 41, 42] rfl ?_
    refine WO_nil ?_
    refine inBlk_n ?_
    refine thenQ_n ?_
    refine W_region ?_
    refine evI ?_
    refine ev ?_
    refine WO_nil ?_
    refine loopQ_n (_, _) (by (try dsimp only); repeat (first | exact Sub.nil' | refine Sub.cons' rfl ?_ )) (by (try dsimp only); repeat (first | exact SubM.nil' | refine SubM.cons' rfl ?_ )) ?_ ?_
    · try dsimp only
      refine ⟨by omega, by omega, ?_⟩
      rw [he, flatT_at hk0 (by omega), insLn]
      simp only [List.append_assoc]
    · (show Int.toNat _ < Int.toNat _); omega
  try simp only [HS] at h2
  refine W_exit ?_
  refine thenQ_e ?_
  refine loopQ_e ?_
  refine inBlk_y ?_
  refine thenQ_n ?_
  iterate 2 (refine W_seq ?_)
  refine W_region ?_
  refine ev ?_
  refine ev ?_
  refine evE ?_
  refine ev ?_
  refine WO_nil ?_
  refine thenQ_n ?_
  refine W_block ?_
  refine W_loopK (α := Int × Tx) [1, 3, 46, 47] [1, 99] (fun (x : Int × Tx) => [(48, .t (.int (x.1)))]) (fun (x : Int × Tx) => [(3, .bld 75 5 b (x.2))]) (fun (x : Int × Tx) => 0 ≤ (x.1) ∧ (x.1) ≤ c.rows.length ∧ codeTx c = (x.2) ++ (c.rows.drop (x.1).toNat).flatMap rowLn) (fun (x : Int × Tx) => Int.toNat (c.rows.length - (x.1))) (0, s) ?_ ?_ ?_ (fun x hx => ?_)
  · repeat (first | exact Sub.nil' | refine Sub.cons' rfl ?_ )
  · repeat (first | exact SubM.nil' | refine SubM.cons' rfl ?_ )
  · refine ⟨by simp, by simp, ?_⟩
    rw [he, flatT_end (by omega)]
    simp
  obtain ⟨k, s⟩ := x
  obtain ⟨hk0, hk1, he⟩ := hx
  try dsimp only at hk0 hk1 he ⊢
  refine W_norm rfl ?_
  refine W_seq ?_
  refine W_region ?_
  refine ev ?_
  refine WO_nil ?_
  refine thenQ_n ?_
  refine W_seq ?_
  refine W_cond rfl (fun h3 => ?_) (fun h3 => ?_)
  ·
    try simp only [HS] at h3
    refine W_skip ?_
    refine thenQ_n ?_
    refine W_seq ?_
    refine W_block ?_
    refine W_seq ?_
    refine W_region ?_
    have hn := rowsGo_mem hp3 _ (List.getElem_mem (l := c.rows) (n := k.toNat) (by omega))
    have hq1 := Lib.itoa_length_le (c.rows[k.toNat]'(by omega)).lo (by omega) (by omega)
    have hq2 := Lib.itoa_length_le (c.rows[k.toNat]'(by omega)).hi (by omega) (by omega)
    have hq3 := Lib.itoa_length_le (c.rows[k.toNat]'(by omega)).pad (by omega) (by omega)
    have hes := congrArg List.length he
    rw [flatT_at hk0 (by omega), rowLn] at hes
    simp only [List.length_append, List.length_cons, List.length_nil] at hes
    first | refine WO_idxT tys rfl rfl (lt_of rfl) rfl rfl rfl rfl rfl rfl rfl (by omega) _ (getT _ _ (by omega) (by omega)) ?_ | refine WO_idxS tys rfl rfl (lt_of rfl) rfl rfl rfl rfl rfl rfl rfl rfl (by omega) (by omega) ?_
    first | (refine ev ?_; try refine WO_le (Le.freeze (u := 51) rfl) ?_) | refine WO_loadL tys rfl rfl (lt_of rfl) rfl rfl rfl rfl (getT _ _ (by omega) (by omega)) rfl ?_ | refine WO_loadL tys rfl rfl (lt_of rfl) rfl rfl rfl rfl (getT0 _ _ (by omega) (by omega)) rfl ?_
    refine WO_norm rfl ?_
    refine WO_alloc tys rfl rfl (lt_of rfl) rfl rfl rfl ?_
    refine WO_norm rfl ?_
    refine WO_store tys rfl rfl rfl rfl rfl rfl rfl rfl (lt_of rfl) ?_
    refine WO_norm rfl ?_
    refine WO_nil ?_
    refine thenQ_n ?_
    refine W_regionDm 15 mixed rfl (by kernel_rfl) (by kernel_rfl) ?_
    refine evQ ?_
    refine QL_norm rfl ?_
    refine evQ ?_
    refine callLBQ hL ?_
    refine ⟨_, itoaC_fun _ (by omega) (by omega), rfl, ?_⟩
    iterate 2 (refine QL_binW rfl rfl (lt_of rfl) rfl rfl rfl (binStrAdd (by (try simp only [List.length_append, List.length_cons, List.length_nil]); omega)) rfl ?_)
    refine evQ ?_
    refine evQ ?_
    refine QL_norm rfl ?_
    refine callLBQ hL ?_
    refine ⟨_, itoaC_fun _ (by omega) (by omega), rfl, ?_⟩
    iterate 2 (refine QL_binW rfl rfl (lt_of rfl) rfl rfl rfl (binStrAdd (by (try simp only [List.length_append, List.length_cons, List.length_nil]); omega)) rfl ?_)
    refine evQ ?_
    refine evQ ?_
    refine callLBQ hL ?_
    refine ⟨_, itoaC_fun _ (by omega) (by omega), rfl, ?_⟩
    refine QL_norm rfl ?_
    iterate 2 (refine QL_binW rfl rfl (lt_of rfl) rfl rfl rfl (binStrAdd (by (try simp only [List.length_append, List.length_cons, List.length_nil]); omega)) rfl ?_)
    refine QL_nil ?_
    refine WO_callP (rid := 99) [3] rfl rfl (lt_of rfl) rfl rfl (by repeat (first | exact ResP.done | refine ResP.pin0 1003 rfl ?_ | refine ResP.t ?_ | refine ResP.nil 1 ?_ | refine ResP.nil' ?_ | refine ResP.own ?_ | refine ResP.sl rfl rfl (by first | omega | (simp; omega)) ?_ | refine ResP.aggT (by repeat (first | exact ResP.done | refine ResP.t ?_)) ?_)) rfl (by repeat (first | exact trivial | refine ⟨rfl, rfl, ?_⟩)) (by decide) (writeString_fun b s _ (by (try simp only [List.length_append, List.length_cons, List.length_nil]); omega)) rfl rfl rfl ?_
    refine WO_norm rfl ?_
    refine WO_nil ?_
    refine inBlk_n ?_
    refine thenQ_n ?_
    refine W_region ?_
    refine evI ?_
    refine ev ?_
    refine WO_nil ?_
    refine loopQ_n (_, _) (by (try dsimp only); repeat (first | exact Sub.nil' | refine Sub.cons' rfl ?_ )) (by (try dsimp only); repeat (first | exact SubM.nil' | refine SubM.cons' rfl ?_ )) ?_ ?_
    · try dsimp only
      refine ⟨by omega, by omega, ?_⟩
      rw [he, flatT_at hk0 (by omega), rowLn]
      simp only [List.append_assoc]
    · (show Int.toNat _ < Int.toNat _); omega
  try simp only [HS] at h3
  refine W_exit ?_
  refine thenQ_e ?_
  refine loopQ_e ?_
  refine inBlk_y ?_
  refine thenQ_n ?_
  refine W_seq ?_
  refine W_region ?_
  refine WO_callP (rid := 99) [3] rfl rfl (lt_of rfl) rfl rfl (by repeat (first | exact ResP.done | refine ResP.pin0 1003 rfl ?_ | refine ResP.t ?_ | refine ResP.nil 1 ?_ | refine ResP.nil' ?_ | refine ResP.own ?_ | refine ResP.sl rfl rfl (by first | omega | (simp; omega)) ?_ | refine ResP.aggT (by repeat (first | exact ResP.done | refine ResP.t ?_)) ?_)) rfl (by repeat (first | exact trivial | refine ⟨rfl, rfl, ?_⟩)) (by decide) (bldString_fun b s) rfl rfl rfl ?_
  refine WO_norm rfl ?_
  refine ev ?_
  refine WO_nil ?_
  refine thenQ_n ?_
  refine W_ret ?_
  refine Ends_of (.inr rfl) (ret_okF rfl) (by decide) rfl ?_
  · rw [he, flatT_end (by omega)]; simp

noncomputable def codeTextR (c : Code) : Tx × Bool := if (codeBytesR c).2 then (codeTx c, true) else ([], false)
theorem codeR_put {c : Code} (h : (codeBytesR c).2 = true) : putB c = true := by
  unfold codeBytesR at h
  split at h
  · rename_i h2
    simp only [Bool.and_eq_true] at h2
    exact h2.1
  · cases h

theorem specCodeText_fun (c : Code) (hc : c.ok 1048576) : Fun Tryd.prog 6 [.t c.tt] (tupD [.t (T.str (codeTextR c).1), .t (.bool (codeTextR c).2)]) := by
  refine Fun.begin tys Tryd.func6 rfl rfl (N := 15) [(0, .t c.tt)] rfl rfl (fun w0 G F0 => ?_)
  refine W_seq ?_
  refine W_region ?_
  refine WO_box rfl rfl (lt_of rfl) rfl rfl ?_
  refine WO_norm rfl ?_
  refine ev ?_
  refine ev ?_
  refine WO_nil ?_
  refine thenQ_n ?_
  iterate 2 (refine W_seq ?_)
  refine W_region ?_
  first | (refine ev ?_; try refine WO_le (Le.freeze (u := 7) rfl) ?_) | refine WO_loadMove tys rfl rfl (lt_of rfl) rfl rfl rfl rfl rfl rfl ?_
  refine WO_norm rfl ?_
  refine callB ?_
  refine ⟨_, specCodeBytes_fun c hc, rfl, ?_⟩
  refine ev ?_
  first | refine WO_evF tys rfl rfl (lt_of rfl) (d := .t _) rfl ?_ | (refine WO_extract rfl rfl (lt_of rfl) rfl rfl rfl rfl ?_; first | refine WO_le (Le.adoptE (u := 9) 9 rfl (by first | exact lenN | exact rfl)) ?_ | skip)
  refine WO_norm rfl ?_
  first | refine WO_evF tys rfl rfl (lt_of rfl) (d := .t _) rfl ?_ | (refine WO_extract rfl rfl (lt_of rfl) rfl rfl rfl rfl ?_; first | refine WO_le (Le.adoptE (u := 10) 10 rfl (by first | exact lenN | exact rfl)) ?_ | skip)
  refine WO_norm rfl ?_
  refine ev ?_
  refine WO_keep [1, 2, 3, 10] rfl ?_
  refine ev ?_
  refine WO_nil ?_
  refine thenQ_n ?_
  refine W_seq ?_
  refine W_region ?_
  refine ev ?_
  refine ev ?_
  refine WO_nil ?_
  refine thenQ_n ?_
  refine W_cond rfl (fun h1 => ?_) (fun h1 => ?_)
  ·
    try simp only [HS] at h1
    refine W_seq ?_
    refine W_region ?_
    refine ev ?_
    refine ev ?_
    refine WO_nil ?_
    refine thenQ_n ?_
    refine W_ret ?_
    refine thenQ_r ?_
    refine Ends_of (.inr rfl) (ret_okF rfl) (by decide) rfl ?_
    · simp_all [codeTextR]
  try simp only [HS] at h1
  refine W_skip ?_
  refine thenQ_n ?_
  refine W_seq ?_
  refine W_region ?_
  first | (refine ev ?_; try refine WO_le (Le.freeze (u := 13) rfl) ?_) | refine WO_loadMove tys rfl rfl (lt_of rfl) rfl rfl rfl rfl rfl rfl ?_
  refine WO_norm rfl ?_
  refine callB ?_
  refine ⟨_, l19Text_fun c (codeR_put (by assumption)), rfl, ?_⟩
  refine ev ?_
  refine ev ?_
  refine WO_nil ?_
  refine thenQ_n ?_
  refine W_ret ?_
  refine Ends_of (.inr rfl) (ret_okF rfl) (by decide) rfl ?_
  · simp_all [codeTextR]

theorem implCodeText_fun (c : Code) (hc : c.ok 1048576) : FunL Tryd.prog LadC 8 [.t c.tt] (tupD [.t (T.str (codeTextR c).1), .t (.bool (codeTextR c).2)]) := by
  refine FunL.begin LadCS tys Tryd.func8 rfl rfl (N := 15) [(0, .t c.tt)] rfl rfl (fun w0 G F0 hL => ?_)
  refine W_seq ?_
  refine W_region ?_
  refine WO_box rfl rfl (lt_of rfl) rfl rfl ?_
  refine WO_norm rfl ?_
  refine ev ?_
  refine ev ?_
  refine WO_nil ?_
  refine thenQ_n ?_
  iterate 2 (refine W_seq ?_)
  refine W_region ?_
  first | (refine ev ?_; try refine WO_le (Le.freeze (u := 7) rfl) ?_) | refine WO_loadMove tys rfl rfl (lt_of rfl) rfl rfl rfl rfl rfl rfl ?_
  refine WO_norm rfl ?_
  refine callB ?_
  refine ⟨_, implCodeBytes_fun c hc, rfl, ?_⟩
  refine ev ?_
  first | refine WO_evF tys rfl rfl (lt_of rfl) (d := .t _) rfl ?_ | (refine WO_extract rfl rfl (lt_of rfl) rfl rfl rfl rfl ?_; first | refine WO_le (Le.adoptE (u := 9) 9 rfl (by first | exact lenN | exact rfl)) ?_ | skip)
  refine WO_norm rfl ?_
  first | refine WO_evF tys rfl rfl (lt_of rfl) (d := .t _) rfl ?_ | (refine WO_extract rfl rfl (lt_of rfl) rfl rfl rfl rfl ?_; first | refine WO_le (Le.adoptE (u := 10) 10 rfl (by first | exact lenN | exact rfl)) ?_ | skip)
  refine WO_norm rfl ?_
  refine ev ?_
  refine WO_keep [1, 2, 3, 10] rfl ?_
  refine ev ?_
  refine WO_nil ?_
  refine thenQ_n ?_
  refine W_seq ?_
  refine W_region ?_
  refine ev ?_
  refine ev ?_
  refine WO_nil ?_
  refine thenQ_n ?_
  refine W_cond rfl (fun h1 => ?_) (fun h1 => ?_)
  ·
    try simp only [HS] at h1
    refine W_seq ?_
    refine W_region ?_
    refine ev ?_
    refine ev ?_
    refine WO_nil ?_
    refine thenQ_n ?_
    refine W_ret ?_
    refine thenQ_r ?_
    refine Ends_of (.inr rfl) (ret_okF rfl) (by decide) rfl ?_
    · simp_all [codeTextR]
  try simp only [HS] at h1
  refine W_skip ?_
  refine thenQ_n ?_
  refine W_seq ?_
  refine W_region ?_
  first | (refine ev ?_; try refine WO_le (Le.freeze (u := 13) rfl) ?_) | refine WO_loadMove tys rfl rfl (lt_of rfl) rfl rfl rfl rfl rfl rfl ?_
  refine WO_norm rfl ?_
  refine callLB hL ?_
  refine ⟨_, codeText_fun c (codeR_put (by assumption)), rfl, ?_⟩
  refine WO_norm rfl ?_
  refine ev ?_
  refine ev ?_
  refine WO_nil ?_
  refine thenQ_n ?_
  refine W_ret ?_
  refine Ends_of (.inr rfl) (ret_okF rfl) (by decide) rfl ?_
  · simp_all [codeTextR]
end Go.Proofs.YtafjkelehnpfcaaDoor
