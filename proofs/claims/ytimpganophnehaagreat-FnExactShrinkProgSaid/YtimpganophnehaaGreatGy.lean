/- Walks and laws of the claim. -/
import Derived.Test.YtimpganophnehaaGreatFr
import Derived.Test.YtimpganophnehaaGreatMc
import Derived.Test.YtimpganophnehaaGreatMd
import Derived.Test.YtimpganophnehaaGreatGb
import Derived.Test.YtimpganophnehaaGreatMe
set_option linter.unusedVariables false
set_option linter.unusedSimpArgs false
set_option maxRecDepth 10000
set_option maxHeartbeats 1000000
namespace Go.Proofs.YtimpganophnehaaGreat
open Go.Eng
open Go.Eng
def leftS (gone : List Int) (s : Stmt) : Stmt := ⟨s.kind, s.n, s.ex, leftG gone s.thn, leftG gone s.els⟩
def wantG (gone : List Int) (n : Int) : Bool := !decide (n ∈ gone)
def leftF (gone : List Int) (f : Func) : Func := ⟨f.params, f.vars, leftG gone f.body, (pickC (wantG gone) 0 f.stmts).map (leftS gone)⟩
def goneK (p : Prog) (fn s k : Int) : List Int := if k = fn then ordF (funcAt p k) [s] else []
def dropP (p : Prog) (fn s : Int) : Prog := ⟨(List.range p.funcs.length).map fun k : Nat => leftF (goneK p fn s k) (funcAt p k)⟩
theorem dropP_len (p : Prog) (fn s : Int) : (dropP p fn s).funcs.length = p.funcs.length := by simp [dropP]
def dropT (p : Prog) (fn s : Int) (k : Nat) : List Func := (List.range k).map fun k : Nat => leftF (goneK p fn s k) (funcAt p k)
theorem dropT_succ (p : Prog) (fn s : Int) (k : Nat) : dropT p fn s (k + 1) = dropT p fn s k ++ [leftF (goneK p fn s k) (funcAt p k)] := by simp [dropT, List.range_succ]
theorem dropT_len (p : Prog) (fn s : Int) (k : Nat) : (dropT p fn s k).length = k := by simp [dropT]
theorem vals_in {N i : Int} {b : List Int} (h : inB N i b) (h0 : 0 ≤ i) (hN : N ≤ 1048576) : ∀ n, n ∈ b → -1073741824 ≤ n ∧ n ≤ 1073741824 := fun n hn => by have := h n hn; omega
theorem l18Drop_fun (p : Prog) (fn s : Int) (hp : p.ok 1048576) (hg : goodP p = true) (hf0 : 0 ≤ fn) (hf1 : fn < p.funcs.length) (hs0 : 0 ≤ s) (hs1 : s < (funcAt p fn).stmts.length) : Fun Tryz.prog 68 [.t p.tt, .t (.int fn), .t (.int s)] (tupD [.agg [.own (T.Funcs (dropP p fn s).funcs)]]) := by
  have hpl : p.funcs.length ≤ 1048576 := hp.1.1
  refine Fun.begin tys Tryz.func68 Z Z (N := 80) [(0, .t p.tt), (1, .t (.int fn)), (2, .t (.int s))] Z Z (fun w0 G F0 => ?_)
  refine sQ (rG (WO_box Z Z (lt_of Z) Z Z (nZ Z (WO_alloc tys Z Z (lt_of Z) Z Z Z (nZ Z (oN (tN (sQ (rG (WO_alloc tys Z Z (lt_of Z) Z Z Z (nZ Z (oN (tN (sQ (sQ ?_)))))))))))))))
  refine rG (nZ Z (WO_le (Le.nilBox (u := 7) (j := 0) 4 Z Z) (nZ Z (WO_le (Le.adoptBox (u := 7) (j := 0) (id := 190) Z Z Z) (nZ Z (eK 2 Z (evE ?_)))))))
  refine eZ Z (oN (tN (W_block ?_)))
  refine lK (α := Int × Nat × List T) [1, 2, 3, 6, 7, 15, 16] [3, 6] (fun x => [(17, .t (.int (x.1)))]) (fun x => [(7, .box [.sl 190 0 (x.2.1)]), (190, .L 4 (x.2.2))]) (fun x => 0 ≤ (x.1) ∧ (x.1) ≤ p.funcs.length ∧ (x.2.1) = (x.2.2).length ∧ (x.2.2) = (dropT p fn s (x.1).toNat).map Func.tt) (fun x => Int.toNat (p.funcs.length - (x.1))) (0, 0, []) ?_ (fun x hx => ?_)
  · exact ⟨by omega, by omega, rfl, rfl⟩
  obtain ⟨k, m, xs⟩ := x
  obtain ⟨hk0, hk1, hm, hxs⟩ := hx
  dsimp only at hk0 hk1 hm hxs ⊢
  refine nY Z (sQ (rG (eZ Z (oN (tN (sQ ?_))))))
  refine W_cond Z (fun h1 => ?_) (fun h1 => ?_)
  ·
    simp only [HS] at h1
    refine W_skip (tN (sQ (W_block (sQ (rG (eZ Z ?_))))))
    have hf := func_ok hp (n := k.toNat) (by omega)
    have hgf := goodP_fn hg (n := k.toNat) (by omega)
    have hfl := goodF_len hgf
    have hsh := goodF_shape hgf
    obtain ⟨hd, hib, hob⟩ := shapeF_iff hsh
    have hfa := funcAt_at (p := p) (n := k) (by omega)
    refine WO_idxT tys Z Z (lt_of Z) Z Z Z Z Z Z Z (by omega) _ (getT _ _ (by omega) (by omega)) (eZ Z ?_)
    try refine WO_le (Le.freeze (u := 21) rfl) ?_
    refine nZ Z (WO_alloc tys Z Z (lt_of Z) Z Z Z (nZ Z (eZ Z (sT Z (nZ Z (oN (tN (sQ (kY [1,2,3,6,7,8,9,15,16,17,18,19,20,21] Z (rG (eZ Z (WO_le (Le.nilT (u := 10) 1 Z) (WO_le (Le.eqF (u := 10) (e := .t (T.ints [])) Z Z) (nZ Z (oN ?_)))))))))))))))
    refine tN (sQ (sQ (rG (eK 3 Z (oN (tN ?_))))))
    refine W_joinN (α := List Int) [1, 2, 3, 6, 7, 8, 9, 15, 16, 17, 18, 19, 20, 21, 22, 23, 24] [3, 6, 7, 9, 190] (fun x => [(10, .t (T.ints x))]) (fun x => []) (fun x => x = goneK p fn s k ∧ x.length ≤ 1048576) ?_ (fun g hx => ?_)
    ·
      refine W_cond Z (fun h2 => ?_) (fun h2 => ?_)
      ·
        simp only [HS] at h2
        refine rG (eZ Z ?_)
        try refine WO_le (Le.freeze (u := 25) rfl) ?_
        refine nZ Z (eZ Z (WO_callF Z Z (lt_of Z) Z Z Z Z Z (l18Gone_fun hf hfl hsh (p.funcs[k.toNat]'(by omega)).stmts.length s hs0 (by rw [hfa, show k = fn from by assumption]; exact hs1) (by omega)) Z ?_))
        refine eZ Z (oN ?_)
        refine joinQ_n _ (by (try dsimp only); repeat (first | exact Sub.nil' | refine Sub.cons' rfl ?_)) (by (try dsimp only); repeat (first | exact SubM.nil' | refine SubM.cons' rfl ?_)) ?_
        first
        | (refine ⟨?_, ?_⟩
           · rw [goneK, if_pos (by assumption), ← hfa]
           · have hq := gone_run hsh hs0 (by rw [hfa, show k = fn from by assumption]; exact hs1)
             have : (ordF (p.funcs[k.toNat]'(by omega)) [s]).length = goneN (p.funcs[k.toNat]'(by omega)) s := rfl
             omega)
      simp only [HS] at h2
      refine W_skip ?_
      refine joinQ_n _ (by (try dsimp only); repeat (first | exact Sub.nil' | refine Sub.cons' rfl ?_)) (by (try dsimp only); repeat (first | exact SubM.nil' | refine SubM.cons' rfl ?_)) ?_
      first
      | (refine ⟨?_, by simp⟩; rw [goneK, if_neg (by assumption)])
    obtain ⟨hgk, hgl⟩ := hx
    refine tN (sQ (kY [1,2,3,6,7,8,9,10,15,16,17,18,19,20,21,22,23,24] Z (W_regionGm 10 mixed Z (by kernel_rfl) (by kernel_rfl) ?_)))
    iterate 6 (refine QG_ev tys rfl rfl (lt_of rfl) rfl ?_)
    refine QG_norm Z (QG_ev tys Z Z (lt_of Z) Z (callBG ?_))
    refine ⟨_, l18Left_fun _ _ hf.1 hgl (vals_in hib (by omega) (by omega)), rfl, ?_⟩
    refine QG_struct tys Z Z (lt_of Z) Z Z Z (by kernel_rfl) Z Z Z Z Z Z (QG_alloc tys Z Z (lt_of Z) Z Z Z Z (QG_nil ?_))
    refine ⟨by kernel_rfl, ?_⟩
    refine nZ Z (sT Z (nZ Z (oN (tN (sQ (sQ (rG (nZ Z (WO_le (Le.nilBox (u := 11) (j := 3) 5 Z Z) (nZ Z (WO_le (Le.adoptBox (u := 11) (j := 3) (id := 180) Z Z Z) (nZ Z (eK 2 Z (evE ?_))))))))))))))
    refine eZ Z (oN (tN (W_block ?_)))
    refine lK (α := Int × Nat × List T) [1, 2, 3, 6, 7, 9, 10, 11, 15, 16, 17, 38, 39] [3, 6, 7, 9, 190] (fun x => [(40, .t (.int (x.1)))]) (fun x => [(11, .box [.t (T.int (p.funcs[k.toNat]'(by omega)).params), .t (T.int (p.funcs[k.toNat]'(by omega)).vars), .own (T.ints (leftG g (p.funcs[k.toNat]'(by omega)).body)), .sl 180 0 (x.2.1)]), (180, .L 5 (x.2.2))]) (fun x => 0 ≤ (x.1) ∧ (x.1) ≤ (p.funcs[k.toNat]'(by omega)).stmts.length ∧ (x.2.1) = (x.2.2).length ∧ (x.2.2) = ((pickC (wantG g) 0 ((p.funcs[k.toNat]'(by omega)).stmts.take (x.1).toNat)).map (leftS g)).map Stmt.tt) (fun x => Int.toNat ((p.funcs[k.toNat]'(by omega)).stmts.length - (x.1))) (0, 0, []) ?_ (fun x hx => ?_)
    · exact ⟨by omega, by omega, rfl, rfl⟩
    obtain ⟨j, m2, ys⟩ := x
    obtain ⟨hj0, hj1, hm2, hys⟩ := hx
    dsimp only at hj0 hj1 hm2 hys ⊢
    refine nY Z (sQ (rG (eZ Z (oN (tN (sQ ?_))))))
    refine W_cond Z (fun h2 => ?_) (fun h2 => ?_)
    ·
      simp only [HS] at h2
      refine W_skip (tN (sQ (W_block (sQ (rG (eZ Z ?_))))))
      have hso := stmt_ok hf (n := j.toNat) (by omega)
      have hkd := hd j (by omega) (by omega)
      rw [kids_at (by omega)] at hkd
      refine WO_idxT tys Z Z (lt_of Z) Z Z Z Z Z Z Z (by omega) _ (getT _ _ (by omega) (by omega)) (eZ Z ?_)
      try refine WO_le (Le.freeze (u := 44) rfl) ?_
      refine nZ Z (WO_alloc tys Z Z (lt_of Z) Z Z Z (nZ Z (eZ Z (sT Z (nZ Z (oN (tN (sQ (kY [1,2,3,6,7,9,10,11,12,13,15,16,17,38,39,40,41,42,43,44] Z (rG (eK 2 Z (callB ?_))))))))))))
      refine ⟨_, l1Has_fun _ _ (by omega), rfl, ?_⟩
      refine eZ Z (oN (tN ?_))
      refine W_cond Z (fun h3 => ?_) (fun h3 => ?_)
      ·
        simp only [HS] at h3
        refine W_regionGm 20 mixed Z (by kernel_rfl) (by kernel_rfl) (QG_ev tys Z Z (lt_of Z) Z (QG_ev tys Z Z (lt_of Z) Z (QG_norm Z ?_)))
        iterate 4 (refine QG_ev tys rfl rfl (lt_of rfl) rfl ?_)
        refine QG_buildS tys [] Z Z (lt_of Z) Z Z Z Z Z (by decide) (by repeat (first | exact PartsOk.nil' | refine PartsOk.cons' rfl (by repeat (first | exact AbsL.nil' | refine AbsL.v' ?_ | refine AbsL.own' ?_ | refine AbsL.none' ?_)) Z ?_)) Z Z Z (by decide) ?_
        refine QG_ev tys Z Z (lt_of Z) Z (QG_norm Z (QG_ev tys Z Z (lt_of Z) Z (QG_append tys Z Z (lt_of Z) Z Z Z Z Z Z Z Z (fun _ => .read (readTok _)) (by simp; omega) (by decide) Z ?_)))
        iterate 3 (refine QG_ev tys rfl rfl (lt_of rfl) rfl ?_)
        refine callBG ?_
        refine ⟨_, l18Left_fun _ _ hso.1 hgl (vals_in (inB_lower hkd.1 (show (0 : Int) ≤ j + 1 by omega)) (by omega) (by omega)), rfl, ?_⟩
        refine QG_norm Z ?_
        iterate 3 (refine QG_ev tys rfl rfl (lt_of rfl) rfl ?_)
        refine callBG ?_
        refine ⟨_, l18Left_fun _ _ hso.2.1 hgl (vals_in (inB_lower hkd.2 (show (0 : Int) ≤ j + 1 by omega)) (by omega) (by omega)), rfl, ?_⟩
        refine QG_struct tys Z Z (lt_of Z) Z Z Z (by kernel_rfl) Z Z Z Z Z Z ?_
        refine QG_buildS tys [(leftS g ((p.funcs[k.toNat]'(by omega)).stmts[j.toNat]'(by omega))).tt] Z Z (lt_of Z) Z Z Z Z Z (lt_of Z) (by repeat (first | exact PartsOk.nil' | refine PartsOk.cons' rfl (by repeat (first | exact AbsL.nil' | refine AbsL.v' ?_ | refine AbsL.own' ?_ | refine AbsL.none' ?_)) Z ?_)) Z Z Z (by decide) ?_
        refine QG_norm Z (QG_nil ?_)
        refine ⟨by kernel_rfl, ?_⟩
        refine nZ Z (WO_le (Le.adoptE (u := 68) 68 Z Z) (nZ Z (WO_append tys Z Z (lt_of Z) Z Z Z Z Z (.own Z (by first | omega | (simp only [List.length_append]; omega))) Z (.own Z (by first | decide | omega)) (by decide) (by simp only [List.length_take, List.length_cons, List.length_nil]; rw [hys, List.length_map, List.length_map]; have := pickC_len (wantG g) 0 ((p.funcs[k.toNat]'(by omega)).stmts.take j.toNat); simp at this; omega) (by decide) Z ?_)))
        refine nZ Z (eZ Z (sT Z (nZ Z (oN (bN (tN (rG (evI ?_))))))))
        refine eZ Z (oN ?_)
        refine lQ (_, _, _) ?_ ?_
        · dsimp only
          have hw : wantG g ((j.toNat : Nat) : Int) = true ↔ j ∉ g := by
           rw [show ((j.toNat : Nat) : Int) = j from by omega]
           simp [wantG]
          have hp1 := pickC_at (wantG g) (p.funcs[k.toNat]'(by omega)).stmts (k := j.toNat) (by omega)
          rw [show j.toNat + 1 = (j + 1).toNat from by omega] at hp1
          first
          | (rw [if_pos (hw.2 (by assumption))] at hp1
             subst hm2
             refine ⟨by omega, by omega, by simp, ?_⟩
             rw [List.take_length, hp1, hys, List.map_append, List.map_append]
             rfl)
        · (show Int.toNat _ < Int.toNat _); omega
      simp only [HS] at h3
      refine W_skip (bN (tN (rG (evI ?_))))
      refine eZ Z (oN ?_)
      refine lQ (_, _, _) ?_ ?_
      · dsimp only
        have hw : wantG g ((j.toNat : Nat) : Int) = true ↔ j ∉ g := by
         rw [show ((j.toNat : Nat) : Int) = j from by omega]
         simp [wantG]
        have hp1 := pickC_at (wantG g) (p.funcs[k.toNat]'(by omega)).stmts (k := j.toNat) (by omega)
        rw [show j.toNat + 1 = (j + 1).toNat from by omega] at hp1
        first
        | (rw [if_neg (fun h => hw.1 h (by assumption)), List.append_nil] at hp1
           exact ⟨by omega, by omega, hm2, by rw [hp1]; exact hys⟩)
      · (show Int.toNat _ < Int.toNat _); omega
    simp only [HS] at h2
    refine W_exit (tE (loopQ_e (inBlk_y (tN (rG (nZ Z (WO_le (Le.gatherBox (u := 11) (j := 3) (id := 180) Z Z Z (by omega) Z) (nZ Z (eK 2 Z (WO_loadMove tys Z Z (lt_of Z) Z Z Z Z Z Z (nZ Z ?_)))))))))))
    refine WO_buildSlice tys [.agg [T.int (p.funcs[k.toNat]'(by omega)).params, T.int (p.funcs[k.toNat]'(by omega)).vars, T.ints (leftG g (p.funcs[k.toNat]'(by omega)).body), .list 5 (ys.take m2)]] Z Z (lt_of Z) Z Z Z Z Z (lt_of Z) (by repeat (first | exact PartsOk.nil' | refine PartsOk.cons' rfl (by repeat (first | exact AbsL.nil' | refine AbsL.v' ?_ | refine AbsL.own' ?_ | refine AbsL.none' ?_)) Z ?_)) (by first | exact List.nodup_nil | exact nodup1 _ | decide | exact nodupB_sound Z) Z (by decide) ?_
    refine nZ Z (WO_append tys Z Z (lt_of Z) Z Z Z Z Z (.own Z (by first | omega | (simp only [List.length_append]; omega))) Z (.own Z (by first | decide | omega)) (by decide) (by simp only [List.length_take, List.length_cons, List.length_nil]; rw [hxs, List.length_map, dropT_len]; omega) (by decide) Z ?_)
    refine nZ Z (eZ Z (sT Z (nZ Z (oN (bN (tN (kY [1,2,3,6,7,9,10,11,15,16,17,38,39,40,41,72,73,74,75,76,77] Z (rG (evI ?_)))))))))
    refine eZ Z (oN ?_)
    refine lQ (_, _, _) ?_ ?_
    · dsimp only
      have e : (leftF g (p.funcs[k.toNat]'(by omega))).tt = .agg [T.int (p.funcs[k.toNat]'(by omega)).params, T.int (p.funcs[k.toNat]'(by omega)).vars, T.ints (leftG g (p.funcs[k.toNat]'(by omega)).body), .list 5 (ys.take m2)] := by
       rw [hm2, List.take_length, hys, List.take_of_length_le (l := (p.funcs[k.toNat]'(by omega)).stmts) (by omega)]
       rfl
      subst hm
      refine ⟨by omega, by omega, by simp, ?_⟩
      rw [List.take_length, hxs, show (k + 1).toNat = k.toNat + 1 from by omega, dropT_succ, List.map_append, List.map_cons, List.map_nil, show ((k.toNat : Nat) : Int) = k from by omega, ← hgk, ← hfa, e]
      rfl
    · (show Int.toNat _ < Int.toNat _); omega
  simp only [HS] at h1
  refine W_exit (tE (loopQ_e (inBlk_y (tN (sQ (rG (nZ Z (WO_le (Le.gatherBox (u := 7) (j := 0) (id := 190) Z Z Z (by omega) Z) (nZ Z (WO_loadMove tys Z Z (lt_of Z) Z Z Z Z Z Z (nZ Z (sT Z (nZ Z (oN (tN ?_)))))))))))))))
  refine rT (eR ?_)
  · rw [hm, List.take_length, hxs, show k.toNat = p.funcs.length from by omega]
    rfl
open Go.Eng
theorem cellsF (l : List Func) : ∀ x, x ∈ l.map Func.tt → (T.cells x).length = 4 := by
 intro x hx; obtain ⟨t, _, rfl⟩ := List.mem_map.1 hx; rfl
theorem cellsS (l : List Stmt) : ∀ x, x ∈ l.map Stmt.tt → (T.cells x).length = 5 := by
 intro x hx; obtain ⟨t, _, rfl⟩ := List.mem_map.1 hx; rfl
theorem mapAt {α β : Type} {f : α → β} {l : List α} {k : Nat} {x : α} (h : l[k]? = some x) : (l.map f)[k]? = some (f x) := by rw [List.getElem?_map, h]; rfl
open Go.Eng
theorem delS_fun (b n cap i j : Nat) (vs : List Value) (hij : i ≤ j) (hj : j ≤ n) (hn : n ≤ cap) (hl : vs.length = n * 5) : Proc Tryz.prog 130 [.t (.v (.slice (some ⟨b, 0, none⟩) n cap)), .t (.int (i : Nat)), .t (.int (j : Nat))] ([]) ([]) [.raw b (cap * 5) vs (vs.map T.v)] (.t (.v (.slice (some ⟨b, 0, none⟩) (n - (j - i)) cap))) [.raw b (cap * 5) (vs.take (i * 5) ++ vs.drop (j * 5)) ((vs.take (i * 5) ++ vs.drop (j * 5)).map T.v)] := by
 refine Proc.intro tys Tryz.func130 Z Z (N := 33) [100] 99 ([(0, .t (.v (.slice (some ⟨b, 0, none⟩) n cap))), (1, .t (.int (i : Nat))), (2, .t (.int (j : Nat)))]) ([(100, .raw b (cap * 5) vs (vs.map T.v)), (99, .ro [] [])]) Z Z Z Z (by decide) (by decide) Z (fun w0 G F0 => ?_)
 refine nY Z (sQ (rG (eZ Z (oN (tN (sQ (rG (eK 4 Z (WO_lenV Z Z (lt_of Z) Z ⟨86, by kernel_rfl⟩ rfl (WO_slice3V tys Z Z (lt_of Z) Z Z Z Z Z Z Z Z (by omega) (by omega) (by omega) (by omega) (oN (tN (sQ (sQ (kY [0,1,2,6] Z ?_)))))))))))))))
 refine rG (eK 3 Z (oN (tN ?_)))
 refine W_cond Z (fun h1 => ?_) (fun h1 => ?_)
 ·
  simp only [HS] at h1
  refine sQ (rG (eK 2 Z (oN (tN (rT (tR ?_))))))
  refine EndsP_of (ks := [_]) (.inr Z) (ret_okF Z) (by decide) Z (noR_spec Z) (by repeat (first | exact trivial | refine ⟨rfl, rfl, ?_⟩)) ?_ ?_
  ·(have h5 : (i : Int) = j := (by assumption); have h6 : i = j := (by omega); subst h6; show D.t (T.v (Value.slice _ _ _)) = D.t (T.v (Value.slice _ _ _)); rw [Nat.sub_self]; rfl)
  ·(have h5 : (i : Int) = j := (by assumption); have h6 : i = j := (by omega); subst h6; simp; done)
 simp only [HS] at h1
 refine W_skip (tN (sQ (rG (eZ Z (WO_lenV Z Z (lt_of Z) Z ⟨86, by kernel_rfl⟩ rfl (eZ Z (oN (tN (sQ (W_regionDm 6 mixed Z (by kernel_rfl) (by kernel_rfl) (evQ ?_)))))))))))
 refine QL_norm Z (evQ ?_)
 refine QL_sliceV tys Z Z (lt_of Z) Z Z Z Z Z Z Z Z (by omega) (by omega) (by omega) hn (evQ ?_)
 refine evQ ?_
 refine QL_sliceV tys Z Z (lt_of Z) Z Z Z Z Z Z Z Z (by omega) (by omega) (by omega) hn (QL_nil (nZ Z (WO_le (Le.eqF (u := 22) (d := .t (.v (.slice (cutA b 5 (0 : Int).toNat cap) ((i : Int).toNat - (0 : Int).toNat) (cap - (0 : Int).toNat)))) (e := .t (.v (.slice (some ⟨b, 0, none⟩) i cap))) Z (by simp [cutA])) ?_)))
 refine nZ Z (WO_le (Le.eqF (u := 25) (d := .t (.v (.slice (cutA b 5 (j : Int).toNat cap) ((n : Int).toNat - (j : Int).toNat) (cap - (j : Int).toNat)))) (e := .t (.v (.slice (cutA b 5 j cap) (n - j) (cap - j)))) Z (by rw [Int.toNat_natCast, Int.toNat_natCast])) ?_)
 refine nZ Z (WO_appendV tys (id := 100) (m := n - j) (j := j) Z Z (lt_of Z) Z Z Z Z Z Z Z Z (by rw [hl]; congr 1; omega) (by omega) hij (by omega) Z ?_)
 refine nZ Z (eZ Z (oN (tN (sQ (rG (eK 2 Z (WO_lenV Z Z (lt_of Z) Z ⟨86, by kernel_rfl⟩ rfl (eZ Z (nZ Z (WO_sliceV tys Z Z (lt_of Z) Z Z Z Z Z Z Z Z (by omega) (by omega) (by omega) (by omega) (nZ Z (WO_le (Le.eqF (u := 31) (d := .t (.v (.slice (cutA b 5 ((i + (n - j) : Nat) : Int).toNat cap) ((n : Int).toNat - ((i + (n - j) : Nat) : Int).toNat) (cap - ((i + (n - j) : Nat) : Int).toNat)))) (e := .t (.v (.slice (cutA b 5 (i + (n - j)) cap) (n - (i + (n - j))) (cap - (i + (n - j)))))) Z (by rw [Int.toNat_natCast, Int.toNat_natCast])) ?_))))))))))))
 refine nZ Z (WO_clearV tys (t := 31) (id := 100) (off := i + (n - j)) (m := n - (i + (n - j))) Z (.inr Z) (lt_of Z) Z Z Z Z Z Z Z Z Z (by simp; omega) (by omega) ?_)
 refine nZ Z (oN (tN (sQ (kY [0,6] Z (rG (eK 2 Z (oN (tN (rT ?_)))))))))
 refine EndsP_of (ks := [_]) (.inr Z) (ret_okF Z) (by decide) Z (noR_spec Z) (by repeat (first | exact trivial | refine ⟨rfl, rfl, ?_⟩)) ?_ ?_
 ·show D.t (T.v (Value.slice _ _ _)) = D.t (T.v (Value.slice _ _ _))
  rw [show i + (n - j) = n - (j - i) from by omega]
 ·rfl
theorem delS_fun' (b n cap : Nat) (i j : Int) (vs : List Value) (hi : 0 ≤ i) (hij : i ≤ j) (hj : j ≤ n) (hn : n ≤ cap) (hl : vs.length = n * 5) :
  Proc Tryz.prog 130 [.t (.v (.slice (some ⟨b, 0, none⟩) n cap)), .t (.int i), .t (.int j)] [] [] [.raw b (cap * 5) vs (vs.map T.v)] (.t (.v (.slice (some ⟨b, 0, none⟩) (n - (j.toNat - i.toNat)) cap)))
   [.raw b (cap * 5) (vs.take (i.toNat * 5) ++ vs.drop (j.toNat * 5)) ((vs.take (i.toNat * 5) ++ vs.drop (j.toNat * 5)).map T.v)] := by
 obtain ⟨i, rfl⟩ := Int.eq_ofNat_of_zero_le hi
 obtain ⟨j, rfl⟩ := Int.eq_ofNat_of_zero_le (show 0 ≤ j by omega)
 have := delS_fun b n cap i j vs (by omega) (by omega) hn hl
 simpa using this
def leftI (s : Int) (g : Nat) (b : List Int) : List Int := b.flatMap fun n => if n < s then [n] else if s + g ≤ n then [n - g] else []
theorem leftI_at {s : Int} {g : Nat} {b : List Int} {k : Int} (h0 : 0 ≤ k) (h1 : k < b.length) : leftI s g (b.take (k + 1).toNat) = leftI s g (b.take k.toNat) ++ (if b[k.toNat]'(by omega) < s then [b[k.toNat]'(by omega)] else if s + g ≤ b[k.toNat]'(by omega) then [b[k.toNat]'(by omega) - g] else []) := by
 unfold leftI
 rw [take_at h0 h1, List.flatMap_append]
 congr 1
 simp
theorem lessN_run (s : Int) (n : Int) (h : ¬ n < s) : ∀ g : Nat, s + g ≤ n → lessN (run s g) n = g
 | 0, _ => rfl
 | g + 1, hg => by
  have ih := lessN_run s n h g (by omega)
  unfold lessN at ih ⊢
  rw [run_succ, List.filter_append, List.length_append, List.filter_cons_of_pos (by simp; omega)]
  simp
  omega
theorem lessN_run0 (s : Int) (n : Int) (h : n < s) (g : Nat) : lessN (run s g) n = 0 := by
 unfold lessN
 rw [List.filter_eq_nil_iff.2]
 ·rfl
 ·intro x hx
  have := mem_run.1 hx
  simp; omega
theorem leftI_eq (s : Int) (g : Nat) (b : List Int) : leftI s g b = leftG (run s g) b := by
 induction b with
 | nil => rfl
 | cons n b ih =>
  have e1 : leftI s g (n :: b) = (if n < s then [n] else if s + g ≤ n then [n - g] else []) ++ leftI s g b := rfl
  have e2 : leftG (run s g) (n :: b) = (if n ∈ run s g then [] else [n - lessN (run s g) n]) ++ leftG (run s g) b := by
   unfold leftG
   by_cases h : n ∈ run s g
   ·rw [List.filter_cons_of_neg (by simpa using h), if_pos h]; rfl
   ·rw [List.filter_cons_of_pos (by simpa using h), if_neg h]; rfl
  rw [e1, e2, ih]
  congr 1
  by_cases h1 : n < s
  ·rw [if_pos h1, if_neg (fun h => by have := mem_run.1 h; omega), lessN_run0 s n h1]
   simp
  ·rw [if_neg h1]
   by_cases h2 : s + g ≤ n
   ·rw [if_pos h2, if_neg (fun h => by have := mem_run.1 h; omega), lessN_run s n h1 g h2]
   ·rw [if_neg h2, if_pos (mem_run.2 ⟨by omega, by omega⟩)]
theorem leftI_len (s : Int) (g : Nat) (b : List Int) : (leftI s g b).length ≤ b.length := by rw [leftI_eq]; exact leftG_len _ _
theorem left_fun (b : List Int) (s : Int) (g : Nat) (hb : b.length ≤ 1048576) (hv : ∀ n, n ∈ b → -1073741824 ≤ n ∧ n ≤ 1073741824) (hs0 : 0 ≤ s) (hs1 : s ≤ 1048576) (hg : g ≤ 1048576) : Fun Tryz.prog 129 [.t (T.ints b), .rp (.agg [T.int s]) 0, .rp (.agg [T.int g]) 0] (tupD [.own (T.ints (leftI s g b))]) := by
 refine Fun.begin tys Tryz.func129 Z Z (N := 36) [(0, .t (T.ints b)), (1, .rp (.agg [T.int s]) 0), (2, .rp (.agg [T.int g]) 0)] Z Z (fun w0 G F0 => ?_)
 refine sQ (rG (eZ Z (oN (tN (sQ (rG (eZ Z (WO_le (Le.nilOwn (u := 5) 1 Z) (WO_le (Le.adoptE (u := 5) 5 Z Z) (nZ Z (oN (tN (sQ (sQ (rG ?_)))))))))))))))
 refine eZ Z (evE ?_)
 refine eZ Z (oN (tN (W_block ?_)))
 refine lK (α := Int × Nat × List T) [1, 2, 8, 9] [] (fun x => [(10, .t (.int (x.1))), (5, .sl 5 0 (x.2.1))]) (fun x => [(5, .L 1 (x.2.2))]) (fun x => 0 ≤ (x.1) ∧ (x.1) ≤ b.length ∧ (x.2.1) = (x.2.2).length ∧ (x.2.2).length ≤ (x.1) ∧ (x.2.2) = (leftI s g (b.take (x.1).toNat)).map T.int) (fun x => Int.toNat (b.length - (x.1))) (0, 0, []) ?_ (fun x hx => ?_)
 ·exact ⟨by omega, by omega, rfl, by simp, rfl⟩
 obtain ⟨k, m, ws⟩ := x
 obtain ⟨hk0, hk1, hm, hwl, hws⟩ := hx
 dsimp only at hk0 hk1 hm hwl hws ⊢
 refine nY Z (sQ (rG (eZ Z (oN (tN (sQ ?_))))))
 refine W_cond Z (fun h1 => ?_) (fun h1 => ?_)
 ·
  simp only [HS] at h1
  refine W_skip (tN (sQ (W_block (sQ (rG (WO_idxT tys Z Z (lt_of Z) Z Z Z Z Z Z Z (by omega) _ (getT _ _ (by omega) (by omega)) ?_))))))
  have hvk := hv _ (List.getElem_mem (show k.toNat < b.length by omega))
  refine eK 2 Z (oN (tN (W_block (sQ (rG (eK 4 Z (oN (tN ?_))))))))
  refine W_cond Z (fun h2 => ?_) (fun h2 => ?_)
  ·
   simp only [HS] at h2
   refine kY [1,2,5,7,8,9,10,11,12,13,14,15,16,17] Z (rG (eK 2 Z ?_))
   refine WO_buildSlice tys [T.int (b[k.toNat]'(by omega))] Z Z (lt_of Z) Z Z Z Z Z (lt_of Z) (by repeat (first | exact PartsOk.nil' | refine PartsOk.cons' rfl (by repeat (first | exact AbsL.nil' | refine AbsL.v' ?_ | refine AbsL.own' ?_ | refine AbsL.none' ?_)) Z ?_)) (by first | exact List.nodup_nil | exact nodup1 _ | decide | exact nodupB_sound Z) Z (by decide) ?_
   refine nZ Z (WO_append tys Z Z (lt_of Z) Z Z Z Z Z (.own Z (by first | omega | (simp only [List.length_append]; omega))) Z (.own Z (by first | decide | omega)) (by decide) (by simp only [List.length_take, List.length_cons, List.length_nil]; omega) (by decide) Z ?_)
   refine nZ Z (eZ Z (oN (bN (bN (tN (rG (evI ?_)))))))
   refine eZ Z (oN ?_)
   refine lQ (_, _, _) ?_ ?_
   ·dsimp only
    subst hm
    have hla := leftI_at (s := s) (g := g) hk0 (show k < b.length by omega)
    first
    | (refine ⟨by omega, by omega, by simp, by simp; omega, ?_⟩; rw [List.take_length, hws, hla, if_pos (by assumption), List.map_append]; rfl)
   ·(show Int.toNat _ < Int.toNat _); omega
  simp only [HS] at h2
  refine sQ (kY [1,2,5,7,8,9,10,11,12,13,14,15,16,17] Z (rG (eK 3 Z (evI ?_))))
  refine eK 2 Z (oN (tN ?_))
  refine W_cond Z (fun h3 => ?_) (fun h3 => ?_)
  ·
   simp only [HS] at h3
   refine rG (eK 3 Z (kZ [1,2,5,7,8,9,10,11,12,13,14,15,16,17,22,23,24,25,26,27,28,29,30] Z (evI ?_)))
   refine WO_buildSlice tys [T.int (b[k.toNat]'(by omega) - g)] Z Z (lt_of Z) Z Z Z Z Z (lt_of Z) (by repeat (first | exact PartsOk.nil' | refine PartsOk.cons' rfl (by repeat (first | exact AbsL.nil' | refine AbsL.v' ?_ | refine AbsL.own' ?_ | refine AbsL.none' ?_)) Z ?_)) (by first | exact List.nodup_nil | exact nodup1 _ | decide | exact nodupB_sound Z) Z (by decide) ?_
   refine nZ Z (WO_append tys Z Z (lt_of Z) Z Z Z Z Z (.own Z (by first | omega | (simp only [List.length_append]; omega))) Z (.own Z (by first | decide | omega)) (by decide) (by simp only [List.length_take, List.length_cons, List.length_nil]; omega) (by decide) Z ?_)
   refine nZ Z (eZ Z (oN (bN (bN (tN (rG (evI ?_)))))))
   refine eZ Z (oN ?_)
   refine lQ (_, _, _) ?_ ?_
   ·dsimp only
    subst hm
    have hla := leftI_at (s := s) (g := g) hk0 (show k < b.length by omega)
    first
    | (refine ⟨by omega, by omega, by simp, by simp; omega, ?_⟩; rw [List.take_length, hws, hla, if_neg (by omega), if_pos (by omega), List.map_append]; rfl)
   ·(show Int.toNat _ < Int.toNat _); omega
  simp only [HS] at h3
  refine W_skip (bN (bN (tN (rG (evI ?_)))))
  refine eZ Z (oN ?_)
  refine lQ (_, _, _) ?_ ?_
  ·dsimp only
   subst hm
   have hla := leftI_at (s := s) (g := g) hk0 (show k < b.length by omega)
   first
   | (refine ⟨by omega, by omega, rfl, by omega, ?_⟩; rw [hws, hla, if_neg (by omega), if_neg (by omega), List.append_nil]; done)
  ·(show Int.toNat _ < Int.toNat _); omega
 simp only [HS] at h1
 refine W_exit (tE (loopQ_e (inBlk_y (tN (sQ (rG (eK 2 Z (oN (tN (W_le (Le.gather (u := 4) (id := 5) Z Z (by omega)) (rT (eR ?_))))))))))))
 ·(rw [hm, List.take_length, hws]; refine retOwnI ?_; rw [take_end (by omega)])
open Go.Eng
def toldF (C : List (Func × List Value)) : List T := C.map fun c => .agg (c.2.map T.v)
theorem toldF_flat (C : List (Func × List Value)) : (toldF C).flatMap T.cells = (C.flatMap (·.2)).map T.v := by
 unfold toldF; rw [List.flatMap_map, List.map_flatMap]; rfl
theorem toldF_cells {C : List (Func × List Value)} (h : ∀ c, c ∈ C → c.2.length = 4) : ∀ y, y ∈ toldF C → (T.cells y).length = 4 := by
 intro y hy
 obtain ⟨c, hc, rfl⟩ := List.mem_map.1 hy
 show (c.2.map T.v).length = 4
 rw [List.length_map, h c hc]
open Go.Eng
theorem funcs_at (p : Prog) : p.funcs = (List.range p.funcs.length).map fun k : Nat => funcAt p k := by
 refine List.ext_getElem (by simp) fun i h1 h2 => ?_
 rw [List.getElem_map, List.getElem_range]
 exact funcAt_at (n := (i : Int)) (by omega)
open Go.Eng
theorem flat_atv {α β : Type} {f : α → List β} {n : Nat} : ∀ {xs : List α}, (∀ x, x ∈ xs → (f x).length = n) → ∀ {i : Nat} (hi : i < xs.length) {j : Nat}, j < n → (xs.flatMap f)[i * n + j]? = (f xs[i])[j]?
 | [], _, i, hi, _, _ => by simp at hi
 | x :: xs, hw, 0, _, j, hj => by
  rw [List.flatMap_cons, Nat.zero_mul, Nat.zero_add, List.getElem?_append_left (by rw [hw x (by simp)]; exact hj)]
  rfl
 | x :: xs, hw, i + 1, hi, j, hj => by
  have hx := hw x (by simp)
  rw [List.flatMap_cons, List.getElem?_append_right (by rw [hx, Nat.succ_mul]; omega), hx, Nat.succ_mul, show i * n + n + j - n = i * n + j from by omega]
  simpa using flat_atv (fun y hy => hw y (by simp [hy])) (by simpa using hi) hj
def toldS (C : List (Stmt × List Value)) : List T := C.map fun c => .agg (c.2.map T.v)
theorem toldS_flat (C : List (Stmt × List Value)) : (toldS C).flatMap T.cells = (C.flatMap (·.2)).map T.v := by
 unfold toldS; rw [List.flatMap_map, List.map_flatMap]; rfl
theorem toldS_cells {C : List (Stmt × List Value)} (h : ∀ c, c ∈ C → c.2.length = 5) : ∀ y, y ∈ toldS C → (T.cells y).length = 5 := by
 intro y hy
 obtain ⟨c, hc, rfl⟩ := List.mem_map.1 hy
 show (c.2.map T.v).length = 5
 rw [List.length_map, h c hc]
def doneS (s : Int) (g : Nat) (c : Stmt × List Value) : T := .agg [.v (c.2.getD 0 undef), .v (c.2.getD 1 undef), .v (c.2.getD 2 undef), T.ints (leftI s g c.1.thn), T.ints (leftI s g c.1.els)]
def mixS (s : Int) (g : Nat) (C : List (Stmt × List Value)) (k : Nat) : List T := (C.take k).map (doneS s g) ++ toldS (C.drop k)
theorem mixS_len (s : Int) (g : Nat) (C : List (Stmt × List Value)) (k : Nat) : (mixS s g C k).length = C.length := by simp [mixS, toldS]; omega
theorem mixS_zero (s : Int) (g : Nat) (C : List (Stmt × List Value)) : mixS s g C 0 = toldS C := by simp [mixS]
theorem mixS_end (s : Int) (g : Nat) (C : List (Stmt × List Value)) {k : Nat} (h : C.length ≤ k) : mixS s g C k = C.map (doneS s g) := by
 simp [mixS, List.take_of_length_le h, List.drop_eq_nil_of_le h, toldS]
theorem mixS_at (s : Int) (g : Nat) (C : List (Stmt × List Value)) {k : Nat} (h : k < C.length) : (mixS s g C k)[k]? = some (.agg ((C[k]).2.map T.v)) := by
 rw [mixS, List.getElem?_append_right (by simp; omega)]
 simp [Nat.min_eq_left (Nat.le_of_lt h), List.getElem?_eq_getElem h, toldS]
theorem mixS_set (s : Int) (g : Nat) (C : List (Stmt × List Value)) {k : Nat} (h : k < C.length) : (mixS s g C k).set k (doneS s g C[k]) = mixS s g C (k + 1) := by
 have e : C.drop k = C[k] :: C.drop (k + 1) := List.drop_eq_getElem_cons h
 rw [mixS, mixS, e, List.set_append_right _ _ (by simp; omega)]
 simp only [List.length_map, List.length_take, Nat.min_eq_left (Nat.le_of_lt h), Nat.sub_self, toldS, List.map_cons, List.set_cons_zero]
 rw [List.take_succ_eq_append_getElem h, List.map_append]
 simp
theorem leftG_nil (b : List Int) : leftG [] b = b := by
 unfold leftG
 rw [List.filter_eq_self.2 (by simp)]
 conv => rhs; rw [← List.map_id b]
 exact List.map_congr_left fun n _ => by simp [lessN]
theorem pickC_true {β : Type} {q : Int → Bool} (h : ∀ x, q x = true) : ∀ (i : Int) (l : List β), pickC q i l = l
 | _, [] => rfl
 | i, x :: l => by rw [pickC, if_pos (h i), pickC_true h]
theorem leftF_nil (f : Func) : leftF [] f = f := by
 have h1 : leftS [] = id := by
  funext s
  unfold leftS
  rw [leftG_nil, leftG_nil]; rfl
 unfold leftF
 rw [leftG_nil, pickC_true (by simp [wantG]), h1, List.map_id]
theorem pickC_cut {β : Type} (m : Nat) : ∀ (i : Int) (l : List β) (s : Int) (g : Nat), s = i + m → pickC (wantG (run s g)) i l = l.take m ++ l.drop (m + g) := by
 intro i l s g h
 induction m generalizing i l with
 | zero =>
  have hs : s = i := by omega
  subst hs
  rw [List.take_zero, List.nil_append, Nat.zero_add]
  clear h
  induction g generalizing s l with
  | zero => rw [pickC_true (by simp [wantG, run]), List.drop_zero]
  | succ g ih =>
   cases l with
   | nil => rfl
   | cons x l =>
    rw [pickC, if_neg (by simp [wantG, mem_run]; omega), List.drop_succ_cons]
    have hw : ∀ (j : Int) (l : List β), s + 1 ≤ j → pickC (wantG (run s (g + 1))) j l = pickC (wantG (run (s + 1) g)) j l := by
     intro j l
     induction l generalizing j with
     | nil => intro _; rfl
     | cons y l ih2 =>
      intro hj
      have e : wantG (run s (g + 1)) j = wantG (run (s + 1) g) j := by
       unfold wantG
       congr 1
       rw [decide_eq_decide, mem_run, mem_run]
       omega
      rw [pickC, pickC, e, ih2 (j + 1) (by omega)]
    rw [hw _ _ (by omega)]
    exact ih (s + 1) l
 | succ m ih =>
  cases l with
  | nil => simp [pickC]
  | cons x l =>
   rw [pickC, if_pos (by simp [wantG, mem_run]; omega), ih (i + 1) l (by omega), List.take_succ_cons, show m + 1 + g = (m + g) + 1 from by omega, List.drop_succ_cons]
   rfl
theorem leftF_run (f : Func) {s : Int} {g : Nat} (h0 : 0 ≤ s) : leftF (run s g) f = ⟨f.params, f.vars, leftI s g f.body, (f.stmts.take s.toNat ++ f.stmts.drop (s.toNat + g)).map fun x => ⟨x.kind, x.n, x.ex, leftI s g x.thn, leftI s g x.els⟩⟩ := by
 unfold leftF
 rw [pickC_cut s.toNat 0 f.stmts s g (by omega), leftI_eq]
 congr 1
 refine List.map_congr_left fun x _ => ?_
 unfold leftS
 rw [leftI_eq, leftI_eq]
theorem dropP_eq (p : Prog) {fn s : Int} {g : Nat} (hf0 : 0 ≤ fn) (hf1 : fn < p.funcs.length) (hr : ordF (funcAt p fn) [s] = run s g) : (dropP p fn s).funcs = p.funcs.set fn.toNat (leftF (run s g) (funcAt p fn)) := by
 unfold dropP
 refine List.ext_getElem (by simp) fun i h1 h2 => ?_
 rw [List.getElem_map, List.getElem_range, List.getElem_set]
 by_cases h : fn.toNat = i
 ·subst h
  rw [if_pos rfl, show ((fn.toNat : Nat) : Int) = fn from by omega, goneK, if_pos rfl, hr]
 ·rw [if_neg h, goneK, if_neg (by omega), leftF_nil]
  exact (funcAt_at (n := (i : Int)) (by simp at h1; omega)).symm
theorem flat_takev {α β : Type} {f : α → List β} {n : Nat} : ∀ {xs : List α}, (∀ x, x ∈ xs → (f x).length = n) → ∀ (m : Nat), (xs.flatMap f).take (m * n) = (xs.take m).flatMap f ∧ (xs.flatMap f).drop (m * n) = (xs.drop m).flatMap f
 | [], _, m => by simp
 | x :: xs, hw, 0 => by simp
 | x :: xs, hw, m + 1 => by
  have hx := hw x (by simp)
  obtain ⟨h1, h2⟩ := flat_takev (xs := xs) (fun y hy => hw y (List.mem_cons_of_mem _ hy)) m
  rw [List.flatMap_cons, List.take_succ_cons, List.drop_succ_cons, List.flatMap_cons, Nat.succ_mul, List.take_append, List.drop_append, hx]
  rw [List.take_of_length_le (by omega), List.drop_eq_nil_of_le (by omega), show m * n + n - n = m * n from by omega, h1, h2]
  simp
theorem Le.eqM {c : Ctx} {s : St} {id : Nat} {k k' : Blk} (h1 : lookM s.M id = some k) (h : k = k') : Le c s ⟨s.fr, (id, k') :: s.M⟩ := by
 subst h
 refine Le.of (fun t => .inl Z) (fun i => .inl ?_)
 simp only [lookM]
 split
 ·rename_i e; subst e; exact h1.symm
 ·rfl
theorem mixS_mix {s : Int} {g : Nat} {K : List (Stmt × List Value)} (h : ∀ c, c ∈ K → c.2.length = 5) :
  Mix (K.flatMap (·.2)) ((K.map (·.1)).flatMap fun x => T.cells (Stmt.tt x)) ((K.map (doneS s g)).flatMap T.cells) ((((K.map (·.1)).map fun x : Stmt => (⟨x.kind, x.n, x.ex, leftI s g x.thn, leftI s g x.els⟩ : Stmt)).map Stmt.tt).flatMap T.cells) := by
 simp only [List.flatMap_map, List.map_map]
 refine Mix.flat (f := fun c : Stmt × List Value => c.2) fun c hc => ?_
 obtain ⟨x, l⟩ := c
 have hl := h _ hc
 match l, hl with
 | [w0, w1, w2, w3, w4], _ => exact .claim (.claim (.claim (.keep (.keep .nil))))
theorem mixF_all : ∀ {C : List (Func × List Value)}, (∀ c, c ∈ C → c.2.length = 4) → Mix (C.flatMap (·.2)) (((C.map (·.1)).map Func.tt).flatMap T.cells) ((toldF C).flatMap T.cells) (((C.map (·.1)).map Func.tt).flatMap T.cells)
 | C, h => by
  unfold toldF
  simp only [List.flatMap_map, List.map_map]
  refine Mix.flat (f := fun c : Func × List Value => c.2) fun c hc => ?_
  obtain ⟨x, l⟩ := c
  have hl := h _ hc
  match l, hl with
  | [w0, w1, w2, w3], _ => exact .claim (.claim (.claim (.claim .nil)))
theorem mixF_one {y e2 e3 : T} {v0 v1 v2 v3 : Value} : ∀ {C : List (Func × List Value)}, (∀ c, c ∈ C → c.2.length = 4) → ∀ {i : Nat} (hi : i < C.length), (C[i]).2 = [v0, v1, v2, v3] → T.v v0 = T.int (C[i]).1.params → T.v v1 = T.int (C[i]).1.vars →
  Mix (C.flatMap (·.2)) ((((C.map (·.1)).map Func.tt).flatMap T.cells).set (i * 4 + 3) y) (((toldF C).set i (.agg [.v v0, .v v1, e2, e3])).flatMap T.cells) ((((C.map (·.1)).map Func.tt).set i (.agg [T.v v0, T.v v1, e2, e3])).flatMap T.cells)
 | [], _, i, hi, _, _, _ => by simp at hi
 | c :: C, h, 0, _, hv, h0, h1 => by
  obtain ⟨x, l⟩ := c
  have hl : l = [v0, v1, v2, v3] := hv
  subst hl
  have hr := mixF_all (C := C) fun d hd => h d (List.mem_cons_of_mem _ hd)
  have e : ((((⟨x, [v0, v1, v2, v3]⟩ :: C : List (Func × List Value)).map (·.1)).map Func.tt).flatMap T.cells).set (0 * 4 + 3) y = [T.v v0, T.v v1, T.ints x.body, y] ++ ((C.map (·.1)).map Func.tt).flatMap T.cells := by
   have h0' : T.int x.params = T.v v0 := h0.symm
   have h1' : T.int x.vars = T.v v1 := h1.symm
   show ([T.int x.params, T.int x.vars, T.ints x.body, T.Stmts x.stmts] ++ ((C.map (·.1)).map Func.tt).flatMap T.cells).set 3 y = _
   rw [h0', h1']; rfl
  rw [e]
  exact Mix.app (vs := [v0, v1, v2, v3]) (ts := [T.v v0, T.v v1, T.ints x.body, y]) (ys := [.v v0, .v v1, e2, e3]) (xs := [T.v v0, T.v v1, e2, e3]) (.claim (.claim (.keep (.keep .nil)))) hr
 | c :: C, h, i + 1, hi, hv, h0, h1 => by
  obtain ⟨x, l⟩ := c
  have hl := h _ (List.mem_cons_self ..)
  have hr := mixF_one (y := y) (e2 := e2) (e3 := e3) (C := C) (fun d hd => h d (List.mem_cons_of_mem _ hd)) (i := i) (by simpa using hi) (by simpa using hv) (by simpa using h0) (by simpa using h1)
  match l, hl with
  | [w0, w1, w2, w3], _ =>
   have e : ((((⟨x, [w0, w1, w2, w3]⟩ :: C : List (Func × List Value)).map (·.1)).map Func.tt).flatMap T.cells).set ((i + 1) * 4 + 3) y = T.cells x.tt ++ (((C.map (·.1)).map Func.tt).flatMap T.cells).set (i * 4 + 3) y := by
    have hx : (T.cells x.tt).length = 4 := rfl
    simp only [List.map_cons, List.flatMap_cons]
    rw [List.set_append_right _ _ (by rw [hx]; omega), hx, show (i + 1) * 4 + 3 - 4 = i * 4 + 3 from by omega]
   rw [e]
   exact Mix.app (vs := [w0, w1, w2, w3]) (ts := T.cells x.tt) (ys := [.v w0, .v w1, .v w2, .v w3]) (xs := T.cells x.tt) (.claim (.claim (.claim (.claim .nil)))) hr
open Go.Eng
theorem dropI_fun (p : Prog) (fn s : Int) (hp : p.ok 1048576) (hg : goodP p = true) (hf0 : 0 ≤ fn) (hf1 : fn < p.funcs.length) (hs0 : 0 ≤ s) (hs1 : s < (funcAt p fn).stmts.length) : Fun Tryz.prog 73 [.t p.tt, .t (.int fn), .t (.int s)] (tupD [.agg [.own (T.Funcs (dropP p fn s).funcs)]]) := by
  have hpl : p.funcs.length ≤ 1048576 := hp.1.1
  have hf := func_ok hp (n := fn.toNat) (by omega)
  have hgf := goodP_fn hg (n := fn.toNat) (by omega)
  have hfl := goodF_len hgf
  have hsh := goodF_shape hgf
  obtain ⟨hd, hib, hob⟩ := shapeF_iff hsh
  have hfa := funcAt_at (p := p) (n := fn) (by omega)
  rw [← hfa] at hs1
  obtain ⟨hg1, hg2, hg3⟩ := gone_run hsh hs0 hs1
  rw [dropP_eq p hf0 hf1 (g := goneN (p.funcs[fn.toNat]'(by omega)) s) (by rw [← hfa]; exact hg1), ← hfa, leftF_run _ hs0]
  generalize hG : goneN (p.funcs[fn.toNat]'(by omega)) s = g at *
  refine Fun.begin tys Tryz.func73 Z Z (N := 82) [(0, .t p.tt), (1, .t (.int fn)), (2, .t (.int s))] Z Z (fun w0 G F0 => ?_)
  refine sQ (rG (WO_box Z Z (lt_of Z) Z Z (nZ Z (WO_box Z Z (lt_of Z) Z Z (nZ Z (WO_alloc tys Z Z (lt_of Z) Z Z Z (nZ Z (oN (tN (sQ (rG (eZ Z ?_))))))))))))
  try refine WO_le (Le.freeze (u := 13) rfl) ?_
  refine nZ Z (callB ?_)
  refine ⟨_, cloneProg_fun p hp, rfl, ?_⟩
  refine WO_alloc tys Z Z (lt_of Z) Z Z Z (nZ Z (sT Z (nZ Z (oN (tN (sQ (kY [1,5,6,7] Z (rG (nZ Z (WO_le (Le.adoptBox (u := 7) (j := 0) (id := 101) Z Z Z) (nZ Z ?_)))))))))))
  refine WO_exposeL (id := 101) (idp := 133) Z Z (fun vs hvs => ?_)
  obtain ⟨C, hC1, hC2, rfl⟩ := cutV (l := p.funcs) (vs := vs) (n := 4) (by rw [hvs, List.length_map])
  have hCl : C.length = p.funcs.length := by rw [← hC1, List.length_map]
  refine ⟨toldF C, toldF_flat C, by rw [toldF, List.length_map, List.length_map, hCl], toldF_cells hC2, ?_⟩
  refine nZ Z ?_
  have hkl : fn.toNat < C.length := by omega
  obtain ⟨v0, v1, v2, v3, hv⟩ : ∃ v0 v1 v2 v3, (C[fn.toNat]'hkl).2 = [v0, v1, v2, v3] := by
   have h4 := hC2 _ (List.getElem_mem hkl)
   match (C[fn.toNat]'hkl).2, h4 with
   | [v0, v1, v2, v3], _ => exact ⟨_, _, _, _, rfl⟩
  have hy : (toldF C)[fn.toNat]? = some (.agg [.v v0, .v v1, .v v2, .v v3]) := by rw [toldF, List.getElem?_map, List.getElem?_eq_getElem hkl]; simp [hv]
  have hcv : ∀ j, j < 4 → (C.flatMap (·.2))[fn.toNat * 4 + j]? = [v0, v1, v2, v3][j]? := fun j hj => by
   have h4 := flat_atv (xs := C) (f := (·.2)) (n := 4) hC2 (i := fn.toNat) hkl hj
   rw [h4, hv]
  have hct : ∀ j, j < 4 → ((p.funcs.map Func.tt).flatMap T.cells)[fn.toNat * 4 + j]? = (T.cells (p.funcs[fn.toNat]'(by omega)).tt)[j]? := fun j hj => flat_atc (cellsF _) (mapAt (List.getElem?_eq_getElem (by omega))) hj
  have hbl : (T.Funcs p.funcs).cells = [T.Funcs p.funcs] := rfl
  refine WO_told 133 (fn.toNat * 4 + 0) Z Z (x := .int .i64 (p.funcs[fn.toNat]'(by omega)).params) (hct 0 (by decide)) (hcv 0 (by decide)) (fun hv0 => ?_)
  refine WO_told 133 (fn.toNat * 4 + 1) Z Z (x := .int .i64 (p.funcs[fn.toNat]'(by omega)).vars) (hct 1 (by decide)) (hcv 1 (by decide)) (fun hv1 => ?_)
  subst hv0 hv1
  refine eK 3 Z (WO_idxS tys Z Z (lt_of Z) Z Z Z Z Z Z Z Z hf0 (by rw [List.length_map]; exact hf1) ?_)
  refine nZ Z (eZ Z (oN (tN (sQ (W_regionH [[9], [9], [9], [9], [9], [9], [9], [], []] mixed (by kernel_rfl) (QH_G (QG_ev tys Z Z (lt_of Z) Z (QG_nil (QH_G (QG_nil' rfl Z (lt_of Z) Z Z Z (QG_nil (QH_G (QG_loadL tys Z Z (lt_of Z) Z Z Z Z (by rw [Nat.zero_add]; exact hy) Z ?_)))))))))))))
  refine QG_nil (QH_G (QG_ev tys Z Z (lt_of Z) Z (QG_nil (QH_norm Z (QH_G ?_)))))
  refine QG_buildS tys [T.int s] Z Z (lt_of Z) Z Z Z Z Z (lt_of Z) (by repeat (first | exact PartsOk.nil' | refine PartsOk.cons' rfl (by repeat (first | exact AbsL.nil' | refine AbsL.v' ?_ | refine AbsL.own' ?_ | refine AbsL.none' ?_)) Z ?_)) Z Z Z (by decide) ?_
  refine QG_nil (QH_G (QG_call Z Z (lt_of Z) Z Z (es := [.t (p.funcs[fn.toNat]'(by omega)).tt, .t (T.ints [s]), .nil]) (ResL.aggT (ResL.t (ResL.t (ResL.raw (id := 133) (j := fn.toNat * 4 + 2) Z (hcv 2 (by decide)) (hct 2 (by decide)) (ResL.raw (id := 133) (j := fn.toNat * 4 + 3) Z (hcv 3 (by decide)) (hct 3 (by decide)) ResL.done)))) (ResL.own (ResL.nil' ResL.done))) (orderOf_fun' _ hf hd (by intro x hx; rw [List.mem_singleton] at hx; subst hx; exact ⟨hs0, hs1⟩) (by simp) (by rw [hg1, run_len]; omega)).toFun Z ?_))
  refine QG_nil (QH_G (QG_lenO Z Z (lt_of Z) Z ⟨3, by kernel_rfl⟩ rfl (m := g) (by rw [List.length_map, hg1, run_len]) ?_))
  refine QG_nil (QH_G0 (QG_alloc tys Z Z (lt_of Z) Z Z Z Z (QG_nil (QH_norm Z (QH_store tys 10008 Z Z Z Z Z Z Z Z Z (Nat.le_of_ble_eq_true Z) (QH_nil ?_))))))
  refine ⟨by kernel_rfl, ?_⟩
  refine nZ Z (oN (tN (sQ (rG (nZ Z ?_)))))
  refine WO_explode (id := 133) (j := fn.toNat * 4 + 3) (id2 := 102) (n := 5) (u := v3) (xs := (p.funcs[fn.toNat]'(by omega)).stmts.map Stmt.tt) Z Z (hcv 3 (by decide)) (hct 3 (by decide)) Z (fun e ad b cap ws hu hb he hlc hcm hn => ?_)
  rw [List.length_map] at hu hlc
  have he0 : e = false := by cases e with | false => rfl | true => have := congrArg List.length (he rfl); rw [List.length_map, List.length_nil] at this; omega
  subst he0
  obtain rfl : ad = some ⟨b, 0, none⟩ := hb rfl
  subst hu
  refine nZ Z ?_
  refine WO_ownLen 102 Z Z (fun hwl => ?_)
  obtain ⟨K, hK1, hK2, rfl⟩ := cutV (l := (p.funcs[fn.toNat]'(by omega)).stmts) (vs := ws) (n := 5) (by rw [hwl, flat_length (cellsS _), List.length_map])
  have hKl : K.length = (p.funcs[fn.toNat]'(by omega)).stmts.length := by rw [← hK1, List.length_map]
  refine WO_le (Le.rawTell (id := 102) 135 Z Z) (nZ Z (WO_le (Le.roNil 99) (nZ Z (eK 2 Z (oN (tN (sQ (W_regionH [[102], [], [], [], [], [], [], [], [], [], [], [], []] mixed (by kernel_rfl) (QH_G (QG_ev tys Z Z (lt_of Z) Z (QG_nil (QH_G0 (QG_ev tys Z Z (lt_of Z) Z (QG_nil (QH_G0 ?_)))))))))))))))
  refine QG_nil' rfl Z (lt_of Z) Z Z Z (QG_nil (QH_G0 (QG_ev tys Z Z (lt_of Z) Z (QG_nil (QH_norm Z (QH_G (QG_loadL tys Z Z (lt_of Z) Z Z Z Z (by rw [Nat.zero_add]; exact hy) Z ?_)))))))
  refine QG_nil (QH_G0 (QG_ev tys Z Z (lt_of Z) Z (QG_nil (QH_G0 (QG_ev tys Z Z (lt_of Z) Z (QG_nil (QH_G0 (QG_ev tys Z Z (lt_of Z) Z (QG_nil (QH_norm Z (QH_G0 (QG_int tys Z Z (lt_of Z) Z (wrap_id (by omega) (by omega)) (QG_nil ?_)))))))))))))
  refine QH_callP (rid := 99) [102] Z Z (lt_of Z) Z Z (by repeat (first | exact ResP.done | refine ResP.pin0 1102 Z ?_ | refine ResP.t ?_ | refine ResP.nil 1 ?_ | refine ResP.nil' ?_ | refine ResP.own ?_ | refine ResP.sl Z Z (by first | omega | (simp; omega)) ?_ | refine ResP.aggT (by repeat (first | exact ResP.done | refine ResP.t ?_)) ?_)) Z (by repeat (first | exact trivial | refine ⟨rfl, rfl, ?_⟩)) (by decide) (delS_fun' b _ cap s (s + g) (K.flatMap fun c : Stmt × List Value => c.2) hs0 (by omega) (by omega) hlc (by rw [hwl, flat_length (cellsS _), List.length_map])) Z Z Z ?_
  refine QH_G0 (QG_nil' rfl Z (lt_of Z) Z Z Z (QG_nil (QH_G0 (QG_ev tys Z Z (lt_of Z) Z (QG_nil (QH_norm Z ?_))))))
  refine QH_storeLv tys 10012 [.v (.slice (some ⟨b, 0, none⟩) ((p.funcs[fn.toNat]'(by omega)).stmts.length - ((s + g).toNat - s.toNat)) cap)] Z Z Z Z Z Z (by rw [Nat.zero_add]; exact hy) Z Z (by repeat (first | exact AbsL.nil' | refine AbsL.v' ?_ | refine AbsL.own' ?_)) Z (by decide) (Nat.le_of_ble_eq_true Z) ?_
  refine QH_nil ?_
  refine ⟨by kernel_rfl, ?_⟩
  refine nZ Z ?_
  obtain ⟨K', hK'⟩ : ∃ K', K' = K.take s.toNat ++ K.drop (s.toNat + g) := ⟨_, rfl⟩
  have hnew : (p.funcs[fn.toNat]'(by omega)).stmts.length - ((s + g).toNat - s.toNat) = K'.length := by rw [hK', List.length_append, List.length_take, List.length_drop, hKl]; omega
  have hKm : ∀ c, c ∈ K' → c ∈ K := fun c hc => by
   rw [hK'] at hc
   rcases List.mem_append.1 hc with hc | hc
   · exact List.mem_of_mem_take hc
   · exact List.mem_of_mem_drop hc
  have hK2' : ∀ c, c ∈ K' → c.2.length = 5 := fun c hc => hK2 c (hKm c hc)
  have hcut : (K.flatMap fun c : Stmt × List Value => c.2).take (s.toNat * 5) ++ (K.flatMap fun c : Stmt × List Value => c.2).drop ((s + g).toNat * 5) = K'.flatMap fun c : Stmt × List Value => c.2 := by
   rw [(flat_takev hK2 s.toNat).1, (flat_takev hK2 (s + g).toNat).2, hK', List.flatMap_append, show (s + g).toNat = s.toNat + g from by omega]
  refine WO_le (Le.rawPick (idp := 135) (g := fun x => T.cells (Stmt.tt x)) (n := 5) (C := K) (C' := K') (R := (K.drop s.toNat).take g) Z (fun _ => rfl) hK2 Z (by rw [hK1, List.flatMap_map]) (by
   rw [hK', List.append_assoc]
   conv => lhs; rw [← List.take_append_drop s.toNat K]
   refine List.Perm.append_left _ ?_
   conv => lhs; rw [← List.take_append_drop g (K.drop s.toNat)]
   rw [List.drop_drop]
   exact List.perm_append_comm)) ?_
  refine nZ Z (WO_le (Le.rawList (id := 102) (n := 5) (ys := toldS K') 1102 Z Z Z Z (by rw [toldS_flat, hcut]) (toldS_cells hK2') (by rw [toldS, List.length_map]; omega) hcm) ?_)
  refine nZ Z (WO_le (Le.eqM (id := 101) Z (k' := .L 4 ((toldF C).set fn.toNat (.agg [T.int (p.funcs[fn.toNat]'(by omega)).params, T.int (p.funcs[fn.toNat]'(by omega)).vars, .v v2, .v (.slice (some ⟨b, 0, none⟩) K'.length cap)]))) (by rw [Nat.zero_add, ← hnew]; rfl)) ?_)
  refine nZ Z ?_
  have hfl2 : fn.toNat < (toldF C).length := by rw [toldF, List.length_map]; exact hkl
  refine oN (tN (sQ (rG (eK 3 Z (WO_nil' rfl Z (lt_of Z) Z Z Z (eZ Z ?_))))))
  refine WO_loadL tys Z Z (lt_of Z) Z Z Z Z (by rw [Nat.zero_add]; exact List.getElem?_set_self hfl2) Z ?_
  refine nZ Z ?_
  refine WO_call Z Z (lt_of Z) Z Z (es := [.t (T.ints (p.funcs[fn.toNat]'(by omega)).body), .rp (.agg [T.int s]) 0, .rp (.agg [T.int g]) 0]) (ResL.raw (id := 133) (j := fn.toNat * 4 + 2) Z (hcv 2 (by decide)) (by rw [List.getElem?_set_ne (by omega)]; exact hct 2 (by decide)) (ResL.ref Z (ResL.t ResL.done) (ResL.ref Z (ResL.t ResL.done) ResL.done))) (left_fun _ s g hf.1 (vals_in hib (by omega) (by omega)) hs0 (by omega) (by omega)) Z ?_
  refine nZ Z (WO_nil' rfl Z (lt_of Z) Z Z Z (eZ Z (kZ [6,7,8,10,45,47] Z ?_)))
  refine WO_storeL tys [T.ints (leftI s g (p.funcs[fn.toNat]'(by omega)).body)] Z Z Z Z Z Z (by rw [Nat.zero_add]; exact List.getElem?_set_self hfl2) Z (by repeat (first | exact AbsL.nil' | refine AbsL.v' ?_ | refine AbsL.own' ?_)) Z (by decide) (Nat.le_of_ble_eq_true Z) ?_
  refine nZ Z (WO_le (Le.eqM (id := 101) Z (k' := .L 4 ((toldF C).set fn.toNat (.agg [T.int (p.funcs[fn.toNat]'(by omega)).params, T.int (p.funcs[fn.toNat]'(by omega)).vars, T.ints (leftI s g (p.funcs[fn.toNat]'(by omega)).body), .v (.slice (some ⟨b, 0, none⟩) K'.length cap)]))) (by rw [Nat.zero_add, List.set_set]; rfl)) ?_)
  refine nZ Z (nZ Z (oN (tN (sQ (sQ (rG (eZ Z (WO_nil' rfl Z (lt_of Z) Z Z Z (eZ Z ?_)))))))))
  refine WO_loadL tys Z Z (lt_of Z) Z Z Z Z (by rw [Nat.zero_add]; exact List.getElem?_set_self hfl2) Z ?_
  refine nZ Z (WO_le (Le.namedS (t := 51) 1102 Z Z (by omega)) (nZ Z (evE ?_)))
  refine eZ Z (oN (tN (W_block ?_)))
  refine lK (α := Int × List T) [6, 7, 8, 10, 51, 52] [5, 6, 7, 9, 101, 133, 135, 1102] (fun x => [(53, .t (.int (x.1)))]) (fun x => [(102, .L 5 (x.2))]) (fun x => 0 ≤ (x.1) ∧ (x.1) ≤ K'.length ∧ (x.2) = mixS s g K' (x.1).toNat) (fun x => Int.toNat (K'.length - (x.1))) (0, toldS K') ?_ (fun x hx => ?_)
  · exact ⟨by omega, by omega, (mixS_zero ..).symm⟩
  obtain ⟨k, zs⟩ := x
  obtain ⟨hk0, hk1, hzs⟩ := hx
  dsimp only at hk0 hk1 hzs ⊢
  refine nY Z (sQ (rG (eZ Z (oN (tN (sQ ?_))))))
  refine W_cond Z (fun h1 => ?_) (fun h1 => ?_)
  ·
    simp only [HS] at h1
    refine W_skip (tN (sQ (W_block (sQ (rG (eZ Z ?_))))))
    have hkk : k.toNat < K'.length := by omega
    obtain ⟨w0, w1, w2, w3, w4, hw⟩ : ∃ w0 w1 w2 w3 w4, (K'[k.toNat]'hkk).2 = [w0, w1, w2, w3, w4] := by
     have h4 := hK2' _ (List.getElem_mem hkk)
     match (K'[k.toNat]'hkk).2, h4 with
     | [w0, w1, w2, w3, w4], _ => exact ⟨_, _, _, _, _, rfl⟩
    have hz : zs[k.toNat]? = some (.agg [.v w0, .v w1, .v w2, .v w3, .v w4]) := by rw [hzs, mixS_at s g K' hkk, hw]; rfl
    have hzl : zs.length = K'.length := by rw [hzs, mixS_len]
    have hkv : ∀ j, j < 5 → (K'.flatMap fun c : Stmt × List Value => c.2)[k.toNat * 5 + j]? = [w0, w1, w2, w3, w4][j]? := fun j hj => by rw [flat_atv hK2' hkk hj, hw]
    have hkt : ∀ j, j < 5 → ((K'.map (·.1)).flatMap fun x => T.cells (Stmt.tt x))[k.toNat * 5 + j]? = (T.cells (K'[k.toNat]'hkk).1.tt)[j]? := fun j hj => by
     rw [flat_atv (n := 5) (fun _ _ => rfl) (by rw [List.length_map]; exact hkk) hj, List.getElem_map]
    have hso : (K'[k.toNat]'hkk).1.thn.length ≤ 1048576 ∧ (K'[k.toNat]'hkk).1.els.length ≤ 1048576 ∧ (∀ x, x ∈ (K'[k.toNat]'hkk).1.thn → -1073741824 ≤ x ∧ x ≤ 1073741824) ∧ (∀ x, x ∈ (K'[k.toNat]'hkk).1.els → -1073741824 ≤ x ∧ x ≤ 1073741824) := by
     have hin : (K'[k.toNat]'hkk).1 ∈ (p.funcs[fn.toNat]'(by omega)).stmts := by
      rw [← hK1]
      exact List.mem_map.2 ⟨_, hKm _ (List.getElem_mem hkk), rfl⟩
     obtain ⟨m, hm, e⟩ := List.getElem_of_mem hin
     rw [← e]
     have ho := stmt_ok hf hm
     have hkd := hd m (by omega) (by omega)
     rw [kids_at (by omega)] at hkd
     exact ⟨ho.1, ho.2.1, vals_in (inB_lower hkd.1 (show (0 : Int) ≤ m + 1 by omega)) (by omega) (by omega), vals_in (inB_lower hkd.2 (show (0 : Int) ≤ m + 1 by omega)) (by omega) (by omega)⟩
    refine WO_idxS tys Z Z (lt_of Z) Z Z Z Z Z Z Z Z hk0 (by omega) (nZ Z (WO_loadL tys Z Z (lt_of Z) Z Z Z Z (by rw [Nat.zero_add]; exact hz) Z ?_))
    refine nZ Z (nZ Z (WO_alloc tys Z Z (lt_of Z) Z Z Z (nZ Z (eZ Z (sT Z (nZ Z (oN (tN (kY [6,7,8,10,11,12,51,52,53,54,55,56,57] Z (W_regionH [[], [], [], [], [], [], [], [], [], [102], [], [], [], [], [], [], [], [], [], [], [], [], [], []] mixed (by kernel_rfl) (QH_G0 (QG_ev tys Z Z (lt_of Z) Z (QG_nil (QH_G0 (QG_nil' rfl Z (lt_of Z) Z Z Z ?_)))))))))))))))
    refine QG_nil (QH_G0 (QG_ev tys Z Z (lt_of Z) Z (QG_nil (QH_G ?_))))
    refine QG_loadLS tys 1102 Z Z (lt_of Z) Z Z Z Z (by rw [Nat.zero_add]; exact List.getElem?_set_self hfl2) Z Z (by omega) ?_
    refine QG_nil (QH_norm Z (QH_G0 (QG_ev tys Z Z (lt_of Z) Z (QG_nil (QH_G0 (QG_ev tys Z Z (lt_of Z) Z (QG_nil (QH_G0 (QG_nil' rfl Z (lt_of Z) Z Z Z (QG_nil (QH_G0 (QG_ev tys Z Z (lt_of Z) Z (QG_nil (QH_norm Z (QH_G ?_)))))))))))))))
    refine QG_loadLS tys 1102 Z Z (lt_of Z) Z Z Z Z (by rw [Nat.zero_add]; exact List.getElem?_set_self hfl2) Z Z (by omega) ?_
    refine QG_nil (QH_G (QG_ev tys Z Z (lt_of Z) Z (QG_nil (QH_G0 (QG_ev tys Z Z (lt_of Z) Z (QG_nil (QH_G0 (QG_ev tys Z Z (lt_of Z) Z (QG_nil (QH_norm Z (QH_G0 (QG_ev tys Z Z (lt_of Z) Z (QG_nil (QH_G (QG_call Z Z (lt_of Z) Z Z (es := [.t (T.ints (K'[k.toNat]'hkk).1.thn), .rp (.agg [T.int s]) 0, .rp (.agg [T.int g]) 0]) (ResL.raw (id := 135) (j := k.toNat * 5 + 3) Z (hkv 3 (by decide)) (hkt 3 (by decide)) (ResL.ref Z (ResL.t ResL.done) (ResL.ref Z (ResL.t ResL.done) ResL.done))) (left_fun _ s g hso.1 hso.2.2.1 hs0 (by omega) (by omega)) Z ?_)))))))))))))))
    refine QG_nil (QH_G0 (QG_ev tys Z Z (lt_of Z) Z (QG_nil (QH_G0 (QG_ev tys Z Z (lt_of Z) Z (QG_nil (QH_norm Z (QH_G0 (QG_ev tys Z Z (lt_of Z) Z (QG_nil (QH_G (QG_call Z Z (lt_of Z) Z Z (es := [.t (T.ints (K'[k.toNat]'hkk).1.els), .rp (.agg [T.int s]) 0, .rp (.agg [T.int g]) 0]) (ResL.raw (id := 135) (j := k.toNat * 5 + 4) Z (hkv 4 (by decide)) (hkt 4 (by decide)) (ResL.ref Z (ResL.t ResL.done) (ResL.ref Z (ResL.t ResL.done) ResL.done))) (left_fun _ s g hso.2.1 hso.2.2.2 hs0 (by omega) (by omega)) Z (QG_nil (QH_G (QG_idxS tys Z Z (lt_of Z) Z Z Z Z Z Z Z Z hk0 (by omega) ?_)))))))))))))))
    refine QG_nil (QH_G0 (QG_ev tys Z Z (lt_of Z) Z (QG_nil (QH_norm Z ?_))))
    refine QH_storeL tys [T.ints (leftI s g (K'[k.toNat]'hkk).1.thn)] Z Z Z Z Z Z (by rw [Nat.zero_add]; exact hz) Z Z (by repeat (first | exact AbsL.nil' | refine AbsL.v' ?_ | refine AbsL.own' ?_)) Z (by decide) (Nat.le_of_ble_eq_true Z) ?_
    refine QH_G (QG_idxS tys Z Z (lt_of Z) Z Z Z Z Z Z Z Z hk0 (by omega) (QG_nil (QH_G0 (QG_ev tys Z Z (lt_of Z) Z (QG_nil ?_)))))
    refine QH_storeL tys [T.ints (leftI s g (K'[k.toNat]'hkk).1.els)] Z Z Z Z Z Z (by rw [Nat.zero_add]; exact List.getElem?_set_self (by omega)) Z Z (by repeat (first | exact AbsL.nil' | refine AbsL.v' ?_ | refine AbsL.own' ?_)) Z (by decide) (Nat.le_of_ble_eq_true Z) ?_
    refine QH_norm Z (QH_nil ?_)
    refine ⟨by kernel_rfl, ?_⟩
    refine nZ Z (oN (bN (tN (rG (evI ?_)))))
    refine eZ Z (oN ?_)
    refine lQ (_, _) ?_ ?_
    · dsimp only
      refine ⟨by omega, by omega, ?_⟩
      rw [hzs, Nat.zero_add, List.set_set, show (k + 1).toNat = k.toNat + 1 from by omega, ← mixS_set s g K' hkk]
      congr 1
      unfold doneS
      rw [hw]
      rfl
    · (show Int.toNat _ < Int.toNat _); omega
  simp only [HS] at h1
  refine W_exit (tE (loopQ_e (inBlk_y (tN (sQ (rG ?_))))))
  have hzs' : zs = K'.map (doneS s g) := by rw [hzs, mixS_end s g K' (by omega)]
  subst hzs'
  refine nZ Z (WO_le (Le.claimMix (id := 102) (idp := 135) (xs := ((K'.map (·.1)).map fun x : Stmt => (⟨x.kind, x.n, x.ex, leftI s g x.thn, leftI s g x.els⟩ : Stmt)).map Stmt.tt) Z Z (mixS_mix hK2') (by simp) (cellsS _) Z) ?_)
  refine nZ Z ?_
  refine WO_le (Le.claimL (id := 101) (id2 := 102) (pid := 1102) (i := fn.toNat) (off := 3) Z Z Z (List.getElem?_set_self hfl2) Z (by simp) Z) ?_
  refine nZ Z (WO_le (Le.eqM (id := 101) Z (k' := .L 4 ((toldF C).set fn.toNat (.agg [T.int (p.funcs[fn.toNat]'(by omega)).params, T.int (p.funcs[fn.toNat]'(by omega)).vars, T.ints (leftI s g (p.funcs[fn.toNat]'(by omega)).body), T.Stmts ((K'.map (·.1)).map fun x : Stmt => (⟨x.kind, x.n, x.ex, leftI s g x.thn, leftI s g x.els⟩ : Stmt))]))) (by rw [List.set_set]; rfl)) ?_)
  refine nZ Z ?_
  have hCf : (C[fn.toNat]'hkl).1 = p.funcs[fn.toNat]'(by omega) := by
   have : (C.map (·.1))[fn.toNat]'(by rw [List.length_map]; exact hkl) = p.funcs[fn.toNat]'(by omega) := by congr 1
   simpa using this
  have hmx := mixF_one (y := .v (.slice (some ⟨b, 0, none⟩) (p.funcs[fn.toNat]'(by omega)).stmts.length cap)) (e2 := T.ints (leftI s g (p.funcs[fn.toNat]'(by omega)).body)) (e3 := T.Stmts ((K'.map (·.1)).map fun x : Stmt => (⟨x.kind, x.n, x.ex, leftI s g x.thn, leftI s g x.els⟩ : Stmt))) hC2 hkl hv (by rw [hCf]) (by rw [hCf])
  rw [hC1] at hmx
  refine WO_le (Le.claimMix (id := 101) (idp := 133) Z Z hmx (by rw [List.length_set, List.length_set, toldF, List.length_map, List.length_map, hCl]) (fun x hx => by
   rcases List.mem_or_eq_of_mem_set hx with hx | rfl
   · exact cellsF _ x hx
   · rfl) rfl) ?_
  refine nZ Z (WO_le (Le.gatherBox (u := 7) (j := 0) (id := 101) Z Z Z (by simp) Z) ?_)
  refine nZ Z (WO_loadMove tys Z Z (lt_of Z) Z Z Z Z Z Z (nZ Z (sT Z (nZ Z (oN (tN (rT (eR ?_))))))))
  · rw [List.take_of_length_le (by simp), show K'.map (·.1) = (p.funcs[fn.toNat]'(by omega)).stmts.take s.toNat ++ (p.funcs[fn.toNat]'(by omega)).stmts.drop (s.toNat + g) from by rw [hK', List.map_append, List.map_take, List.map_drop, hK1], T.Funcs, List.map_set]
    rfl
open Go.Eng
theorem ctL_perm {α : Type} (ct : α → Int) {l l' : List α} (h : l.Perm l') : ctL ct l = ctL ct l' := by
 induction h with
 | nil => rfl
 | cons x _ ih => rw [ctL_cons, ctL_cons, ih]
 | swap x y l => rw [ctL_cons, ctL_cons, ctL_cons, ctL_cons]; omega
 | trans _ _ h1 h2 => rw [h1, h2]
open Go.Eng
theorem ctL_apps {α : Type} (ct : α → Int) (a b : List α) : ctL ct (a ++ b) = ctL ct a + ctL ct b := by
 unfold ctL; rw [List.map_append, List.sum_append]
open Go.Eng
def rr (s : Int) (g : Nat) (n : Int) : Int := if n < s then n else n - g
def leftZ (s : Int) (g : Nat) (x : Stmt) : Stmt := ⟨x.kind, x.n, x.ex, leftI s g x.thn, leftI s g x.els⟩
def stmZ (s : Int) (g : Nat) (l : List Stmt) : List Stmt := (l.take s.toNat ++ l.drop (s.toNat + g)).map (leftZ s g)
theorem leftI_cons (s : Int) (g : Nat) (n : Int) (b : List Int) : leftI s g (n :: b) = (if n < s then [n] else if s + g ≤ n then [n - g] else []) ++ leftI s g b := rfl
theorem leftI_app (s : Int) (g : Nat) (a b : List Int) : leftI s g (a ++ b) = leftI s g a ++ leftI s g b := by unfold leftI; rw [List.flatMap_append]
theorem leftI_mem {s : Int} {g : Nat} {b : List Int} {x : Int} : x ∈ leftI s g b ↔ ∃ n, n ∈ b ∧ (n < s ∨ s + g ≤ n) ∧ x = rr s g n := by
 unfold leftI
 rw [List.mem_flatMap]
 constructor
 ·rintro ⟨n, hn, hx⟩
  refine ⟨n, hn, ?_⟩
  unfold rr
  split at hx
  ·rename_i h; simp at hx; exact ⟨.inl h, by rw [if_pos h]; exact hx⟩
  ·rename_i h
   split at hx
   ·rename_i h2; simp at hx; exact ⟨.inr h2, by rw [if_neg h]; exact hx⟩
   ·simp at hx
 ·rintro ⟨n, hn, h, rfl⟩
  refine ⟨n, hn, ?_⟩
  unfold rr
  by_cases hs : n < s
  ·rw [if_pos hs, if_pos hs]; simp
  ·rw [if_neg hs, if_neg hs, if_pos (by omega)]; simp
theorem leftI_in {s : Int} {g : Nat} {b : List Int} {n : Int} (h : n < s ∨ s + g ≤ n) : leftI s g (n :: b) = rr s g n :: leftI s g b := by
 rw [leftI_cons]
 unfold rr
 by_cases hs : n < s
 ·rw [if_pos hs, if_pos hs]; rfl
 ·rw [if_neg hs, if_neg hs, if_pos (by omega)]; rfl
theorem leftI_gone {s : Int} {g : Nat} : ∀ {b : List Int}, (∀ x, x ∈ b → s ≤ x ∧ x < s + g) → leftI s g b = []
 | [], _ => rfl
 | n :: b, h => by
  have h1 := h n (by simp)
  rw [leftI_cons, if_neg (by omega), if_neg (by omega), leftI_gone fun x hx => h x (by simp [hx])]
  rfl
section
variable {f : Func} {s : Int} {g : Nat}
theorem stmZ_len (h0 : 0 ≤ s) (h2 : s + g ≤ f.stmts.length) : (stmZ s g f.stmts).length + g = f.stmts.length := by
 unfold stmZ
 simp only [List.length_map, List.length_append, List.length_take, List.length_drop]
 omega
theorem rr_rng {n : Int} (h0 : 0 ≤ s) (h : n < s ∨ s + g ≤ n) (hn0 : 0 ≤ n) (hn1 : n < f.stmts.length) (h2 : s + g ≤ f.stmts.length) : 0 ≤ rr s g n ∧ rr s g n < (stmZ s g f.stmts).length := by
 have := stmZ_len (f := f) h0 h2
 unfold rr
 split <;> omega
theorem stmZ_at {n : Int} (h0 : 0 ≤ s) (h : n < s ∨ s + g ≤ n) (hn0 : 0 ≤ n) (hn1 : n < f.stmts.length) (h2 : s + g ≤ f.stmts.length) : (stmZ s g f.stmts)[(rr s g n).toNat]? = some (leftZ s g (f.stmts[n.toNat]'(by omega))) := by
 unfold stmZ rr
 rw [List.getElem?_map]
 by_cases hs : n < s
 ·rw [if_pos hs, List.getElem?_append_left (by rw [List.length_take]; omega), List.getElem?_take_of_lt (by omega), List.getElem?_eq_getElem (by omega)]
  rfl
 ·rw [if_neg hs, List.getElem?_append_right (by rw [List.length_take]; omega), List.getElem?_drop, List.length_take, show s.toNat + g + ((n - g).toNat - min s.toNat f.stmts.length) = n.toNat from by omega, List.getElem?_eq_getElem (by omega)]
  rfl
theorem kidsZ {n : Int} (h0 : 0 ≤ s) (h : n < s ∨ s + g ≤ n) (hn0 : 0 ≤ n) (hn1 : n < f.stmts.length) (h2 : s + g ≤ f.stmts.length) : kids (stmZ s g f.stmts) (rr s g n) = (leftI s g (kids f.stmts n).1, leftI s g (kids f.stmts n).2) := by
 have h' := stmZ_at h0 h hn0 hn1 h2
 rw [kids_at (l := f.stmts) (by omega)]
 unfold kids
 rw [h']
 rfl
theorem old_of {m : Int} (h0 : 0 ≤ s) (h2 : s + g ≤ f.stmts.length) (hm0 : 0 ≤ m) (hm1 : m < (stmZ s g f.stmts).length) : ∃ n, (n < s ∨ s + g ≤ n) ∧ 0 ≤ n ∧ n < f.stmts.length ∧ rr s g n = m := by
 have hl := stmZ_len (f := f) h0 h2
 by_cases h : m < s
 ·exact ⟨m, .inl h, hm0, by omega, by unfold rr; rw [if_pos h]⟩
 ·exact ⟨m + g, .inr (by omega), by omega, by omega, by unfold rr; rw [if_neg (by omega)]; omega⟩
theorem inB_left {i : Int} {b : List Int} (h0 : 0 ≤ s) (h2 : s + g ≤ f.stmts.length) (hi : 0 ≤ i) (hb : inB f.stmts.length i b) : inB (stmZ s g f.stmts).length 0 (leftI s g b) := fun x hx => by
 obtain ⟨n, hn, h, rfl⟩ := leftI_mem.1 hx
 have := hb n hn
 exact rr_rng h0 h (by omega) this.2 h2
theorem downZ (h0 : 0 ≤ s) (h2 : s + g ≤ f.stmts.length) (hd : downB f.stmts.length (kids f.stmts)) : downB (stmZ s g f.stmts).length (kids (stmZ s g f.stmts)) := by
 intro m hm0 hm1
 obtain ⟨n, hn, hn0, hn1, rfl⟩ := old_of h0 h2 hm0 hm1
 rw [kidsZ h0 hn hn0 hn1 h2]
 have hk := hd n hn0 hn1
 have key : ∀ b, inB f.stmts.length (n + 1) b → inB (stmZ s g f.stmts).length (rr s g n + 1) (leftI s g b) := fun b hb x hx => by
  obtain ⟨y, hy, h, rfl⟩ := leftI_mem.1 hx
  have h3 := hb y hy
  have h4 := rr_rng (f := f) h0 h (by omega) h3.2 h2
  refine ⟨?_, h4.2⟩
  unfold rr
  split <;> split <;> omega
 exact ⟨key _ hk.1, key _ hk.2⟩
theorem count_two {l : List Int} {F : Int → List Int} {x n m : Int} (hn : n ∈ l) (hm : m ∈ l) (hne : n ≠ m) (h1 : x ∈ F n) (h2 : x ∈ F m) : 2 ≤ (l.flatMap F).count x := by
 induction l with
 | nil => simp at hn
 | cons y l ih =>
  rw [List.flatMap_cons, List.count_append]
  have pos : ∀ k, k ∈ l → x ∈ F k → 1 ≤ (l.flatMap F).count x := fun k hk hx => List.count_pos_iff.2 (List.mem_flatMap.2 ⟨k, hk, hx⟩)
  rcases List.mem_cons.1 hn with e | hn'
  ·subst e
   have hm' := (List.mem_cons.1 hm).resolve_left (Ne.symm hne)
   have := pos m hm' h2
   have := List.count_pos_iff.2 h1
   omega
  ·rcases List.mem_cons.1 hm with e | hm'
   ·subst e
    have := pos n hn' h1
    have := List.count_pos_iff.2 h2
    omega
   ·have := ih hn' hm'
    omega
theorem enter (hsh : shapeF f = true) (h0 : 0 ≤ s) (h1 : s < f.stmts.length) (hg : g = goneN f s) : (∀ n : Int, 0 ≤ n → n < f.stmts.length → (n < s ∨ s + g ≤ n) → ∀ x, x ∈ both (kids f.stmts) n → s ≤ x → x < s + g → x = s) ∧ ∀ x, x ∈ f.body → s ≤ x → x < s + g → x = s := by
 obtain ⟨hd, hb, ho⟩ := shapeF_iff hsh
 obtain ⟨g1, g2, g3⟩ := gone_run hsh h0 h1
 rw [← hg] at g1 g3
 obtain ⟨o1, _, _⟩ := once_of_ord hd hb ho
 have hin1 : inB f.stmts.length 0 [s] := fun x hx => by rw [List.mem_singleton] at hx; subst hx; exact ⟨h0, h1⟩
 have par : ∀ x, s ≤ x → x < s + g → ¬ x = s → ∃ m, (s ≤ m ∧ m < s + g) ∧ x ∈ both (kids f.stmts) m := fun x hx1 hx2 hne => by
  have hc := ord_count hd hin1 x
  have e : ord f.stmts.length (kids f.stmts) [s] = run s g := g1
  rw [e] at hc
  have hx : 1 ≤ (run s g).count x := List.count_pos_iff.2 (mem_run.2 ⟨hx1, hx2⟩)
  have hz : [s].count x = 0 := List.count_eq_zero_of_not_mem (by simpa using hne)
  have hp : 0 < ((run s g).flatMap (both (kids f.stmts))).count x := by omega
  obtain ⟨m, hm, hxm⟩ := List.mem_flatMap.1 (List.count_pos_iff.1 hp)
  exact ⟨m, mem_run.1 hm, hxm⟩
 refine ⟨fun n hn0 hn1 hn x hx hx1 hx2 => Classical.byContradiction fun hne => ?_, fun x hx hx1 hx2 => Classical.byContradiction fun hne => ?_⟩
 ·obtain ⟨m, hm, hxm⟩ := par x hx1 hx2 hne
  have h2 := o1 x (by omega) (by omega)
  unfold allB at h2
  rw [List.count_append] at h2
  have h3 := count_two (l := upto f.stmts.length) (F := both (kids f.stmts)) (x := x) (n := n) (m := m) (mem_upto.2 ⟨hn0, hn1⟩) (mem_upto.2 ⟨by omega, by omega⟩) (by omega) hx hxm
  omega
 ·obtain ⟨m, hm, hxm⟩ := par x hx1 hx2 hne
  have h2 := o1 x (by omega) (by omega)
  unfold allB at h2
  rw [List.count_append] at h2
  have h3 : 1 ≤ f.body.count x := List.count_pos_iff.2 hx
  have h4 : 1 ≤ ((upto f.stmts.length).flatMap (both (kids f.stmts))).count x := List.count_pos_iff.2 (List.mem_flatMap.2 ⟨m, mem_upto.2 ⟨by omega, by omega⟩, hxm⟩)
  omega
theorem left_ord (hsh : shapeF f = true) (h0 : 0 ≤ s) (h1 : s < f.stmts.length) (hg : g = goneN f s) {b : List Int} (hb : inB f.stmts.length 0 b) (hc : ∀ x, x ∈ b → s ≤ x → x < s + g → x = s) :
  leftI s g (ord f.stmts.length (kids f.stmts) b) = ord (stmZ s g f.stmts).length (kids (stmZ s g f.stmts)) (leftI s g b) := by
 obtain ⟨hd, hbo, ho⟩ := shapeF_iff hsh
 obtain ⟨g1, g2, g3⟩ := gone_run hsh h0 h1
 rw [← hg] at g1 g2 g3
 have hcl := (enter hsh h0 h1 hg).1
 have hd' := downZ (f := f) (g := g) h0 g3 hd
 have g1' : ord f.stmts.length (kids f.stmts) [s] = run s g := g1
 refine ord_ind' hd (p := fun b o => (∀ x, x ∈ b → s ≤ x → x < s + g → x = s) → leftI s g o = ord (stmZ s g f.stmts).length (kids (stmZ s g f.stmts)) (leftI s g b)) ?_ ?_ hb hc
 ·intro _
  rw [show leftI s g [] = [] from rfl, ord_nil]
 ·intro n b hn0 hn1 hb i1 i2 i3 hc
  have hcb := i3 fun x hx => hc x (by simp [hx])
  have hin1 : inB f.stmts.length 0 [n] := fun x hx => by rw [List.mem_singleton] at hx; subst hx; exact ⟨hn0, hn1⟩
  have hk := hd n hn0 hn1
  by_cases hs : n = s
  ·have e : n :: (ord f.stmts.length (kids f.stmts) (kids f.stmts n).1 ++ ord f.stmts.length (kids f.stmts) (kids f.stmts n).2) = run s g := by
    rw [← g1', ← hs, ord_cons hd hin1, ord_nil, List.append_nil]
   rw [e, leftI_app, leftI_gone (fun x hx => mem_run.1 hx), hcb, leftI_cons, if_neg (by omega), if_neg (by omega)]
   rfl
  ·have hng : n < s ∨ s + g ≤ n := by
    by_cases h : n < s ∨ s + g ≤ n
    ·exact h
    ·exact absurd (hc n (by simp) (by omega) (by omega)) hs
   have hcn := hcl n hn0 hn1 hng
   have e1 := i1 fun x hx => hcn x (List.mem_append_left _ hx)
   have e2 := i2 fun x hx => hcn x (List.mem_append_right _ hx)
   have hr := rr_rng (f := f) h0 hng hn0 hn1 g3
   rw [List.cons_append, leftI_in hng, leftI_app, leftI_app, e1, e2, hcb, leftI_in hng, ord_cons hd' (fun x hx => by
    rcases List.mem_cons.1 hx with rfl | hx
    ·exact hr
    ·exact inB_left h0 g3 (by omega) hb x hx), kidsZ h0 hng hn0 hn1 g3, List.cons_append]
theorem left_upto (h0 : 0 ≤ s) (h2 : s + g ≤ f.stmts.length) : leftI s g (upto f.stmts.length) = upto (stmZ s g f.stmts).length := by
 have hl := stmZ_len (f := f) h0 h2
 have e : run 0 f.stmts.length = run 0 s.toNat ++ (run s g ++ run (s + g) (f.stmts.length - s.toNat - g)) := by
  have a := run_add 0 s.toNat (g + (f.stmts.length - s.toNat - g))
  have b := run_add (0 + (s.toNat : Int)) g (f.stmts.length - s.toNat - g)
  rw [b, show s.toNat + (g + (f.stmts.length - s.toNat - g)) = f.stmts.length from by omega, show (0 : Int) + (s.toNat : Int) = s from by omega] at a
  exact a
 have k1 : ∀ {l : List Int}, (∀ x, x ∈ l → x < s) → leftI s g l = l := by
  intro l
  induction l with
  | nil => intro _; rfl
  | cons y l ih => intro h; rw [leftI_cons, if_pos (h y (by simp)), ih fun x hx => h x (by simp [hx])]; rfl
 have k2 : ∀ {l : List Int}, (∀ x, x ∈ l → s + g ≤ x) → leftI s g l = l.map fun x : Int => x - (g : Int) := by
  intro l
  induction l with
  | nil => intro _; rfl
  | cons y l ih =>
   intro h
   have := h y (by simp)
   rw [leftI_cons, if_neg (by omega), if_pos this, ih fun x hx => h x (by simp [hx])]; rfl
 have k3 : ∀ (m : Int) (c : Nat), (run (m + g) c).map (fun x => x - (g : Int)) = run m c := fun m c => by
  unfold run
  rw [List.map_map]
  refine List.map_congr_left fun i _ => ?_
  show m + (g : Int) + (i : Int) - g = m + i
  omega
 rw [upto_run, upto_run, e, leftI_app, leftI_app, leftI_gone (fun x hx => mem_run.1 hx), k1 (fun x hx => by have := (mem_run.1 hx).2; omega), k2 (fun x hx => (mem_run.1 hx).1), k3, List.nil_append]
 have a := run_add 0 s.toNat (f.stmts.length - s.toNat - g)
 rw [show (0 : Int) + (s.toNat : Int) = s from by omega] at a
 rw [← a]
 congr 1
 omega
theorem sites_len (l : List Stmt) : ∀ k, (sitesF l k).length = (l.filter fun x => decide (x.kind = 3)).length := by
 induction l with
 | nil => intro k; rfl
 | cons x l ih =>
  intro k
  rw [sitesF, List.filter_cons]
  split
  ·rename_i h; rw [if_pos (by simpa using h)]; simp [ih]
  ·rename_i h; rw [if_neg (by simpa using h)]; exact ih _
theorem stmtG_left {vars : Int} {ps : List Int} {x : Stmt} (h : stmtG vars ps x = true) : stmtG vars ps (leftZ s g x) = true := by
 have h1 := leftI_len s g x.thn
 have h2 := leftI_len s g x.els
 have e : lens (leftZ s g x) ≤ lens x ∧ 0 ≤ lens (leftZ s g x) := by unfold lens leftZ; dsimp only; omega
 have e2 : ((leftZ s g x).els.length : Int) ≤ x.els.length := by show ((leftI s g x.els).length : Int) ≤ _; omega
 have k1 : (leftZ s g x).kind = x.kind := rfl
 have k2 : (leftZ s g x).n = x.n := rfl
 have k3 : (leftZ s g x).ex = x.ex := rfl
 unfold stmtG stmtW at h ⊢
 rw [k1, k2, k3]
 grind
def leftY (s : Int) (g : Nat) (f : Func) : Func := ⟨f.params, f.vars, leftI s g f.body, stmZ s g f.stmts⟩
theorem goodF_left {ps : List Int} (hgf : goodF ps f = true) (h0 : 0 ≤ s) (h1 : s < f.stmts.length) (hg : g = goneN f s) : goodF ps (leftY s g f) = true := by
 have hsh := goodF_shape hgf
 obtain ⟨hd, hb, ho⟩ := shapeF_iff hsh
 obtain ⟨g1, g2, g3⟩ := gone_run hsh h0 h1
 rw [← hg] at g1 g2 g3
 have hl := stmZ_len (f := f) h0 g3
 have hen := enter hsh h0 h1 hg
 have hd' := downZ (f := f) (g := g) h0 g3 hd
 unfold goodF
 rw [Bool.and_eq_true]
 constructor
 ·have hsh' := hsh
  unfold shapeF at hsh' ⊢
  simp only [Bool.and_eq_true] at hsh' ⊢
  obtain ⟨s1, s2, s3, s4⟩ := hsh'
  refine ⟨?_, ?_, ?_, ?_⟩
  ·unfold okNum at s1 ⊢
   simp only [Bool.and_eq_true, decide_eq_true_eq] at s1 ⊢
   refine ⟨s1.1, s1.2.1, ?_⟩
   show ((stmZ s g f.stmts).length : Int) ≤ 16
   omega
  ·unfold siteB at s2 ⊢
   rw [decide_eq_true_eq] at s2 ⊢
   rw [sites_len] at s2 ⊢
   have hf : ((stmZ s g f.stmts).filter fun x => decide (x.kind = 3)).length = ((f.stmts.take s.toNat ++ f.stmts.drop (s.toNat + g)).filter fun x => decide (x.kind = 3)).length := by
    unfold stmZ
    rw [List.filter_map, List.length_map]
    rfl
   have hq : ((f.stmts.take s.toNat ++ f.stmts.drop (s.toNat + g)).filter fun x => decide (x.kind = 3)).length ≤ (f.stmts.filter fun x => decide (x.kind = 3)).length := by
    refine List.Sublist.length_le (List.Sublist.filter _ ?_)
    have e : f.stmts = f.stmts.take s.toNat ++ (((f.stmts.drop s.toNat).take g) ++ f.stmts.drop (s.toNat + g)) := by
     rw [show f.stmts.drop (s.toNat + g) = (f.stmts.drop s.toNat).drop g from by rw [List.drop_drop], List.take_append_drop, List.take_append_drop]
    conv => rhs; rw [e]
    exact List.Sublist.append_left (List.sublist_append_right _ _) _
   show (((stmZ s g f.stmts).filter fun x => decide (x.kind = 3)).length : Int) ≤ 4
   rw [hf]
   omega
  ·rw [shapeB_iff]
   refine ⟨hd', inB_left h0 g3 (Int.le_refl 0) hb, ?_⟩
   show ord (stmZ s g f.stmts).length (kids (stmZ s g f.stmts)) (leftI s g f.body) = upto (stmZ s g f.stmts).length
   rw [← left_ord hsh h0 h1 hg hb hen.2, ho, left_upto h0 g3]
  ·unfold whileB at s4 ⊢
   rw [List.all_eq_true] at s4 ⊢
   intro x hx
   have hx' : x ∈ stmZ s g f.stmts := hx
   obtain ⟨i, hi, rfl⟩ := List.getElem_of_mem hx'
   obtain ⟨n, hn, hn0, hn1, hr⟩ := old_of (f := f) (m := (i : Int)) h0 g3 (by omega) (by omega)
   have hat := stmZ_at (f := f) h0 hn hn0 hn1 g3
   rw [hr, show ((i : Int)).toNat = i from rfl, List.getElem?_eq_getElem hi] at hat
   rw [Option.some.inj hat]
   have h4 := s4 _ (List.getElem_mem (show n.toNat < f.stmts.length by omega))
   unfold whileOk at h4 ⊢
   show (if (f.stmts[n.toNat]'(by omega)).kind = 8 then noDef (leftY s g f) (leftI s g (f.stmts[n.toNat]'(by omega)).thn) else true) = true
   split
   ·rename_i hk
    rw [if_pos hk] at h4
    unfold noDef at h4 ⊢
    rw [List.all_eq_true] at h4 ⊢
    have hkd := hd n hn0 hn1
    have ekn : (kids f.stmts n).1 = (f.stmts[n.toNat]'(by omega)).thn := by rw [kids_at (by omega)]
    have e : ordF (leftY s g f) (leftI s g (f.stmts[n.toNat]'(by omega)).thn) = leftI s g (ordF f (f.stmts[n.toNat]'(by omega)).thn) := by
     rw [← ekn]
     exact (left_ord hsh h0 h1 hg (inB_lower hkd.1 (by omega)) (fun x hx => hen.1 n hn0 hn1 hn x (List.mem_append_left _ hx))).symm
    rw [e]
    intro y hy
    obtain ⟨m, hm, hmn, rfl⟩ := leftI_mem.1 hy
    have hr2 : inB f.stmts.length 0 (ordF f (f.stmts[n.toNat]'(by omega)).thn) := by
     rw [← ekn]; exact ord_range hd (inB_lower hkd.1 (by omega))
    have hm2 := hr2 m hm
    have h5 := h4 m hm
    have e3 : kindAt (leftY s g f) (rr s g m) = kindAt f m := by
     unfold kindAt
     show (match (stmZ s g f.stmts)[(rr s g m).toNat]? with | some s => s.kind | none => 0) = _
     rw [stmZ_at h0 hmn hm2.1 hm2.2 g3, List.getElem?_eq_getElem (by omega)]
     rfl
    rw [e3]
    exact h5
   ·rfl
 ·rw [List.all_eq_true]
  intro x hx
  have hx' : x ∈ stmZ s g f.stmts := hx
  unfold stmZ at hx'
  obtain ⟨y, hy, rfl⟩ := List.mem_map.1 hx'
  have hyf : y ∈ f.stmts := by
   rcases List.mem_append.1 hy with h | h
   ·exact List.mem_of_mem_take h
   ·exact List.mem_of_mem_drop h
  unfold goodF at hgf
  rw [Bool.and_eq_true, List.all_eq_true] at hgf
  exact stmtG_left (hgf.2 y hyf)
end
theorem leftF_Y {f : Func} {s : Int} (hsh : shapeF f = true) (h0 : 0 ≤ s) (h1 : s < f.stmts.length) : leftF (ordF f [s]) f = leftY s (goneN f s) f := by
 obtain ⟨g1, g2, g3⟩ := gone_run hsh h0 h1
 rw [g1, leftF_run f h0]
 rfl
theorem dropP_at {p : Prog} {fn s : Int} {k : Nat} (hk : k < p.funcs.length) : (dropP p fn s).funcs[k]'(by rw [dropP_len]; exact hk) = if (k : Int) = fn then leftF (ordF (p.funcs[k]) [s]) (p.funcs[k]) else p.funcs[k] := by
 have e : funcAt p (k : Int) = p.funcs[k] := (funcAt_at (n := (k : Int)) (by omega)).symm
 unfold dropP
 rw [List.getElem_map, List.getElem_range, e]
 unfold goneK
 split
 ·rw [e]
 ·exact leftF_nil _
theorem goodP_drop {p : Prog} {fn s : Int} (hg : goodP p = true) (hf0 : 0 ≤ fn) (hf1 : fn < p.funcs.length) (hs0 : 0 ≤ s) (hs1 : s < (funcAt p fn).stmts.length) : goodP (dropP p fn s) = true := by
 have hpa : paramsL (dropP p fn s) = paramsL p := by
  refine List.ext_getElem (by rw [paramsL_len, paramsL_len, dropP_len]) fun k h1 h2 => ?_
  rw [paramsL_len] at h2
  have a1 : (paramsL (dropP p fn s))[k] = ((dropP p fn s).funcs[k]'(by rw [dropP_len]; exact h2)).params := List.getElem_map ..
  have a2 : (paramsL p)[k]'(by rw [paramsL_len]; exact h2) = (p.funcs[k]).params := List.getElem_map ..
  rw [a1, a2, dropP_at h2]
  split <;> rfl
 have hg' := hg
 unfold goodP at hg ⊢
 simp only [Bool.and_eq_true, decide_eq_true_eq] at hg ⊢
 rw [hpa, dropP_len]
 refine ⟨hg.1, hg.2.1, hg.2.2.1, ?_⟩
 rw [List.all_eq_true]
 intro x hx
 obtain ⟨k, hk, rfl⟩ := List.getElem_of_mem hx
 have hk' := hk
 rw [dropP_len] at hk'
 rw [dropP_at hk']
 have hgf := goodP_fn hg' hk'
 split
 ·rename_i e
  have hfe : funcAt p fn = p.funcs[k] := by rw [← e]; exact (funcAt_at (n := (k : Int)) (by omega)).symm
  rw [hfe] at hs1
  rw [leftF_Y (goodF_shape hgf) hs0 hs1]
  exact goodF_left hgf hs0 hs1 rfl
 ·exact hgf
open Go.Eng
def rS (pv iv : Value) (most fu co : Int) (m : Ms) : List D := [.t (.v pv), .t (.v iv), .t (.int most), .t (.int fu), .t (.int m.deep), .t (.int co), .t (.int 0), .own (T.ints m.trace), .t (.int m.used)]
def gC (fn : Int) (vars off : List Int) (res e pan : Int) (exd : Bool) (bp : Value) : List D := [.t (.int fn), .own (T.ints vars), .t (.int res), .own (T.ints off), .t (.int e), .t (.int pan), .t (.bool exd), .t (.v bp)]
structure Kp where
 fn : Int
 vars : List Int
 off : List Int
 res : Int
 bp : Value
def byP (bb : Nat) : Option By → Value
 | none => .pointer none
 | some _ => .pointer (some ⟨bb, 0, none⟩)
def hH : Option By → Int
 | none => 0
 | some b => b.how
def nH : Option By → Int
 | none => 0
 | some b => b.pan
def xH : Option By → Bool
 | none => false
 | some b => b.exd
def byK (bb : Nat) (q : Kp) (b : Option By) : Blk := .obox (byP bb b) (gC q.fn q.vars q.off q.res (hH b) (nH b) (xH b) q.bp)
def fuH (h : Int) (m : Ms) : Int := if h = 4 then (m.fuel : Int) + 1 else m.fuel
def coH (h : Int) : Int := if 4 ≤ h then h else 0
def haH (h : Int) : Int := if 4 ≤ h then 4 else h
theorem retPBi {b b' : Bool} (h : b = b') : tupD [D.t (T.v (Value.bool b))] = D.t (T.bool b') := by rw [h]; rfl
theorem retPIi {b b' : Int} (h : b = b') : tupD [D.t (T.v (Value.int .i64 b))] = D.t (T.int b') := by rw [h]; rfl
theorem burnI_fun (bm : Nat) (pv iv : Value) (most : Int) (m : Ms) (rv : List Value) (rt : List T) (hm : m.fuel ≤ 1048576) : Proc Tryz.prog 175 [.t (.v (.pointer (some ⟨bm, 0, none⟩)))] (rv) (rt) [.obox (.pointer (some ⟨bm, 0, none⟩)) (rS pv iv most m.fuel 0 m)] (.t (.bool (decide (m.fuel ≠ 0)))) [.obox (.pointer (some ⟨bm, 0, none⟩)) (rS pv iv most (burnM m).fuel (if m.fuel = 0 then 5 else 0) (burnM m))] := by
 refine Proc.intro tys Tryz.func175 Z Z (N := 19) [100] 99 ([(0, .t (.v (.pointer (some ⟨bm, 0, none⟩))))]) ([(100, .obox (.pointer (some ⟨bm, 0, none⟩)) (rS pv iv most m.fuel 0 m)), (99, .ro rv rt)]) Z Z Z Z (by decide) (by decide) Z (fun w0 G F0 => ?_)
 refine nY Z (W_le (Le.openNew (u := 100) 1100 Z Z Z Z Z) (nY Z (W_le (Le.named (t := 0) (u := 100) 1100 Z Z) (nY Z (sQ (rG (eZ Z (oN (tN (sQ (sQ (rG (eZ Z (WO_nil' rfl Z (lt_of Z) Z Z Z (eK 3 Z ?_)))))))))))))))
 refine oN (tN ?_)
 refine W_cond Z (fun h1 => ?_) (fun h1 => ?_)
 ·
  simp only [HS] at h1
  refine sQ (rG (eZ Z (WO_nil' rfl Z (lt_of Z) Z Z Z (eZ Z (kZ [0,2,10] Z (eZ Z (sT Z (nZ Z (oN (tN (sQ (rG (eZ Z (oN (tN ?_)))))))))))))))
  refine W_le (Le.close (u := 100) 1100 Z Z Z) (nY Z (rT (tR ?_)))
  refine EndsP_of (ks := [_]) (.inr Z) (ret_okF Z) (by decide) Z (noR_spec Z) (by repeat (first | exact trivial | refine ⟨rfl, rfl, ?_⟩)) ?_ ?_
  ·exact retPBi (by simp; omega)
  ·(have h : (m.fuel : Int) = 0 := (by assumption); have hz : m.fuel = 0 := (by omega); simp only [rS, burnM, hz]; rfl)
 simp only [HS] at h1
 refine W_skip (tN (sQ (rG (eZ Z (WO_nil' rfl Z (lt_of Z) Z Z Z (eZ Z (kZ [2,12,14] Z (eZ Z (evI ?_)))))))))
 refine WO_nil' rfl Z (lt_of Z) Z Z Z (eZ Z (sT Z (nZ Z (oN (tN (sQ (rG (eZ Z (oN (tN (W_le (Le.close (u := 100) 1100 Z Z Z) (nY Z (rT ?_)))))))))))))
 refine EndsP_of (ks := [_]) (.inr Z) (ret_okF Z) (by decide) Z (noR_spec Z) (by repeat (first | exact trivial | refine ⟨rfl, rfl, ?_⟩)) ?_ ?_
 ·exact retPBi (by simp; omega)
 ·(have h : (m.fuel : Int) - 1 = ((m.fuel - 1 : Nat) : Int) := (by omega); rw [h, if_neg (by omega)]; rfl)
theorem recSn {b : By} (h : ¬ b.how = 2) : recS (some b) = (0, some b) := by rw [recS, if_neg h]
theorem recSy {b : By} (h : b.how = 2) : recS (some b) = (b.pan, some ⟨if b.exd = true then 3 else 1, b.pan, b.exd⟩) := by rw [recS, if_pos h]
theorem recI0_fun (bc bb : Nat) (q : Kp) (fn : Int) (vars off : List Int) (res e pan : Int) (exd : Bool) (rv : List Value) (rt : List T) : Proc Tryz.prog 240 [.t (.v (.pointer (some ⟨bc, 0, none⟩)))] (rv) (rt) [.obox (.pointer (some ⟨bc, 0, none⟩)) (gC fn vars off res e pan exd (byP bb none)), byK bb q none] (.t (.int 0)) [.obox (.pointer (some ⟨bc, 0, none⟩)) (gC fn vars off res e pan exd (byP bb none)), byK bb q none] := by
 refine Proc.intro tys Tryz.func240 Z Z (N := 44) [100, 101] 99 ([(0, .t (.v (.pointer (some ⟨bc, 0, none⟩))))]) ([(100, .obox (.pointer (some ⟨bc, 0, none⟩)) (gC fn vars off res e pan exd (byP bb none))), (101, byK bb q none), (99, .ro rv rt)]) Z Z Z Z (by decide) (by decide) Z (fun w0 G F0 => ?_)
 refine nY Z (W_le (Le.openNew (u := 100) 1100 Z Z Z Z Z) (nY Z (W_le (Le.named (t := 0) (u := 100) 1100 Z Z) (nY Z (sQ (rG (eZ Z (oN (tN (sQ (sQ (rG (eZ Z (WO_nil' rfl Z (lt_of Z) Z Z Z (eK 2 Z ?_)))))))))))))))
 refine WO_ptrNil (e := 214) (b := true) Z Z (lt_of Z) Z (by kernel_rfl) Z Z (.inl ⟨rfl, rfl⟩) (WO_le (Le.known (t := 7) true Z (by simp)) ?_)
 refine eZ Z (gM Z (gM Z (kZ [0,2,8,10] Z (gM Z (gM Z (gM Z (gM Z (gM Z (gM Z (eZ Z (oN (tN (W_condT Z (sQ (kY [0,2] Z ?_)))))))))))))))
 refine rG (eZ Z (oN (tN (W_le (Le.close (u := 100) 1100 Z Z Z) (nY Z (rT (tR ?_)))))))
 refine EndsP_of (ks := [_, _]) (.inr Z) (ret_okF Z) (by decide) Z (noR_spec Z) (by repeat (first | exact trivial | refine ⟨rfl, rfl, ?_⟩)) ?_ ?_
 ·rfl
 ·rfl
theorem recI1_fun (bc bb : Nat) (q : Kp) (b : By) (fn : Int) (vars off : List Int) (res e pan : Int) (exd : Bool) (rv : List Value) (rt : List T) : Proc Tryz.prog 240 [.t (.v (.pointer (some ⟨bc, 0, none⟩)))] (rv) (rt) [.obox (.pointer (some ⟨bc, 0, none⟩)) (gC fn vars off res e pan exd (byP bb (some b))), .obox (.pointer (some ⟨bb, 0, none⟩)) (gC q.fn q.vars q.off q.res b.how b.pan b.exd q.bp)] (.t (.int (recS (some b)).1)) [.obox (.pointer (some ⟨bc, 0, none⟩)) (gC fn vars off res e pan exd (byP bb (some b))), byK bb q (recS (some b)).2] := by
 refine Proc.intro tys Tryz.func240 Z Z (N := 44) [100, 101] 99 ([(0, .t (.v (.pointer (some ⟨bc, 0, none⟩))))]) ([(100, .obox (.pointer (some ⟨bc, 0, none⟩)) (gC fn vars off res e pan exd (byP bb (some b)))), (101, .obox (.pointer (some ⟨bb, 0, none⟩)) (gC q.fn q.vars q.off q.res b.how b.pan b.exd q.bp)), (99, .ro rv rt)]) Z Z Z Z (by decide) (by decide) Z (fun w0 G F0 => ?_)
 refine nY Z (W_le (Le.openNew (u := 100) 1100 Z Z Z Z Z) (nY Z (W_le (Le.named (t := 0) (u := 100) 1100 Z Z) (nY Z (W_le (Le.openNew (u := 101) 1101 Z Z Z Z Z) (nY Z (sQ (rG (eZ Z (oN (tN (sQ (sQ (rG (eZ Z ?_)))))))))))))))
 refine WO_nil' rfl Z (lt_of Z) Z Z Z (eK 2 Z (WO_ptrNil (e := 214) (b := false) Z Z (lt_of Z) Z (by kernel_rfl) Z Z (.inl ⟨rfl, rfl⟩) (WO_le (Le.known (t := 7) false Z (by simp)) ?_)))
 refine eZ Z (gY Z (eZ Z (gY Z (WO_nil' rfl Z (lt_of Z) Z Z Z (kZ [0,2,8,10] Z (gY Z (eZ Z (gY Z (eZ Z (WO_le (Le.named (t := 12) (u := 101) 1101 Z Z) (gY Z (WO_nil' rfl Z (lt_of Z) Z Z Z (gY Z (eZ Z (gY Z ?_)))))))))))))))
 refine eZ Z (gY Z (eK 2 Z (oN (tN ?_))))
 refine W_cond Z (fun h1 => ?_) (fun h1 => ?_)
 ·
  simp only [HS] at h1
  refine sQ (kY [0,2] Z (rG (eZ Z (oN (tN (W_le (Le.close (u := 100) 1100 Z Z Z) (nY Z (W_le (Le.close (u := 101) 1101 Z Z Z) (nY Z (rT (tR ?_)))))))))))
  refine EndsP_of (ks := [_, _]) (.inr Z) (ret_okF Z) (by decide) Z (noR_spec Z) (by repeat (first | exact trivial | refine ⟨rfl, rfl, ?_⟩)) ?_ ?_
  ·exact retPIi (by rw [recSn (by assumption)])
  ·(rw [recSn (by assumption)]; rfl)
 simp only [HS] at h1
 refine W_skip (tN (sQ (kY [0,2] Z (rG (eZ Z (WO_nil' rfl Z (lt_of Z) Z Z Z (eK 2 Z (WO_le (Le.named (t := 21) (u := 101) 1101 Z Z) (WO_nil' rfl Z (lt_of Z) Z Z Z (eZ Z (sT Z (nZ Z (oN (tN (sQ ?_)))))))))))))))
 refine sQ (kY [0,2] Z (rG (eZ Z (WO_nil' rfl Z (lt_of Z) Z Z Z (eK 2 Z (WO_le (Le.named (t := 27) (u := 101) 1101 Z Z) (WO_nil' rfl Z (lt_of Z) Z Z Z (eK 2 Z (oN (tN ?_))))))))))
 refine W_cond Z (fun h2 => ?_) (fun h2 => ?_)
 ·
  refine kY [0,2] Z (rG (eZ Z (WO_nil' rfl Z (lt_of Z) Z Z Z (eK 2 Z (WO_le (Le.named (t := 34) (u := 101) 1101 Z Z) (WO_nil' rfl Z (lt_of Z) Z Z Z (eZ Z (sT Z (nZ Z (oN (tN (sQ (kY [0,2] Z (rG (eZ Z ?_)))))))))))))))
  refine WO_nil' rfl Z (lt_of Z) Z Z Z (eK 2 Z (WO_le (Le.named (t := 40) (u := 101) 1101 Z Z) (WO_nil' rfl Z (lt_of Z) Z Z Z (eK 3 Z (oN (tN (W_le (Le.close (u := 100) 1100 Z Z Z) (nY Z (W_le (Le.close (u := 101) 1101 Z Z Z) (nY Z (rT ?_)))))))))))
  refine EndsP_of (ks := [_, _]) (.inr Z) (ret_okF Z) (by decide) Z (noR_spec Z) (by repeat (first | exact trivial | refine ⟨rfl, rfl, ?_⟩)) ?_ ?_
  ·exact retPIi (by rw [recSy (by omega)])
  ·(rw [recSy (by omega), if_pos (by assumption)]; rfl)
 refine W_skip (tN (sQ (kY [0,2] Z (rG (eZ Z (WO_nil' rfl Z (lt_of Z) Z Z Z (eK 2 Z (WO_le (Le.named (t := 40) (u := 101) 1101 Z Z) (WO_nil' rfl Z (lt_of Z) Z Z Z (eK 3 Z (oN (tN (W_le (Le.close (u := 100) 1100 Z Z Z) (nY Z (W_le (Le.close (u := 101) 1101 Z Z Z) ?_)))))))))))))))
 refine nY Z (rT ?_)
 refine EndsP_of (ks := [_, _]) (.inr Z) (ret_okF Z) (by decide) Z (noR_spec Z) (by repeat (first | exact trivial | refine ⟨rfl, rfl, ?_⟩)) ?_ ?_
 ·exact retPIi (by rw [recSy (by omega)])
 ·(rw [recSy (by omega), if_neg (by simp_all)]; rfl)
theorem recI_fun (bc bb : Nat) (q : Kp) (b : Option By) (fn : Int) (vars off : List Int) (res e pan : Int) (exd : Bool) (rv : List Value) (rt : List T) : Proc Tryz.prog 240 [.t (.v (.pointer (some ⟨bc, 0, none⟩)))] rv rt
  [.obox (.pointer (some ⟨bc, 0, none⟩)) (gC fn vars off res e pan exd (byP bb b)), byK bb q b] (.t (.int (recS b).1)) [.obox (.pointer (some ⟨bc, 0, none⟩)) (gC fn vars off res e pan exd (byP bb b)), byK bb q (recS b).2] := by
 cases b with
 | none => exact recI0_fun bc bb q fn vars off res e pan exd rv rt
 | some b => exact recI1_fun bc bb q b fn vars off res e pan exd rv rt
theorem byP_eq {bb : Nat} {a b : Option By} (h : a.isSome = b.isSome) : byP bb a = byP bb b := by
 cases a <;> cases b <;> first | rfl | cases h
theorem endI_fun (bc : Nat) (h v : Int) (fn : Int) (vars off : List Int) (res e pan : Int) (exd : Bool) (bp : Value) (rv : List Value) (rt : List T) : Proc Tryz.prog 177 [.t (.v (.pointer (some ⟨bc, 0, none⟩))), .t (.int h), .t (.int v)] (rv) (rt) [.obox (.pointer (some ⟨bc, 0, none⟩)) (gC fn vars off res e pan exd bp)] (.tup []) [.obox (.pointer (some ⟨bc, 0, none⟩)) (gC fn vars off res h (if h = 2 then v else pan) (or exd (decide (h = 3))) bp)] := by
 refine Proc.intro tys Tryz.func177 Z Z (N := 22) [100] 99 ([(0, .t (.v (.pointer (some ⟨bc, 0, none⟩)))), (1, .t (.int h)), (2, .t (.int v))]) ([(100, .obox (.pointer (some ⟨bc, 0, none⟩)) (gC fn vars off res e pan exd bp)), (99, .ro rv rt)]) Z Z Z Z (by decide) (by decide) Z (fun w0 G F0 => ?_)
 refine nY Z (W_le (Le.openNew (u := 100) 1100 Z Z Z Z Z) (nY Z (W_le (Le.named (t := 0) (u := 100) 1100 Z Z) (nY Z (W_endLe (sQ (rG (eK 2 Z (WO_nil' rfl Z (lt_of Z) Z Z Z (eZ Z (sT Z (nZ Z (oN (tN (sQ ?_)))))))))))))))
 refine rG (eZ Z (oN (tN (W_block (sQ (rG (eK 2 Z (oN (tN ?_)))))))))
 refine W_cond Z (fun h1 => ?_) (fun h1 => ?_)
 ·
  simp only [HS] at h1
  refine kY [0,2] Z (rG (eK 2 Z (WO_nil' rfl Z (lt_of Z) Z Z Z (eZ Z (sT Z (nZ Z (oN (bN ?_))))))))
  refine ⟨_, Le.close (u := 100) 1100 Z Z rfl, ?_⟩
  refine EndsP_of (ks := [_]) (.inl Z) (ret_okF Z) (by decide) Z (noR_spec Z) (by repeat (first | exact trivial | refine ⟨rfl, rfl, ?_⟩)) ?_ ?_
  ·rfl
  ·simp_all [gC]
   done
 simp only [HS] at h1
 refine sQ (kY [0,10] Z (rG (eK 2 Z (oN (tN ?_)))))
 refine W_cond Z (fun h2 => ?_) (fun h2 => ?_)
 ·
  simp only [HS] at h2
  refine rG (eZ Z (WO_nil' rfl Z (lt_of Z) Z Z Z (eZ Z (sT Z (nZ Z (oN (bN ?_)))))))
  refine ⟨_, Le.close (u := 100) 1100 Z Z rfl, ?_⟩
  refine EndsP_of (ks := [_]) (.inl Z) (ret_okF Z) (by decide) Z (noR_spec Z) (by repeat (first | exact trivial | refine ⟨rfl, rfl, ?_⟩)) ?_ ?_
  ·rfl
  ·simp_all [gC]
   done
 simp only [HS] at h2
 refine W_skip (bN ?_)
 refine ⟨_, Le.close (u := 100) 1100 Z Z rfl, ?_⟩
 refine EndsP_of (ks := [_]) (.inl Z) (ret_okF Z) (by decide) Z (noR_spec Z) (by repeat (first | exact trivial | refine ⟨rfl, rfl, ?_⟩)) ?_ ?_
 ·rfl
 ·simp_all [gC]
  done
theorem wrapI_fun (n : Int) : Fun Tryz.prog 165 [.t (.int n)] (tupD [.t (.int (w32 n))]) := by
 refine Fun.begin tys Tryz.func165 Z Z (N := 6) [(0, .t (.int n))] Z Z (fun w0 G F0 => ?_)
 refine sQ (rG (eZ Z (oN (tN (sQ (rG (eZ Z (WO_conv (td := .int .i64) (k := .i32) Z Z (lt_of Z) Z (by kernel_rfl) (by kernel_rfl) Z (WO_conv (td := .int .i32) (k := .i64) Z Z (lt_of Z) Z (by kernel_rfl) (by kernel_rfl) Z (eZ Z (oN (tN (rT (eR ?_))))))))))))))
 ·rfl
theorem retIIi {a a' : Int} {b b' : Bool} (h : a = a') (h' : b = b') : [D.t (T.v (Value.int .i64 a)), D.t (T.v (Value.bool b))] = [D.t (T.int a'), D.t (T.bool b')] := by rw [h, h']
theorem reckI_fun (op x y : Int) : Fun Tryz.prog 110 [.t (.int op), .t (.int x), .t (.int y)] (tupD [.t (.int (reckV op x y)), .t (.bool (reckS op x y).isSome)]) := by
 refine Fun.begin tys Tryz.func110 Z Z (N := 45) [(0, .t (.int op)), (1, .t (.int x)), (2, .t (.int y))] Z Z (fun w0 G F0 => ?_)
 refine sQ (rG (eK 2 Z (oN (tN (sQ (rG (eZ Z (oN (tN (sQ (sQ (rG (eZ Z (oN (tN ?_)))))))))))))))
 refine W_block (sQ (rG (eK 2 Z (oN (tN ?_)))))
 refine W_cond Z (fun h1 => ?_) (fun h1 => ?_)
 ·
  simp only [HS] at h1
  refine sQ (rG (eK 3 Z (kZ [6,7,8,17] Z (callB ?_))))
  refine ⟨_, wrapI_fun _, rfl, ?_⟩
  refine eK 2 Z (oN (tN (rT (bR (tR (eR ?_))))))
  ·exact retIIi (by grind [reckV, reckS, w64]) (by grind [reckS])
 simp only [HS] at h1
 refine sQ (rG (eK 2 Z (oN (tN ?_))))
 refine W_cond Z (fun h2 => ?_) (fun h2 => ?_)
 ·
  simp only [HS] at h2
  refine sQ (kY [1,2,6,7,8] Z (rG (eK 3 Z (callB ?_))))
  refine ⟨_, wrapI_fun _, rfl, ?_⟩
  refine eK 2 Z (oN (tN (rT (bR (tR (eR ?_))))))
  ·exact retIIi (by grind [reckV, reckS, w64]) (by grind [reckS])
 simp only [HS] at h2
 refine sQ (kY [1,2,6,7,8,9] Z (rG (eK 2 Z (oN (tN ?_)))))
 refine W_cond Z (fun h3 => ?_) (fun h3 => ?_)
 ·
  simp only [HS] at h3
  refine sQ (rG (eK 3 Z (callB ?_)))
  refine ⟨_, wrapI_fun _, rfl, ?_⟩
  refine eK 2 Z (oN (tN (rT (bR (tR (eR ?_))))))
  ·exact retIIi (by grind [reckV, reckS, w64]) (by grind [reckS])
 simp only [HS] at h3
 refine sQ (rG (eK 2 Z (oN (tN ?_))))
 refine W_cond Z (fun h4 => ?_) (fun h4 => ?_)
 ·
  simp only [HS] at h4
  refine sQ (sQ (rG (eK 2 Z (oN (tN ?_)))))
  refine W_cond Z (fun h5 => ?_) (fun h5 => ?_)
  ·
   simp only [HS] at h5
   refine sQ (rG (eK 2 Z (oN (tN (rT (tR (bR (tR (eR ?_)))))))))
   ·exact retIIi (by grind [reckV, reckS, w64]) (by grind [reckS])
  simp only [HS] at h5
  refine W_skip (tN (sQ (rG (eK 2 Z (WO_quo Z Z (lt_of Z) Z Z Z (by first | decide | omega) ?_)))))
  refine kZ [6,7,8,37] Z (callB ?_)
  refine ⟨_, wrapI_fun _, rfl, ?_⟩
  refine eK 2 Z (oN (tN (rT (bR (tR (eR ?_))))))
  ·exact retIIi (by grind [reckV, reckS, w64]) (by grind [reckS])
 simp only [HS] at h4
 refine sQ (rG (eK 2 Z (oN (tN ?_))))
 refine W_cond Z (fun h5 => ?_) (fun h5 => ?_)
 ·
  simp only [HS] at h5
  refine rG (eK 3 Z (kZ [6,7,8,43] Z (eZ Z (oN (bN (tN (sQ (sQ (rG (eZ Z (oN (tN ?_))))))))))))
  refine W_cond Z (fun h6 => ?_) (fun h6 => ?_)
  ·
   simp only [HS] at h6
   refine sQ (rG (eK 2 Z (oN (tN (rT (tR (eR ?_)))))))
   ·exact retIIi (by grind [reckV, reckS, w64]) (by grind [reckS])
  simp only [HS] at h6
  refine W_skip (tN (sQ (rG (eK 2 Z (oN (tN (rT (eR ?_))))))))
  ·exact retIIi (by grind [reckV, reckS, w64]) (by grind [reckS])
 simp only [HS] at h5
 refine rG (eK 3 Z (kZ [6,7,8,12] Z (eZ Z (oN (bN (tN (sQ (sQ (rG (eZ Z (oN (tN ?_))))))))))))
 refine W_cond Z (fun h6 => ?_) (fun h6 => ?_)
 ·
  simp only [HS] at h6
  refine sQ (rG (eK 2 Z (oN (tN (rT (tR (eR ?_)))))))
  ·exact retIIi (by grind [reckV, reckS, w64]) (by grind [reckS])
 simp only [HS] at h6
 refine W_skip (tN (sQ (rG (eK 2 Z (oN (tN (rT (eR ?_))))))))
 ·exact retIIi (by grind [reckV, reckS, w64]) (by grind [reckS])
end Go.Proofs.YtimpganophnehaaGreat
