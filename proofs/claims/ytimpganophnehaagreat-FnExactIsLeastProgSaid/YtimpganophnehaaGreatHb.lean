/- The walk of how the program drops a statement. -/
import Derived.Test.YtimpganophnehaaGreatHa
set_option linter.unusedVariables false
set_option linter.unusedSimpArgs false
set_option maxRecDepth 10000
set_option maxHeartbeats 1000000
namespace Go.Proofs.YtimpganophnehaaGreat
open Go.Eng

theorem dropI_fun (p : Prog) (fn s : Int) (hp : p.ok 1048576) (hg : goodP p = true) (hf0 : 0 ≤ fn) (hf1 : fn < p.funcs.length) (hs0 : 0 ≤ s) (hs1 : s < (funcAt p fn).stmts.length) : Fun Tryz.prog 73 [.t p.tt, .t (.int fn), .t (.int s)] (tupD [.agg [.own (T.Funcs (dropP p fn s).funcs)]]) := by
  have hpl : p.funcs.length ≤ 1048576 := hp.1.1
  have hf := func_ok hp (n := fn.toNat) (by omega)
  have hgf := goodP_fn hg (n := fn.toNat) (by omega)
  have hfl := goodF_len hgf
  have hsh := goodF_shape hgf
  obtain ⟨hd, hib, hob⟩ := shapeF_iff hsh
  have hfa := funcAt_at (p := p) (n := fn) (by omega)
  rw [← hfa] at hs1
  obtain ⟨hg1, hg2, hg3⟩ := gone_run hsh hs0 hs1
  rw [dropP_eq p hf0 hf1 (g := goneN (p.funcs[fn.toNat]'(by omega)) s) (by rw [← hfa]; exact hg1), ← hfa, leftF_run _ hs0]
  generalize hG : goneN (p.funcs[fn.toNat]'(by omega)) s = g at *
  refine Fun.begin tys Tryz.func73 rfl rfl (N := 82) [(0, .t p.tt), (1, .t (.int fn)), (2, .t (.int s))] rfl rfl (fun w0 G F0 => ?_)
  refine sQ (rG (WO_box rfl rfl (lt_of rfl) rfl rfl (nZ rfl (WO_box rfl rfl (lt_of rfl) rfl rfl (nZ rfl (WO_alloc tys rfl rfl (lt_of rfl) rfl rfl rfl (nZ rfl (oN (tN (sQ (rG (eZ rfl ?_))))))))))))
  try refine WO_le (Le.freeze (u := 13) rfl) ?_
  refine nZ rfl (callB ?_)
  refine ⟨_, cloneProg_fun p hp, rfl, ?_⟩
  refine WO_alloc tys rfl rfl (lt_of rfl) rfl rfl rfl (nZ rfl (sT rfl (nZ rfl (oN (tN (sQ (kY [1,5,6,7] rfl (rG (nZ rfl (WO_le (Le.adoptBox (u := 7) (j := 0) (id := 101) rfl rfl rfl) (nZ rfl ?_)))))))))))
  refine WO_exposeL (id := 101) (idp := 133) rfl rfl (fun vs hvs => ?_)
  obtain ⟨C, hC1, hC2, rfl⟩ := cutV (l := p.funcs) (vs := vs) (n := 4) (by rw [hvs, List.length_map])
  have hCl : C.length = p.funcs.length := by rw [← hC1, List.length_map]
  refine ⟨toldF C, toldF_flat C, by rw [toldF, List.length_map, List.length_map, hCl], toldF_cells hC2, ?_⟩
  refine nZ rfl ?_
  have hkl : fn.toNat < C.length := by omega
  obtain ⟨v0, v1, v2, v3, hv⟩ : ∃ v0 v1 v2 v3, (C[fn.toNat]'hkl).2 = [v0, v1, v2, v3] := by
   have h4 := hC2 _ (List.getElem_mem hkl)
   match (C[fn.toNat]'hkl).2, h4 with
   | [v0, v1, v2, v3], _ => exact ⟨_, _, _, _, rfl⟩
  have hy : (toldF C)[fn.toNat]? = some (.agg [.v v0, .v v1, .v v2, .v v3]) := by rw [toldF, List.getElem?_map, List.getElem?_eq_getElem hkl]; simp [hv]
  have hcv : ∀ j, j < 4 → (C.flatMap (·.2))[fn.toNat * 4 + j]? = [v0, v1, v2, v3][j]? := fun j hj => by
   have h4 := flat_atv (xs := C) (f := (·.2)) (n := 4) hC2 (i := fn.toNat) hkl hj
   rw [h4, hv]
  have hct : ∀ j, j < 4 → ((p.funcs.map Func.tt).flatMap T.cells)[fn.toNat * 4 + j]? = (T.cells (p.funcs[fn.toNat]'(by omega)).tt)[j]? := fun j hj => flat_atc (cellsF _) (mapAt (List.getElem?_eq_getElem (by omega))) hj
  have hbl : (T.Funcs p.funcs).cells = [T.Funcs p.funcs] := rfl
  refine WO_told 133 (fn.toNat * 4 + 0) rfl rfl (x := .int .i64 (p.funcs[fn.toNat]'(by omega)).params) (hct 0 (by decide)) (hcv 0 (by decide)) (fun hv0 => ?_)
  refine WO_told 133 (fn.toNat * 4 + 1) rfl rfl (x := .int .i64 (p.funcs[fn.toNat]'(by omega)).vars) (hct 1 (by decide)) (hcv 1 (by decide)) (fun hv1 => ?_)
  subst hv0 hv1
  refine eK 3 rfl (WO_idxS tys rfl rfl (lt_of rfl) rfl rfl rfl rfl rfl rfl rfl rfl hf0 (by rw [List.length_map]; exact hf1) ?_)
  refine nZ rfl (eZ rfl (oN (tN (sQ (W_regionH [[9], [9], [9], [9], [9], [9], [9], [], []] mixed (by kernel_rfl) (QH_G (QG_ev tys rfl rfl (lt_of rfl) rfl (QG_nil (QH_G (QG_nil' rfl rfl (lt_of rfl) rfl rfl rfl (QG_nil (QH_G (QG_loadL tys rfl rfl (lt_of rfl) rfl rfl rfl rfl (by rw [Nat.zero_add]; exact hy) rfl ?_)))))))))))))
  refine QG_nil (QH_G (QG_ev tys rfl rfl (lt_of rfl) rfl (QG_nil (QH_norm rfl (QH_G ?_)))))
  refine QG_buildS tys [T.int s] rfl rfl (lt_of rfl) rfl rfl rfl rfl rfl (lt_of rfl) (by repeat (first | exact PartsOk.nil' | refine PartsOk.cons' rfl (by repeat (first | exact AbsL.nil' | refine AbsL.v' ?_ | refine AbsL.own' ?_ | refine AbsL.none' ?_)) rfl ?_)) rfl rfl rfl (by decide) ?_
  refine QG_nil (QH_G (QG_call rfl rfl (lt_of rfl) rfl rfl (es := [.t (p.funcs[fn.toNat]'(by omega)).tt, .t (T.ints [s]), .nil]) (ResL.aggT (ResL.t (ResL.t (ResL.raw (id := 133) (j := fn.toNat * 4 + 2) rfl (hcv 2 (by decide)) (hct 2 (by decide)) (ResL.raw (id := 133) (j := fn.toNat * 4 + 3) rfl (hcv 3 (by decide)) (hct 3 (by decide)) ResL.done)))) (ResL.own (ResL.nil' ResL.done))) (orderOf_fun' _ hf hd (by intro x hx; rw [List.mem_singleton] at hx; subst hx; exact ⟨hs0, hs1⟩) (by simp) (by rw [hg1, run_len]; omega)).toFun rfl ?_))
  refine QG_nil (QH_G (QG_lenO rfl rfl (lt_of rfl) rfl ⟨3, by kernel_rfl⟩ rfl (m := g) (by rw [List.length_map, hg1, run_len]) ?_))
  refine QG_nil (QH_G0 (QG_alloc tys rfl rfl (lt_of rfl) rfl rfl rfl rfl (QG_nil (QH_norm rfl (QH_store tys 10008 rfl rfl rfl rfl rfl rfl rfl rfl rfl (Nat.le_of_ble_eq_true rfl) (QH_nil ?_))))))
  refine ⟨by kernel_rfl, ?_⟩
  refine nZ rfl (oN (tN (sQ (rG (nZ rfl ?_)))))
  refine WO_explode (id := 133) (j := fn.toNat * 4 + 3) (id2 := 102) (n := 5) (u := v3) (xs := (p.funcs[fn.toNat]'(by omega)).stmts.map Stmt.tt) rfl rfl (hcv 3 (by decide)) (hct 3 (by decide)) rfl (fun e ad b cap ws hu hb he hlc hcm hn => ?_)
  rw [List.length_map] at hu hlc
  have he0 : e = false := by cases e with | false => rfl | true => have := congrArg List.length (he rfl); rw [List.length_map, List.length_nil] at this; omega
  subst he0
  obtain rfl : ad = some ⟨b, 0, none⟩ := hb rfl
  subst hu
  refine nZ rfl ?_
  refine WO_ownLen 102 rfl rfl (fun hwl => ?_)
  obtain ⟨K, hK1, hK2, rfl⟩ := cutV (l := (p.funcs[fn.toNat]'(by omega)).stmts) (vs := ws) (n := 5) (by rw [hwl, flat_length (cellsS _), List.length_map])
  have hKl : K.length = (p.funcs[fn.toNat]'(by omega)).stmts.length := by rw [← hK1, List.length_map]
  refine WO_le (Le.rawTell (id := 102) 135 rfl rfl) (nZ rfl (WO_le (Le.roNil 99) (nZ rfl (eK 2 rfl (oN (tN (sQ (W_regionH [[102], [], [], [], [], [], [], [], [], [], [], [], []] mixed (by kernel_rfl) (QH_G (QG_ev tys rfl rfl (lt_of rfl) rfl (QG_nil (QH_G0 (QG_ev tys rfl rfl (lt_of rfl) rfl (QG_nil (QH_G0 ?_)))))))))))))))
  refine QG_nil' rfl rfl (lt_of rfl) rfl rfl rfl (QG_nil (QH_G0 (QG_ev tys rfl rfl (lt_of rfl) rfl (QG_nil (QH_norm rfl (QH_G (QG_loadL tys rfl rfl (lt_of rfl) rfl rfl rfl rfl (by rw [Nat.zero_add]; exact hy) rfl ?_)))))))
  refine QG_nil (QH_G0 (QG_ev tys rfl rfl (lt_of rfl) rfl (QG_nil (QH_G0 (QG_ev tys rfl rfl (lt_of rfl) rfl (QG_nil (QH_G0 (QG_ev tys rfl rfl (lt_of rfl) rfl (QG_nil (QH_norm rfl (QH_G0 (QG_int tys rfl rfl (lt_of rfl) rfl (wrap_id (by omega) (by omega)) (QG_nil ?_)))))))))))))
  refine QH_callP (rid := 99) [102] rfl rfl (lt_of rfl) rfl rfl (by repeat (first | exact ResP.done | refine ResP.pin0 1102 rfl ?_ | refine ResP.t ?_ | refine ResP.nil 1 ?_ | refine ResP.nil' ?_ | refine ResP.own ?_ | refine ResP.sl rfl rfl (by first | omega | (simp; omega)) ?_ | refine ResP.aggT (by repeat (first | exact ResP.done | refine ResP.t ?_)) ?_)) rfl (by repeat (first | exact trivial | refine ⟨rfl, rfl, ?_⟩)) (by decide) (delS_fun' b _ cap s (s + g) (K.flatMap fun c : Stmt × List Value => c.2) hs0 (by omega) (by omega) hlc (by rw [hwl, flat_length (cellsS _), List.length_map])) rfl rfl rfl ?_
  refine QH_G0 (QG_nil' rfl rfl (lt_of rfl) rfl rfl rfl (QG_nil (QH_G0 (QG_ev tys rfl rfl (lt_of rfl) rfl (QG_nil (QH_norm rfl ?_))))))
  refine QH_storeLv tys 10012 [.v (.slice (some ⟨b, 0, none⟩) ((p.funcs[fn.toNat]'(by omega)).stmts.length - ((s + g).toNat - s.toNat)) cap)] rfl rfl rfl rfl rfl rfl (by rw [Nat.zero_add]; exact hy) rfl rfl (by repeat (first | exact AbsL.nil' | refine AbsL.v' ?_ | refine AbsL.own' ?_)) rfl (by decide) (Nat.le_of_ble_eq_true rfl) ?_
  refine QH_nil ?_
  refine ⟨by kernel_rfl, ?_⟩
  refine nZ rfl ?_
  obtain ⟨K', hK'⟩ : ∃ K', K' = K.take s.toNat ++ K.drop (s.toNat + g) := ⟨_, rfl⟩
  have hnew : (p.funcs[fn.toNat]'(by omega)).stmts.length - ((s + g).toNat - s.toNat) = K'.length := by rw [hK', List.length_append, List.length_take, List.length_drop, hKl]; omega
  have hKm : ∀ c, c ∈ K' → c ∈ K := fun c hc => by
   rw [hK'] at hc
   rcases List.mem_append.1 hc with hc | hc
   · exact List.mem_of_mem_take hc
   · exact List.mem_of_mem_drop hc
  have hK2' : ∀ c, c ∈ K' → c.2.length = 5 := fun c hc => hK2 c (hKm c hc)
  have hcut : (K.flatMap fun c : Stmt × List Value => c.2).take (s.toNat * 5) ++ (K.flatMap fun c : Stmt × List Value => c.2).drop ((s + g).toNat * 5) = K'.flatMap fun c : Stmt × List Value => c.2 := by
   rw [(flat_takev hK2 s.toNat).1, (flat_takev hK2 (s + g).toNat).2, hK', List.flatMap_append, show (s + g).toNat = s.toNat + g from by omega]
  refine WO_le (Le.rawPick (idp := 135) (g := fun x => T.cells (Stmt.tt x)) (n := 5) (C := K) (C' := K') (R := (K.drop s.toNat).take g) rfl (fun _ => rfl) hK2 rfl (by rw [hK1, List.flatMap_map]) (by
   rw [hK', List.append_assoc]
   conv => lhs; rw [← List.take_append_drop s.toNat K]
   refine List.Perm.append_left _ ?_
   conv => lhs; rw [← List.take_append_drop g (K.drop s.toNat)]
   rw [List.drop_drop]
   exact List.perm_append_comm)) ?_
  refine nZ rfl (WO_le (Le.rawList (id := 102) (n := 5) (ys := toldS K') 1102 rfl rfl rfl rfl (by rw [toldS_flat, hcut]) (toldS_cells hK2') (by rw [toldS, List.length_map]; omega) hcm) ?_)
  refine nZ rfl (WO_le (Le.eqM (id := 101) rfl (k' := .L 4 ((toldF C).set fn.toNat (.agg [T.int (p.funcs[fn.toNat]'(by omega)).params, T.int (p.funcs[fn.toNat]'(by omega)).vars, .v v2, .v (.slice (some ⟨b, 0, none⟩) K'.length cap)]))) (by rw [Nat.zero_add, ← hnew]; rfl)) ?_)
  refine nZ rfl ?_
  have hfl2 : fn.toNat < (toldF C).length := by rw [toldF, List.length_map]; exact hkl
  refine oN (tN (sQ (rG (eK 3 rfl (WO_nil' rfl rfl (lt_of rfl) rfl rfl rfl (eZ rfl ?_))))))
  refine WO_loadL tys rfl rfl (lt_of rfl) rfl rfl rfl rfl (by rw [Nat.zero_add]; exact List.getElem?_set_self hfl2) rfl ?_
  refine nZ rfl ?_
  refine WO_call rfl rfl (lt_of rfl) rfl rfl (es := [.t (T.ints (p.funcs[fn.toNat]'(by omega)).body), .rp (.agg [T.int s]) 0, .rp (.agg [T.int g]) 0]) (ResL.raw (id := 133) (j := fn.toNat * 4 + 2) rfl (hcv 2 (by decide)) (by rw [List.getElem?_set_ne (by omega)]; exact hct 2 (by decide)) (ResL.ref rfl (ResL.t ResL.done) (ResL.ref rfl (ResL.t ResL.done) ResL.done))) (left_fun _ s g hf.1 (vals_in hib (by omega) (by omega)) hs0 (by omega) (by omega)) rfl ?_
  refine nZ rfl (WO_nil' rfl rfl (lt_of rfl) rfl rfl rfl (eZ rfl (kZ [6,7,8,10,45,47] rfl ?_)))
  refine WO_storeL tys [T.ints (leftI s g (p.funcs[fn.toNat]'(by omega)).body)] rfl rfl rfl rfl rfl rfl (by rw [Nat.zero_add]; exact List.getElem?_set_self hfl2) rfl (by repeat (first | exact AbsL.nil' | refine AbsL.v' ?_ | refine AbsL.own' ?_)) rfl (by decide) (Nat.le_of_ble_eq_true rfl) ?_
  refine nZ rfl (WO_le (Le.eqM (id := 101) rfl (k' := .L 4 ((toldF C).set fn.toNat (.agg [T.int (p.funcs[fn.toNat]'(by omega)).params, T.int (p.funcs[fn.toNat]'(by omega)).vars, T.ints (leftI s g (p.funcs[fn.toNat]'(by omega)).body), .v (.slice (some ⟨b, 0, none⟩) K'.length cap)]))) (by rw [Nat.zero_add, List.set_set]; rfl)) ?_)
  refine nZ rfl (nZ rfl (oN (tN (sQ (sQ (rG (eZ rfl (WO_nil' rfl rfl (lt_of rfl) rfl rfl rfl (eZ rfl ?_)))))))))
  refine WO_loadL tys rfl rfl (lt_of rfl) rfl rfl rfl rfl (by rw [Nat.zero_add]; exact List.getElem?_set_self hfl2) rfl ?_
  refine nZ rfl (WO_le (Le.namedS (t := 51) 1102 rfl rfl (by omega)) (nZ rfl (evE ?_)))
  refine eZ rfl (oN (tN (W_block ?_)))
  refine lK (α := Int × List T) [6, 7, 8, 10, 51, 52] [5, 6, 7, 9, 101, 133, 135, 1102] (fun x => [(53, .t (.int (x.1)))]) (fun x => [(102, .L 5 (x.2))]) (fun x => 0 ≤ (x.1) ∧ (x.1) ≤ K'.length ∧ (x.2) = mixS s g K' (x.1).toNat) (fun x => Int.toNat (K'.length - (x.1))) (0, toldS K') ?_ (fun x hx => ?_)
  · exact ⟨by omega, by omega, (mixS_zero ..).symm⟩
  obtain ⟨k, zs⟩ := x
  obtain ⟨hk0, hk1, hzs⟩ := hx
  dsimp only at hk0 hk1 hzs ⊢
  refine nY rfl (sQ (rG (eZ rfl (oN (tN (sQ ?_))))))
  refine W_cond rfl (fun h1 => ?_) (fun h1 => ?_)
  ·
    simp only [HS] at h1
    refine W_skip (tN (sQ (W_block (sQ (rG (eZ rfl ?_))))))
    have hkk : k.toNat < K'.length := by omega
    obtain ⟨w0, w1, w2, w3, w4, hw⟩ : ∃ w0 w1 w2 w3 w4, (K'[k.toNat]'hkk).2 = [w0, w1, w2, w3, w4] := by
     have h4 := hK2' _ (List.getElem_mem hkk)
     match (K'[k.toNat]'hkk).2, h4 with
     | [w0, w1, w2, w3, w4], _ => exact ⟨_, _, _, _, _, rfl⟩
    have hz : zs[k.toNat]? = some (.agg [.v w0, .v w1, .v w2, .v w3, .v w4]) := by rw [hzs, mixS_at s g K' hkk, hw]; rfl
    have hzl : zs.length = K'.length := by rw [hzs, mixS_len]
    have hkv : ∀ j, j < 5 → (K'.flatMap fun c : Stmt × List Value => c.2)[k.toNat * 5 + j]? = [w0, w1, w2, w3, w4][j]? := fun j hj => by rw [flat_atv hK2' hkk hj, hw]
    have hkt : ∀ j, j < 5 → ((K'.map (·.1)).flatMap fun x => T.cells (Stmt.tt x))[k.toNat * 5 + j]? = (T.cells (K'[k.toNat]'hkk).1.tt)[j]? := fun j hj => by
     rw [flat_atv (n := 5) (fun _ _ => rfl) (by rw [List.length_map]; exact hkk) hj, List.getElem_map]
    have hso : (K'[k.toNat]'hkk).1.thn.length ≤ 1048576 ∧ (K'[k.toNat]'hkk).1.els.length ≤ 1048576 ∧ (∀ x, x ∈ (K'[k.toNat]'hkk).1.thn → -1073741824 ≤ x ∧ x ≤ 1073741824) ∧ (∀ x, x ∈ (K'[k.toNat]'hkk).1.els → -1073741824 ≤ x ∧ x ≤ 1073741824) := by
     have hin : (K'[k.toNat]'hkk).1 ∈ (p.funcs[fn.toNat]'(by omega)).stmts := by
      rw [← hK1]
      exact List.mem_map.2 ⟨_, hKm _ (List.getElem_mem hkk), rfl⟩
     obtain ⟨m, hm, e⟩ := List.getElem_of_mem hin
     rw [← e]
     have ho := stmt_ok hf hm
     have hkd := hd m (by omega) (by omega)
     rw [kids_at (by omega)] at hkd
     exact ⟨ho.1, ho.2.1, vals_in (inB_lower hkd.1 (show (0 : Int) ≤ m + 1 by omega)) (by omega) (by omega), vals_in (inB_lower hkd.2 (show (0 : Int) ≤ m + 1 by omega)) (by omega) (by omega)⟩
    refine WO_idxS tys rfl rfl (lt_of rfl) rfl rfl rfl rfl rfl rfl rfl rfl hk0 (by omega) (nZ rfl (WO_loadL tys rfl rfl (lt_of rfl) rfl rfl rfl rfl (by rw [Nat.zero_add]; exact hz) rfl ?_))
    refine nZ rfl (nZ rfl (WO_alloc tys rfl rfl (lt_of rfl) rfl rfl rfl (nZ rfl (eZ rfl (sT rfl (nZ rfl (oN (tN (kY [6,7,8,10,11,12,51,52,53,54,55,56,57] rfl (W_regionH [[], [], [], [], [], [], [], [], [], [102], [], [], [], [], [], [], [], [], [], [], [], [], [], []] mixed (by kernel_rfl) (QH_G0 (QG_ev tys rfl rfl (lt_of rfl) rfl (QG_nil (QH_G0 (QG_nil' rfl rfl (lt_of rfl) rfl rfl rfl ?_)))))))))))))))
    refine QG_nil (QH_G0 (QG_ev tys rfl rfl (lt_of rfl) rfl (QG_nil (QH_G ?_))))
    refine QG_loadLS tys 1102 rfl rfl (lt_of rfl) rfl rfl rfl rfl (by rw [Nat.zero_add]; exact List.getElem?_set_self hfl2) rfl rfl (by omega) ?_
    refine QG_nil (QH_norm rfl (QH_G0 (QG_ev tys rfl rfl (lt_of rfl) rfl (QG_nil (QH_G0 (QG_ev tys rfl rfl (lt_of rfl) rfl (QG_nil (QH_G0 (QG_nil' rfl rfl (lt_of rfl) rfl rfl rfl (QG_nil (QH_G0 (QG_ev tys rfl rfl (lt_of rfl) rfl (QG_nil (QH_norm rfl (QH_G ?_)))))))))))))))
    refine QG_loadLS tys 1102 rfl rfl (lt_of rfl) rfl rfl rfl rfl (by rw [Nat.zero_add]; exact List.getElem?_set_self hfl2) rfl rfl (by omega) ?_
    refine QG_nil (QH_G (QG_ev tys rfl rfl (lt_of rfl) rfl (QG_nil (QH_G0 (QG_ev tys rfl rfl (lt_of rfl) rfl (QG_nil (QH_G0 (QG_ev tys rfl rfl (lt_of rfl) rfl (QG_nil (QH_norm rfl (QH_G0 (QG_ev tys rfl rfl (lt_of rfl) rfl (QG_nil (QH_G (QG_call rfl rfl (lt_of rfl) rfl rfl (es := [.t (T.ints (K'[k.toNat]'hkk).1.thn), .rp (.agg [T.int s]) 0, .rp (.agg [T.int g]) 0]) (ResL.raw (id := 135) (j := k.toNat * 5 + 3) rfl (hkv 3 (by decide)) (hkt 3 (by decide)) (ResL.ref rfl (ResL.t ResL.done) (ResL.ref rfl (ResL.t ResL.done) ResL.done))) (left_fun _ s g hso.1 hso.2.2.1 hs0 (by omega) (by omega)) rfl ?_)))))))))))))))
    refine QG_nil (QH_G0 (QG_ev tys rfl rfl (lt_of rfl) rfl (QG_nil (QH_G0 (QG_ev tys rfl rfl (lt_of rfl) rfl (QG_nil (QH_norm rfl (QH_G0 (QG_ev tys rfl rfl (lt_of rfl) rfl (QG_nil (QH_G (QG_call rfl rfl (lt_of rfl) rfl rfl (es := [.t (T.ints (K'[k.toNat]'hkk).1.els), .rp (.agg [T.int s]) 0, .rp (.agg [T.int g]) 0]) (ResL.raw (id := 135) (j := k.toNat * 5 + 4) rfl (hkv 4 (by decide)) (hkt 4 (by decide)) (ResL.ref rfl (ResL.t ResL.done) (ResL.ref rfl (ResL.t ResL.done) ResL.done))) (left_fun _ s g hso.2.1 hso.2.2.2 hs0 (by omega) (by omega)) rfl (QG_nil (QH_G (QG_idxS tys rfl rfl (lt_of rfl) rfl rfl rfl rfl rfl rfl rfl rfl hk0 (by omega) ?_)))))))))))))))
    refine QG_nil (QH_G0 (QG_ev tys rfl rfl (lt_of rfl) rfl (QG_nil (QH_norm rfl ?_))))
    refine QH_storeL tys [T.ints (leftI s g (K'[k.toNat]'hkk).1.thn)] rfl rfl rfl rfl rfl rfl (by rw [Nat.zero_add]; exact hz) rfl rfl (by repeat (first | exact AbsL.nil' | refine AbsL.v' ?_ | refine AbsL.own' ?_)) rfl (by decide) (Nat.le_of_ble_eq_true rfl) ?_
    refine QH_G (QG_idxS tys rfl rfl (lt_of rfl) rfl rfl rfl rfl rfl rfl rfl rfl hk0 (by omega) (QG_nil (QH_G0 (QG_ev tys rfl rfl (lt_of rfl) rfl (QG_nil ?_)))))
    refine QH_storeL tys [T.ints (leftI s g (K'[k.toNat]'hkk).1.els)] rfl rfl rfl rfl rfl rfl (by rw [Nat.zero_add]; exact List.getElem?_set_self (by omega)) rfl rfl (by repeat (first | exact AbsL.nil' | refine AbsL.v' ?_ | refine AbsL.own' ?_)) rfl (by decide) (Nat.le_of_ble_eq_true rfl) ?_
    refine QH_norm rfl (QH_nil ?_)
    refine ⟨by kernel_rfl, ?_⟩
    refine nZ rfl (oN (bN (tN (rG (evI ?_)))))
    refine eZ rfl (oN ?_)
    refine lQ (_, _) ?_ ?_
    · dsimp only
      refine ⟨by omega, by omega, ?_⟩
      rw [hzs, Nat.zero_add, List.set_set, show (k + 1).toNat = k.toNat + 1 from by omega, ← mixS_set s g K' hkk]
      congr 1
      unfold doneS
      rw [hw]
      rfl
    · (show Int.toNat _ < Int.toNat _); omega
  simp only [HS] at h1
  refine W_exit (tE (loopQ_e (inBlk_y (tN (sQ (rG ?_))))))
  have hzs' : zs = K'.map (doneS s g) := by rw [hzs, mixS_end s g K' (by omega)]
  subst hzs'
  refine nZ rfl (WO_le (Le.claimMix (id := 102) (idp := 135) (xs := ((K'.map (·.1)).map fun x : Stmt => (⟨x.kind, x.n, x.ex, leftI s g x.thn, leftI s g x.els⟩ : Stmt)).map Stmt.tt) rfl rfl (mixS_mix hK2') (by simp) (cellsS _) rfl) ?_)
  refine nZ rfl ?_
  refine WO_le (Le.claimL (id := 101) (id2 := 102) (pid := 1102) (i := fn.toNat) (off := 3) rfl rfl rfl (List.getElem?_set_self hfl2) rfl (by simp) rfl) ?_
  refine nZ rfl (WO_le (Le.eqM (id := 101) rfl (k' := .L 4 ((toldF C).set fn.toNat (.agg [T.int (p.funcs[fn.toNat]'(by omega)).params, T.int (p.funcs[fn.toNat]'(by omega)).vars, T.ints (leftI s g (p.funcs[fn.toNat]'(by omega)).body), T.Stmts ((K'.map (·.1)).map fun x : Stmt => (⟨x.kind, x.n, x.ex, leftI s g x.thn, leftI s g x.els⟩ : Stmt))]))) (by rw [List.set_set]; rfl)) ?_)
  refine nZ rfl ?_
  have hCf : (C[fn.toNat]'hkl).1 = p.funcs[fn.toNat]'(by omega) := by
   have : (C.map (·.1))[fn.toNat]'(by rw [List.length_map]; exact hkl) = p.funcs[fn.toNat]'(by omega) := by congr 1
   simpa using this
  have hmx := mixF_one (y := .v (.slice (some ⟨b, 0, none⟩) (p.funcs[fn.toNat]'(by omega)).stmts.length cap)) (e2 := T.ints (leftI s g (p.funcs[fn.toNat]'(by omega)).body)) (e3 := T.Stmts ((K'.map (·.1)).map fun x : Stmt => (⟨x.kind, x.n, x.ex, leftI s g x.thn, leftI s g x.els⟩ : Stmt))) hC2 hkl hv (by rw [hCf]) (by rw [hCf])
  rw [hC1] at hmx
  refine WO_le (Le.claimMix (id := 101) (idp := 133) rfl rfl hmx (by rw [List.length_set, List.length_set, toldF, List.length_map, List.length_map, hCl]) (fun x hx => by
   rcases List.mem_or_eq_of_mem_set hx with hx | rfl
   · exact cellsF _ x hx
   · rfl) rfl) ?_
  refine nZ rfl (WO_le (Le.gatherBox (u := 7) (j := 0) (id := 101) rfl rfl rfl (by simp) rfl) ?_)
  refine nZ rfl (WO_loadMove tys rfl rfl (lt_of rfl) rfl rfl rfl rfl rfl rfl (nZ rfl (sT rfl (nZ rfl (oN (tN (rT (eR ?_))))))))
  · rw [List.take_of_length_le (by simp), show K'.map (·.1) = (p.funcs[fn.toNat]'(by omega)).stmts.take s.toNat ++ (p.funcs[fn.toNat]'(by omega)).stmts.drop (s.toNat + g) from by rw [hK', List.map_append, List.map_take, List.map_drop, hK1], T.Funcs, List.map_set]
    rfl

end Go.Proofs.YtimpganophnehaaGreat
