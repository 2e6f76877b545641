/- The walk of how the program's machine does an expression. -/
import Derived.Test.YtimpganophnehaaGreatIh
import Derived.Test.YtimpganophnehaaGreatIc
set_option linter.unusedVariables false
set_option linter.unusedSimpArgs false
set_option maxRecDepth 10000
set_option maxHeartbeats 1000000
namespace Go.Proofs.YtimpganophnehaaGreat
open Go.Eng

def CallI (p : Prog) (inp : List Int) (most n : Nat) (L : Lev) : Prop :=
 ∀ (fn : Int) (args : List Int) (b : Option By) (m : Ms) (bm bb : Nat) (q : Kp) (pv iv : Value) (xv : List Value) (xt : List T), 0 ≤ fn → fn < p.funcs.length → args.length = (atI (paramsL p) fn).toNat → m.used ≤ inp.length → m.deep ≤ most → m.fuel ≤ n → m.fuel ≤ 1048576 → m.trace.length + m.fuel ≤ 1048576 →
  Proc Tryz.prog 127 [.t (.v (.pointer (some ⟨bm, 0, none⟩))), .t (.int fn), .t (T.ints args), .t (.v (byP bb b))] (pv :: iv :: xv) (T.Funcs p.funcs :: T.ints inp :: xt)
   [byK bb q b, .obox (.pointer (some ⟨bm, 0, none⟩)) (rS pv iv most m.fuel 0 m)]
   (.tup [.t (.int (haH (L.call fn args b m).1)), .t (.int (L.call fn args b m).2.1)])
   [.obox (byP bb b) (gC q.fn q.vars q.off q.res (hH (L.call fn args b m).2.2.1) (nH (L.call fn args b m).2.2.1) (xH (L.call fn args b m).2.2.1) q.bp), .obox (.pointer (some ⟨bm, 0, none⟩)) (rS pv iv most (fuH (L.call fn args b m).1 (L.call fn args b m).2.2.2) (coH (L.call fn args b m).1) (L.call fn args b m).2.2.2)]

def ExI (p : Prog) (inp : List Int) (f : Func) (L : Lev) (l : List Tok) (s : Sx) (pv iv bp : Value) (q : Kp) (bpv : Value) (most fn : Int) (k : Int) (m : Nat) (ws : List T) (b1 b2 b3 : Blk) : Prop :=
 ∃ (pile : List Int) (s1 : Sx), 0 ≤ k ∧ k ≤ l.length ∧ Sx.to p inp f 0 s s1 ∧ exS p inp L l s = exprS L.cal (paramsL p) inp (l.drop k.toNat) pile s1 ∧ (∃ r mx, runE f.vars (paramsL p) (l.drop k.toNat) pile.length mx = some (1, r)) ∧ (pile.length : Int) ≤ k ∧
  m = pile.length ∧ ws = pile.map T.int ∧ b1 = .box (rS pv iv most s1.m.fuel 0 s1.m) ∧ b2 = .box (gC fn s1.vars s1.off s1.res 0 0 false bp) ∧ b3 = .obox bpv (gC q.fn q.vars q.off q.res (hH s1.by') (nH s1.by') (xH s1.by') q.bp)
section
variable {p : Prog} {inp : List Int} {f : Func} {L : Lev} {l : List Tok} {s s1 : Sx} {pv iv bp bpv : Value} {most fn : Int} {q : Kp} {k : Int} {pile : List Int}
theorem ExI.next (hL : LevOk p inp L) (hg : goodP p = true) (h0 : 0 ≤ k) (h1 : k < l.length) (hto : Sx.to p inp f 0 s s1) (hex : exS p inp L l s = exprS L.cal (paramsL p) inp (l.drop k.toNat) pile s1) (hr : ∃ r mx, runE f.vars (paramsL p) (l.drop k.toNat) pile.length mx = some (1, r)) (hpl : (pile.length : Int) ≤ k)
  {pile' : List Int} {s' : Sx} {v : Int} (ht : tokX L.cal (paramsL p) inp (l[k.toNat]'(by omega)) pile s1 = (0, v, pile', s')) {k' : Int} (hk : k' = k + 1) {m : Nat} {ws : List T} {b1 b2 b3 : Blk}
  (e1 : m = pile'.length) (e2 : ws = pile'.map T.int) (e3 : b1 = .box (rS pv iv most s'.m.fuel 0 s'.m)) (e4 : b2 = .box (gC fn s'.vars s'.off s'.res 0 0 false bp)) (e5 : b3 = .obox bpv (gC q.fn q.vars q.off q.res (hH s'.by') (nH s'.by') (xH s'.by') q.bp)) :
  ExI p inp f L l s pv iv bp q bpv most fn k' m ws b1 b2 b3 := by
 subst hk
 obtain ⟨g1, g2, r, mx, g3⟩ := runE_next h0 h1 hr
 obtain ⟨q1, q2⟩ := tokX_ok hL hg hto.ok g1 g2
 rw [ht] at q1 q2
 dsimp only at q1 q2
 have q2 := q2 rfl
 have hps := needsT_bnd (goodP_ps hg) (l[k.toNat]'(by omega))
 refine ⟨pile', s', by omega, by omega, hto.trans q1 (by omega), ?_, ⟨r, mx, by rw [q2]; exact g3⟩, by omega, e1, e2, e3, e4, e5⟩
 rw [hex, drop_at h0 h1, exprS, ht]
 rfl
theorem haH_1 {h : Int} (e : haH h = 1) : h = 1 := by unfold haH at e; split at e <;> omega
theorem haH_n1 {h : Int} (e : ¬ haH h = 1) : ¬ h = 1 := by intro h; subst h; exact e rfl
theorem fuH_1 {h : Int} (e : h < 4) (m : Ms) : fuH h m = m.fuel := by unfold fuH; rw [if_neg (by omega)]
theorem coH_1 {h : Int} (e : h < 4) : coH h = 0 := by unfold coH; rw [if_neg (by omega)]
theorem haH_l {h : Int} (e : h < 4) : haH h = h := by unfold haH; rw [if_neg (by omega)]
end
theorem Proc.argLi {F : Nat} {a b e : D} {zs : List T} {ys : List Int} {rv : List Value} {rt : List T} {ks ks' : List Blk} {r : D} (h : zs = ys.map T.int) (hp : Proc Tryz.prog F [a, b, .t (T.ints ys), e] rv rt ks r ks') : Proc Tryz.prog F [a, b, .t (.list 1 zs), e] rv rt ks r ks' := by
 subst h; exact hp
theorem retT {a a' b b' : Int} (h1 : a = a') (h2 : b = b') : tupD [D.t (T.v (Value.int .i64 a)), D.t (T.v (Value.int .i64 b))] = D.tup [D.t (T.int a'), D.t (T.int b')] := by rw [h1, h2]; rfl

theorem exprI_fun (p : Prog) (inp : List Int) (most n : Nat) (L : Lev) (hL : LevOk p inp L) (hC : CallI p inp most n L) (hg : goodP p = true) (hp : p.ok 1048576) (hi : inp.length ≤ 1048576) (f : Func) (hf : f ∈ p.funcs) (fn : Int) (l : List Tok) (hl : l.length ≤ 12) (hr : ∃ r, runE f.vars (paramsL p) l 0 0 = some (1, r)) (s : Sx) (hs : s.ok p inp f) (hn : s.m.fuel ≤ n) (hn2 : s.m.fuel ≤ 1048576) (hti : s.m.trace.length + s.m.fuel ≤ 1048576) (hdm : s.m.deep ≤ most) (hmost : most ≤ 1048576) (bm bc bb : Nat) (q : Kp) (pv iv : Value) (xv : List Value) (xt : List T) : Proc Tryz.prog 230 [.t (.v (.pointer (some ⟨bm, 0, none⟩))), .t (.v (.pointer (some ⟨bc, 0, none⟩))), .t (T.Toks l)] ((pv :: iv :: xv)) ((T.Funcs p.funcs :: T.ints inp :: xt)) [.obox (.pointer (some ⟨bm, 0, none⟩)) (rS pv iv most s.m.fuel 0 s.m), .obox (.pointer (some ⟨bc, 0, none⟩)) (gC fn s.vars s.off s.res 0 0 false (byP bb s.by')), byK bb q s.by'] (.tup [.t (.int (exS p inp L l s).2.1), .t (.int (haH (exS p inp L l s).1))]) [.obox (.pointer (some ⟨bm, 0, none⟩)) (rS pv iv most (fuH (exS p inp L l s).1 (exS p inp L l s).2.2.m) (coH (exS p inp L l s).1) (exS p inp L l s).2.2.m), .obox (.pointer (some ⟨bc, 0, none⟩)) (gC fn (exS p inp L l s).2.2.vars (exS p inp L l s).2.2.off (exS p inp L l s).2.2.res 0 0 false (byP bb s.by')), .obox (byP bb s.by') (gC q.fn q.vars q.off q.res (hH (exS p inp L l s).2.2.by') (nH (exS p inp L l s).2.2.by') (xH (exS p inp L l s).2.2.by') q.bp)] := by
 have hgp := goodP_len hg
 have hgv := good_vars hg hf
 refine Proc.intro tys Tryz.func230 rfl rfl (N := 142) [100, 101, 102] 99 ([(0, .t (.v (.pointer (some ⟨bm, 0, none⟩)))), (1, .t (.v (.pointer (some ⟨bc, 0, none⟩)))), (2, .t (T.Toks l))]) ([(100, .obox (.pointer (some ⟨bm, 0, none⟩)) (rS pv iv most s.m.fuel 0 s.m)), (101, .obox (.pointer (some ⟨bc, 0, none⟩)) (gC fn s.vars s.off s.res 0 0 false (byP bb s.by'))), (102, byK bb q s.by'), (99, .ro (pv :: iv :: xv) (T.Funcs p.funcs :: T.ints inp :: xt))]) rfl rfl rfl rfl (by decide) (by decide) rfl (fun w0 G F0 => ?_)
 refine nY rfl (W_le (Le.openNew (u := 100) 1100 rfl rfl rfl rfl rfl) (nY rfl (W_le (Le.named (t := 0) (u := 100) 1100 rfl rfl) (nY rfl (W_le (Le.openNew (u := 101) 1101 rfl rfl rfl rfl rfl) (nY rfl (W_le (Le.named (t := 1) (u := 101) 1101 rfl rfl) (nY rfl (sQ (rG (eK 2 rfl (oN (tN (sQ (rG ?_)))))))))))))))
 refine eZ rfl (WO_le (Le.nilOwn (u := 8) 1 rfl) (WO_le (Le.adoptE (u := 8) 8 rfl rfl) (nZ rfl (oN (tN (sQ (sQ (rG (eZ rfl (evE ?_))))))))))
 refine eZ rfl (oN (tN (W_block ?_)))
 refine lK (α := Int × Nat × List T × Blk × Blk × Blk) [0, 1, 18, 19] [99, 1100, 1101] (fun x => [(20, .t (.int (x.1))), (8, .sl 8 0 (x.2.1))]) (fun x => [(8, .L 1 (x.2.2.1)), (100, (x.2.2.2.1)), (101, (x.2.2.2.2.1)), (102, (x.2.2.2.2.2))]) (fun x => ExI p inp f L l s pv iv (byP bb s.by') q (byP bb s.by') most fn (x.1) (x.2.1) (x.2.2.1) (x.2.2.2.1) (x.2.2.2.2.1) (x.2.2.2.2.2)) (fun x => Int.toNat (l.length - (x.1))) (0, 0, [], .box (rS pv iv most s.m.fuel 0 s.m), .box (gC fn s.vars s.off s.res 0 0 false (byP bb s.by')), .obox (byP bb s.by') (gC q.fn q.vars q.off q.res (hH s.by') (nH s.by') (xH s.by') q.bp)) ?_ (fun x hx => ?_)
 ·exact ⟨[], s, by omega, by omega, Sx.to.refl hs (by omega) (by omega), rfl, hr.imp fun r h => ⟨0, h⟩, by simp, rfl, rfl, rfl, rfl, rfl⟩
 obtain ⟨k, m, ws, b1, b2, b3⟩ := x
 obtain ⟨pile, s1, hk0, hk1, hto, hex, hrun, hpl, hm, hws, hb1, hb2, hb3⟩ := hx
 dsimp only at hk0 hk1 hto hex hrun hpl hm hws hb1 hb2 hb3 ⊢
 subst hm hws hb1 hb2 hb3
 refine nY rfl (sQ (rG (eZ rfl (oN (tN (sQ ?_))))))
 refine W_cond rfl (fun h1 => ?_) (fun h1 => ?_)
 ·
  simp only [HS] at h1
  refine W_skip (tN (sQ (W_block (sQ (rG ?_)))))
  have hkl : k < l.length := by omega
  obtain ⟨hkn, hnd, hrun2⟩ := runE_next hk0 hkl hrun
  have hpl12 : pile.length ≤ 12 := by omega
  have hfu : s1.m.fuel ≤ s.m.fuel := hto.le.1
  have hft : s1.m.trace.length + s1.m.fuel ≤ s.m.trace.length + s.m.fuel := hto.le.2.1
  have hus : s1.m.used ≤ inp.length := hto.le.2.2
  have hdp : s1.m.deep = s.m.deep := hto.deep (by omega)
  have hvl : s1.vars.length = f.vars.toNat := hto.ok.vars
  refine WO_idxT tys rfl rfl (lt_of rfl) rfl rfl rfl rfl rfl rfl rfl (by omega) _ (getT _ _ (by omega) (by omega)) (eZ rfl ?_)
  try refine WO_le (Le.freeze (u := 23) rfl) ?_
  refine nZ rfl (WO_alloc tys rfl rfl (lt_of rfl) rfl rfl rfl (nZ rfl (sT rfl (nZ rfl (oN (tN (sQ (rG (eZ rfl (oN (tN (sQ (sQ (rG (eK 2 rfl ?_)))))))))))))))
  refine oN (tN (W_block (sQ (kY [0,1,8,10,11,18,19,20,21,22,23,24,25] rfl (rG (eK 2 rfl (oN (tN ?_))))))))
  refine W_cond rfl (fun h2 => ?_) (fun h2 => ?_)
  ·
   simp only [HS] at h2
   refine rG (eK 3 rfl (oN (bN (tN ?_))))
   skip
   refine rG (eK 2 rfl ?_)
   refine WO_buildSlice tys [T.v _] rfl rfl (lt_of rfl) rfl rfl rfl rfl rfl (lt_of rfl) (by repeat (first | exact PartsOk.nil' | refine PartsOk.cons' rfl (by repeat (first | exact AbsL.nil' | refine AbsL.v' ?_ | refine AbsL.own' ?_ | refine AbsL.none' ?_)) rfl ?_)) (by first | exact List.nodup_nil | exact nodup1 _ | decide | exact nodupB_sound rfl) rfl (by decide) ?_
   refine nZ rfl (WO_append tys rfl rfl (lt_of rfl) rfl rfl rfl rfl rfl (.own rfl (by first | omega | (simp; done) | (simp; omega))) rfl (.own rfl (by simp)) (by decide) (by simp; omega) (by decide) rfl ?_)
   refine nZ rfl (kZ [0,1,8,10,11,18,19,20,21,22,23,24,25,50,51,52,53,134,135,136,137] rfl (eZ rfl (oN (bN (tN (rG (evI ?_)))))))
   refine eZ rfl (oN ?_)
   refine lQ (_, _, _, _, _, _) ?_ ?_
   ·dsimp only
    first
    | exact ExI.next hL hg hk0 (by omega) hto hex hrun hpl (tok_1 (by assumption)) rfl (by simp) (by simp [List.take_of_length_le]) rfl rfl rfl
   ·(show Int.toNat _ < Int.toNat _); omega
  simp only [HS] at h2
  refine sQ (rG (eK 2 rfl (oN (tN ?_))))
  refine W_cond rfl (fun h3 => ?_) (fun h3 => ?_)
  ·
   simp only [HS] at h3
   have hk2 : 0 ≤ (l[k.toNat]'(by omega)).n ∧ (l[k.toNat]'(by omega)).n < f.vars := by have h2 : (l[k.toNat]'(by omega)).op = 2 := (by assumption); simp [knownT, h2] at hkn; exact hkn
   refine W_le (Le.adoptBox (u := 101) (j := 1) (id := 191) rfl rfl rfl) (nY rfl (W_regionD mixed (by kernel_rfl) (evQ ?_)))
   refine QL_nil' rfl rfl (lt_of rfl) rfl rfl rfl (QL_norm rfl (evQ ?_))
   refine evQ ?_
   refine evQ ?_
   refine evQ ?_
   refine QL_idxS tys rfl rfl (lt_of rfl) rfl rfl rfl rfl rfl rfl rfl rfl hk2.1 (by rw [List.length_map, hvl]; omega) ?_
   refine QL_loadL tys rfl rfl (lt_of rfl) rfl rfl rfl rfl (getT0 _ _ hk2.1 (by rw [hvl]; omega)) rfl ?_
   refine QL_norm rfl (evQ ?_)
   refine QL_nil (bN (tN ?_))
   (refine W_le (Le.gatherBox (u := 101) (j := 1) (id := 191) rfl rfl rfl (by simp) rfl) ?_; refine W_norm rfl ?_)
   refine rG (eK 2 rfl ?_)
   refine WO_buildSlice tys [T.v _] rfl rfl (lt_of rfl) rfl rfl rfl rfl rfl (lt_of rfl) (by repeat (first | exact PartsOk.nil' | refine PartsOk.cons' rfl (by repeat (first | exact AbsL.nil' | refine AbsL.v' ?_ | refine AbsL.own' ?_ | refine AbsL.none' ?_)) rfl ?_)) (by first | exact List.nodup_nil | exact nodup1 _ | decide | exact nodupB_sound rfl) rfl (by decide) ?_
   refine nZ rfl (WO_append tys rfl rfl (lt_of rfl) rfl rfl rfl rfl rfl (.own rfl (by first | omega | (simp; done) | (simp; omega))) rfl (.own rfl (by simp)) (by decide) (by simp; omega) (by decide) rfl ?_)
   refine nZ rfl (eZ rfl (oN (bN (tN (rG (evI ?_))))))
   refine eZ rfl (oN ?_)
   refine lQ (_, _, _, _, _, _) ?_ ?_
   ·dsimp only
    first
    | exact ExI.next hL hg hk0 (by omega) hto hex hrun hpl (tok_2 (by assumption)) rfl (by simp) (by rw [atI_at hk2.1 (by omega)]; simp [List.take_of_length_le]) rfl (by simp [gC, List.take_of_length_le, T.ints]) rfl
   ·(show Int.toNat _ < Int.toNat _); omega
  simp only [HS] at h3
  refine sQ (rG (eK 2 rfl (oN (tN ?_))))
  refine W_cond rfl (fun h4 => ?_) (fun h4 => ?_)
  ·
   simp only [HS] at h4
   refine sQ (W_regionD mixed (by kernel_rfl) (evQ ?_))
   refine QL_norm rfl (QL_nil' rfl rfl (lt_of rfl) rfl rfl rfl (evQ ?_))
   refine evQ ?_
   refine evQ ?_
   refine evQ ?_
   refine QL_nil' rfl rfl (lt_of rfl) rfl rfl rfl (QL_norm rfl (evQ ?_))
   refine QL_untell tys 99 1 rfl rfl (lt_of rfl) rfl rfl rfl rfl (evEQ ?_)
   refine evQ ?_
   refine QL_nil (tN ?_)
   refine W_cond rfl (fun h5 => ?_) (fun h5 => ?_)
   ·
    simp only [HS] at h5
    refine sQ (W_regionD mixed (by kernel_rfl) (evQ ?_))
    refine QL_nil' rfl rfl (lt_of rfl) rfl rfl rfl (QL_norm rfl (evQ ?_))
    refine QL_untell tys 99 1 rfl rfl (lt_of rfl) rfl rfl rfl rfl (evQ ?_)
    refine QL_nil' rfl rfl (lt_of rfl) rfl rfl rfl (evQ ?_)
    refine evQ ?_
    refine QL_norm rfl (evQ ?_)
    refine QL_idxT tys rfl rfl (lt_of rfl) rfl rfl rfl rfl rfl rfl rfl (by omega) _ (getT _ _ (by omega) (by omega)) (evQ ?_)
    refine evQ ?_
    refine QL_nil (tN (rG (eZ rfl (WO_nil' rfl rfl (lt_of rfl) rfl rfl rfl (eK 3 rfl (kZ [0,1,8,10,11,18,19,20,21,22,23,24,25,50,51,54,55,64,65,66,67,68,69,70,71,72,73,74,75,76,77,78,79,80,81,82,83,84,85,86,87,88,89,90,91,92] rfl (evI ?_)))))))
    refine WO_nil' rfl rfl (lt_of rfl) rfl rfl rfl (eK 2 rfl (sT rfl (nZ rfl (oN (bN (tN ?_))))))
    skip
    refine rG (eK 2 rfl ?_)
    refine WO_buildSlice tys [T.v _] rfl rfl (lt_of rfl) rfl rfl rfl rfl rfl (lt_of rfl) (by repeat (first | exact PartsOk.nil' | refine PartsOk.cons' rfl (by repeat (first | exact AbsL.nil' | refine AbsL.v' ?_ | refine AbsL.own' ?_ | refine AbsL.none' ?_)) rfl ?_)) (by first | exact List.nodup_nil | exact nodup1 _ | decide | exact nodupB_sound rfl) rfl (by decide) ?_
    refine nZ rfl (WO_append tys rfl rfl (lt_of rfl) rfl rfl rfl rfl rfl (.own rfl (by first | omega | (simp; done) | (simp; omega))) rfl (.own rfl (by simp)) (by decide) (by simp; omega) (by decide) rfl ?_)
    refine nZ rfl (kZ [0,1,8,10,11,18,19,20,21,22,23,24,25,50,51,54,55,64,65,66,67,68,69,70,71,72,73,74,75,76,77,78,79,80,81,82,83,84,85,86,87,88,89,90,91,92,93,94,95,96,134,135,136,137] rfl (eZ rfl (oN (bN (tN (rG (evI ?_)))))))
    refine eZ rfl (oN ?_)
    refine lQ (_, _, _, _, _, _) ?_ ?_
    ·dsimp only
     first
     | exact ExI.next hL hg hk0 (by omega) hto hex hrun hpl (tok_9 (by assumption)) rfl (by simp) (by rw [inS, if_pos (by omega), List.getElem?_eq_getElem (by omega)]; simp [List.take_of_length_le]) (by rw [inS, if_pos (by omega)]; rfl) rfl rfl
    ·(show Int.toNat _ < Int.toNat _); omega
   simp only [HS] at h5
   refine W_skip (bN (tN ?_))
   skip
   refine rG (eK 2 rfl ?_)
   refine WO_buildSlice tys [T.v _] rfl rfl (lt_of rfl) rfl rfl rfl rfl rfl (lt_of rfl) (by repeat (first | exact PartsOk.nil' | refine PartsOk.cons' rfl (by repeat (first | exact AbsL.nil' | refine AbsL.v' ?_ | refine AbsL.own' ?_ | refine AbsL.none' ?_)) rfl ?_)) (by first | exact List.nodup_nil | exact nodup1 _ | decide | exact nodupB_sound rfl) rfl (by decide) ?_
   refine nZ rfl (WO_append tys rfl rfl (lt_of rfl) rfl rfl rfl rfl rfl (.own rfl (by first | omega | (simp; done) | (simp; omega))) rfl (.own rfl (by simp)) (by decide) (by simp; omega) (by decide) rfl ?_)
   refine nZ rfl (eZ rfl (kZ [0,1,8,10,11,18,19,20,21,22,23,24,25,50,51,54,55,64,65,66,67,68,69,70,71,72,73,74,75,76,134,135,136,137] rfl (oN (bN (tN (rG (evI ?_)))))))
   refine eZ rfl (oN ?_)
   refine lQ (_, _, _, _, _, _) ?_ ?_
   ·dsimp only
    first
    | exact ExI.next hL hg hk0 (by omega) hto hex hrun hpl (tok_9 (by assumption)) rfl (by simp) (by rw [inS, if_neg (by omega)]; simp [List.take_of_length_le]) (by rw [inS, if_neg (by omega)]; rfl) rfl rfl
   ·(show Int.toNat _ < Int.toNat _); omega
  simp only [HS] at h4
  refine sQ (rG (eK 2 rfl (oN (tN ?_))))
  refine W_cond rfl (fun h5 => ?_) (fun h5 => ?_)
  ·
   simp only [HS] at h5
   refine kY [0,1,8,10,11,18,19,20,21,22,23,24,25,50,51,54,55,64,65,97,98] rfl (rG ?_)
   have hrec := recI_fun bc bb q s1.by' fn s1.vars s1.off s1.res 0 0 false (pv :: iv :: xv) (T.Funcs p.funcs :: T.ints inp :: xt)
   unfold byK at hrec
   rw [byP_eq (bb := bb) (recS_some s1.by'), byP_eq (bb := bb) hto.by'] at hrec
   refine eZ rfl (WO_le (Le.close (u := 101) 1101 rfl rfl rfl) (nZ rfl ?_))
   refine WO_callP (rid := 99) [101, 102] rfl rfl (lt_of rfl) rfl rfl (by repeat (first | exact ResP.done | refine ResP.pin0 1101 rfl ?_ | refine ResP.pin0 1102 rfl ?_ | refine ResP.t ?_ | refine ResP.nil 1 ?_ | refine ResP.nil' ?_ | refine ResP.own ?_ | refine ResP.sl rfl rfl (by first | omega | (simp; omega)) ?_ | refine ResP.aggT (by repeat (first | exact ResP.done | refine ResP.t ?_)) ?_)) rfl (by repeat (first | exact trivial | refine ⟨rfl, rfl, ?_⟩)) (by decide) (hrec) rfl rfl rfl ?_
   refine nZ rfl (WO_le (Le.open (u := 101) 1101 rfl rfl rfl rfl) (nZ rfl (eZ rfl (oN (bN (tN ?_))))))
   skip
   refine rG (eK 2 rfl ?_)
   refine WO_buildSlice tys [T.v _] rfl rfl (lt_of rfl) rfl rfl rfl rfl rfl (lt_of rfl) (by repeat (first | exact PartsOk.nil' | refine PartsOk.cons' rfl (by repeat (first | exact AbsL.nil' | refine AbsL.v' ?_ | refine AbsL.own' ?_ | refine AbsL.none' ?_)) rfl ?_)) (by first | exact List.nodup_nil | exact nodup1 _ | decide | exact nodupB_sound rfl) rfl (by decide) ?_
   refine nZ rfl (WO_append tys rfl rfl (lt_of rfl) rfl rfl rfl rfl rfl (.own rfl (by first | omega | (simp; done) | (simp; omega))) rfl (.own rfl (by simp)) (by decide) (by simp; omega) (by decide) rfl ?_)
   refine nZ rfl (eZ rfl (oN (bN (tN (kY [0,1,8,10,11,18,19,20,21,22,23,24,25,50,51,54,55,64,65,97,98,99,100,134,135,136,137] rfl (rG (evI ?_)))))))
   refine eZ rfl (oN ?_)
   refine lQ (_, _, _, _, _, _) ?_ ?_
   ·dsimp only
    first
    | exact ExI.next hL hg hk0 (by omega) hto hex hrun hpl (tok_10 (by assumption)) rfl (by simp) (by simp [List.take_of_length_le]) rfl rfl rfl
   ·(show Int.toNat _ < Int.toNat _); omega
  simp only [HS] at h5
  refine sQ (kY [0,1,8,10,11,18,19,20,21,22,23,24,25,50,51,54,55,64,65,97,98] rfl (rG (eK 2 rfl (oN (tN ?_)))))
  refine W_cond rfl (fun h6 => ?_) (fun h6 => ?_)
  ·
   simp only [HS] at h6
   refine sQ ?_
   have h11 : (l[k.toNat]'(by omega)).op = 11 := by assumption
   have hk11 := known_op hkn h11
   rw [paramsL_len] at hk11
   have hfu11 := paramsL_at hk11.1 hk11.2
   have hpb := atI_bnd (goodP_ps hg) (l[k.toNat]'(by omega)).n
   have hnd11 : atI (paramsL p) (l[k.toNat]'(by omega)).n ≤ pile.length := by have := hnd; rw [needsT, if_neg (by omega), if_pos h11] at this; exact this
   refine W_regionD mixed (by kernel_rfl) (evQ ?_)
   refine evEQ ?_
   refine evQ ?_
   refine QL_nil' rfl rfl (lt_of rfl) rfl rfl rfl (QL_norm rfl (evQ ?_))
   refine evQ ?_
   refine QL_untell tys 99 0 rfl rfl (lt_of rfl) rfl rfl rfl rfl (evQ ?_)
   refine evQ ?_
   refine QL_idxT tys rfl rfl (lt_of rfl) rfl rfl rfl rfl rfl rfl rfl hk11.1 _ (getT _ _ hk11.1 hk11.2) (QL_norm rfl (evQ ?_))
   refine evQ ?_
   refine evIQ ?_
   refine evQ ?_
   refine QL_nil (tN (sQ ?_))
   obtain ⟨R, hR⟩ : ∃ R, R = L.call (l[k.toNat]'(by omega)).n (pile.drop (pile.length - (atI (paramsL p) (l[k.toNat]'(by omega)).n).toNat)) none s1.m := ⟨_, rfl⟩
   have hcl11 := hL.call (l[k.toNat]'(by omega)).n (pile.drop (pile.length - (atI (paramsL p) (l[k.toNat]'(by omega)).n).toNat)) none s1.m hk11.1 hk11.2 (by rw [List.length_drop]; omega) hto.ok.used
   have hCa := hC (l[k.toNat]'(by omega)).n (pile.drop (pile.length - (atI (paramsL p) (l[k.toNat]'(by omega)).n).toNat)) none s1.m bm 0 ⟨0, [], [], 0, .pointer none⟩ pv iv xv xt hk11.1 hk11.2 (by rw [List.length_drop]; omega) hto.ok.used (by omega) (by omega) (by omega) (by omega)
   rw [← hR] at hcl11 hCa
   refine W_le (Le.close (u := 100) 1100 rfl rfl rfl) (nY rfl (W_le (Le.noBox 150 (gC 0 [] [] 0 0 0 false (.pointer none)) rfl) (nY rfl (W_regionH [[], [], [], [], [], [], [], [], [], [], [], []] mixed (by kernel_rfl) (QH_G0 (QG_ev tys rfl rfl (lt_of rfl) rfl (QG_nil (QH_G0 (QG_ev tys rfl rfl (lt_of rfl) rfl (QG_nil (QH_G0 (QG_ev tys rfl rfl (lt_of rfl) rfl (QG_nil (QH_G0 (QG_ev tys rfl rfl (lt_of rfl) rfl ?_)))))))))))))))
   refine QG_nil (QH_norm rfl (QH_G0 (QG_ev tys rfl rfl (lt_of rfl) rfl (QG_nil (QH_G (QG_sliceS tys rfl rfl (lt_of rfl) rfl rfl rfl rfl rfl rfl rfl rfl rfl (by omega) (by omega) (by omega) (QG_nil ?_)))))))
   refine QH_callP (rid := 99) [150, 100] rfl rfl (lt_of rfl) rfl rfl (by repeat (first | exact ResP.done | refine ResP.pin0 1150 rfl ?_ | refine ResP.pin0 1100 rfl ?_ | refine ResP.t ?_ | refine ResP.nil 1 ?_ | refine ResP.nil' ?_ | refine ResP.own ?_ | refine ResP.sl rfl rfl (by first | omega | (simp; omega)) ?_ | refine ResP.aggT (by repeat (first | exact ResP.done | refine ResP.t ?_)) ?_)) rfl (by repeat (first | exact trivial | refine ⟨rfl, rfl, ?_⟩)) (by decide) (Proc.argLi (slI (q := pile.length - (atI (paramsL p) (l[k.toNat]'(by omega)).n).toNat) (by omega) (by omega) (by omega)) hCa) rfl rfl rfl ?_
   refine QH_G0 (QG_ev tys rfl rfl (lt_of rfl) rfl (QG_nil (QH_norm rfl (QH_G0 (QG_ev tys rfl rfl (lt_of rfl) rfl (QG_nil (QH_G0 (QG_ev tys rfl rfl (lt_of rfl) rfl (QG_nil (QH_G0 (QG_ev tys rfl rfl (lt_of rfl) rfl (QG_nil (QH_G0 (QG_ev tys rfl rfl (lt_of rfl) rfl (QG_nil ?_)))))))))))))))
   refine QH_norm rfl (QH_nil ?_)
   refine ⟨by kernel_rfl, ?_⟩
   refine nZ rfl (WO_le (Le.open (u := 100) 1100 rfl rfl rfl rfl) (nZ rfl (oN (tN (sQ (sQ (rG (eK 2 rfl (oN (tN ?_))))))))))
   refine W_cond rfl (fun h7 => ?_) (fun h7 => ?_)
   ·
    simp only [HS] at h7
    refine sQ (rG (eK 4 rfl (oN (tN (W_le (Le.close (u := 100) 1100 rfl rfl rfl) (nY rfl (W_le (Le.close (u := 101) 1101 rfl rfl rfl) (nY rfl (rT (tR (bR (tR (bR (tR (loopQ_r ?_)))))))))))))))
    refine bR (tR ?_)
    refine EndsP_of (ks := [_, _, _]) (.inr rfl) (ret_okF rfl) (by decide) rfl (noR_spec rfl) (by repeat (first | exact trivial | refine ⟨rfl, rfl, ?_⟩)) ?_ ?_
    ·(have he := exS_stop hk0 hkl hex (tok_11n hR (by assumption) (haH_n1 (by assumption))) (by have := hcl11.h1; omega); exact retT (by rw [he]) (by rw [he]))
    ·(have he := exS_stop hk0 hkl hex (tok_11n hR (by assumption) (haH_n1 (by assumption))) (by have := hcl11.h1; omega); rw [he]; rfl)
   simp only [HS] at h7
   refine W_skip (tN (rG (eK 2 rfl (WO_sliceS tys rfl rfl (lt_of rfl) rfl rfl rfl rfl rfl rfl rfl rfl rfl (by omega) (by omega) (by omega) (eK 3 rfl (oN (bN (tN ?_))))))))
   skip
   refine kY [0,1,8,10,11,12,13,14,18,19,20,21,22,23,24,25,50,51,54,55,64,65,97,98,101,102,103,104,105,106,107,108,109,110,111,112,113,114,115,116,117,118,119,120,121,122,123,124,125,126,127,130,131,132,133] rfl (rG (eK 2 rfl ?_))
   refine WO_buildSlice tys [T.v _] rfl rfl (lt_of rfl) rfl rfl rfl rfl rfl (lt_of rfl) (by repeat (first | exact PartsOk.nil' | refine PartsOk.cons' rfl (by repeat (first | exact AbsL.nil' | refine AbsL.v' ?_ | refine AbsL.own' ?_ | refine AbsL.none' ?_)) rfl ?_)) (by first | exact List.nodup_nil | exact nodup1 _ | decide | exact nodupB_sound rfl) rfl (by decide) ?_
   refine nZ rfl (WO_append tys rfl rfl (lt_of rfl) rfl rfl rfl rfl rfl (.own rfl (by first | omega | (simp; done) | (simp; omega))) rfl (.own rfl (by simp)) (by decide) (by simp; omega) (by decide) rfl ?_)
   refine nZ rfl (eZ rfl (oN (bN (tN (rG (evI ?_))))))
   refine eZ rfl (oN ?_)
   refine lQ (_, _, _, _, _, _) ?_ ?_
   ·dsimp only
    first
    | exact ExI.next hL hg hk0 (by omega) hto hex hrun hpl (tok_11 hR (by assumption) (haH_1 (by assumption))) rfl (by simp; omega) (by simp [List.take_of_length_le]; omega) (by have e := haH_1 (by assumption); rw [fuH_1 (by omega), coH_1 (by omega)]; rfl) rfl rfl
   ·(show Int.toNat _ < Int.toNat _); omega
  simp only [HS] at h6
  refine sQ ?_
  have hk3 : 3 ≤ (l[k.toNat]'(by omega)).op ∧ (l[k.toNat]'(by omega)).op ≤ 8 := by have := hkn; unfold knownT at this; rw [if_neg (by assumption), if_neg (by assumption), if_neg (by assumption)] at this; simp only [Bool.and_eq_true, decide_eq_true_eq] at this; omega
  have hp2 : 2 ≤ pile.length := by have := hnd; rw [needsT, if_pos hk3] at this; omega
  refine rG (eZ rfl (evE ?_))
  refine evI ?_
  refine eZ rfl (oN (tN (sQ (W_regionD mixed (by kernel_rfl) (evQ ?_)))))
  refine QL_norm rfl (evQ ?_)
  refine evQ ?_
  refine evQ ?_
  refine QL_idxS tys rfl rfl (lt_of rfl) rfl rfl rfl rfl rfl rfl rfl rfl (by omega) (by omega) (QL_loadL tys rfl rfl (lt_of rfl) rfl rfl rfl rfl (getT0 _ _ (by omega) (by omega)) rfl (evQ ?_))
  refine QL_norm rfl (evQ ?_)
  refine evIQ ?_
  refine QL_idxS tys rfl rfl (lt_of rfl) rfl rfl rfl rfl rfl rfl rfl rfl (by omega) (by omega) (QL_loadL tys rfl rfl (lt_of rfl) rfl rfl rfl rfl (getT0 _ _ (by omega) (by omega)) rfl (callBQ ?_))
  refine ⟨_, reckI_fun _ _ _, rfl, ?_⟩
  refine evQ ?_
  refine QL_norm rfl (evQ ?_)
  refine evQ ?_
  refine evQ ?_
  refine evQ ?_
  refine QL_nil (tN (sQ (sQ (rG (eK 2 rfl (oN (tN ?_)))))))
  refine W_cond rfl (fun h7 => ?_) (fun h7 => ?_)
  ·
   simp only [HS] at h7
   refine sQ (rG (eK 2 rfl (oN (tN (W_le (Le.close (u := 100) 1100 rfl rfl rfl) (nY rfl (W_le (Le.close (u := 101) 1101 rfl rfl rfl) (nY rfl (rT (tR (bR (tR (bR (tR (loopQ_r ?_)))))))))))))))
   refine bR (tR ?_)
   refine EndsP_of (ks := [_, _, _]) (.inr rfl) (ret_okF rfl) (by decide) rfl (noR_spec rfl) (by repeat (first | exact trivial | refine ⟨rfl, rfl, ?_⟩)) ?_ ?_
   ·(have he := exS_stop hk0 hkl hex (tok_rn (by assumption) (by assumption) (by assumption) (by assumption) (by assumption) (i := ((pile.length : Int) - 2).toNat) (j := ((pile.length : Int) - 2 + 1).toNat) (by omega) (by omega) (by omega) (by first | assumption | simp_all)) (by decide); exact retT (by rw [he]) (by rw [he]; rfl))
   ·(have he := exS_stop hk0 hkl hex (tok_rn (by assumption) (by assumption) (by assumption) (by assumption) (by assumption) (i := ((pile.length : Int) - 2).toNat) (j := ((pile.length : Int) - 2 + 1).toNat) (by omega) (by omega) (by omega) (by first | assumption | simp_all)) (by decide); rw [he]; rfl)
  simp only [HS] at h7
  refine W_skip (tN (rG (eK 2 rfl (WO_sliceS tys rfl rfl (lt_of rfl) rfl rfl rfl rfl rfl rfl rfl rfl rfl (by omega) (by omega) (by omega) (kZ [0,1,8,10,11,15,16,17,18,19,20,21,22,23,24,25,26,27,28,29,30,31,32,33,34,35,36,37,38,39,40,41,42,43,44,45,46,47,48,50,51,54,55,64,65,97,98,101,102] rfl (eK 3 rfl (oN (bN (tN ?_)))))))))
  skip
  refine rG (eK 2 rfl ?_)
  refine WO_buildSlice tys [T.v _] rfl rfl (lt_of rfl) rfl rfl rfl rfl rfl (lt_of rfl) (by repeat (first | exact PartsOk.nil' | refine PartsOk.cons' rfl (by repeat (first | exact AbsL.nil' | refine AbsL.v' ?_ | refine AbsL.own' ?_ | refine AbsL.none' ?_)) rfl ?_)) (by first | exact List.nodup_nil | exact nodup1 _ | decide | exact nodupB_sound rfl) rfl (by decide) ?_
  refine nZ rfl (WO_append tys rfl rfl (lt_of rfl) rfl rfl rfl rfl rfl (.own rfl (by first | omega | (simp; done) | (simp; omega))) rfl (.own rfl (by simp)) (by decide) (by simp; omega) (by decide) rfl ?_)
  refine nZ rfl (eZ rfl (oN (bN (tN (kY [0,1,8,10,11,15,16,17,18,19,20,21,22,23,24,25,26,27,28,29,30,31,32,33,34,35,36,37,38,39,40,41,42,43,44,45,46,47,48,49,50,51,54,55,64,65,97,98,101,102,134,135,136,137] rfl (rG (evI ?_)))))))
  refine eZ rfl (oN ?_)
  refine lQ (_, _, _, _, _, _) ?_ ?_
  ·dsimp only
   first
   | exact ExI.next hL hg hk0 (by omega) hto hex hrun hpl (tok_r' (by assumption) (by assumption) (by assumption) (by assumption) (by assumption) (i := ((pile.length : Int) - 2).toNat) (j := ((pile.length : Int) - 2 + 1).toNat) (by omega) (by omega) (by omega) (by first | assumption | simp_all)) rfl (by simp) (by simp [List.take_of_length_le]) rfl rfl rfl
  ·(show Int.toNat _ < Int.toNat _); omega
 simp only [HS] at h1
 refine W_exit (tE (loopQ_e (inBlk_y (tN (sQ ?_)))))
 have hpl1 := runE_done (by omega) hrun
 refine rG (eZ rfl (WO_idxS tys rfl rfl (lt_of rfl) rfl rfl rfl rfl rfl rfl rfl rfl (by omega) (by omega) (WO_loadL tys rfl rfl (lt_of rfl) rfl rfl rfl rfl (getT0 _ _ (by omega) (by omega)) rfl (eK 2 rfl (oN (tN (W_le (Le.close (u := 100) 1100 rfl rfl rfl) (nY rfl (W_le (Le.close (u := 101) 1101 rfl rfl rfl) (nY rfl (rT ?_)))))))))))
 refine EndsP_of (ks := [_, _, _]) (.inr rfl) (ret_okF rfl) (by decide) rfl (noR_spec rfl) (by repeat (first | exact trivial | refine ⟨rfl, rfl, ?_⟩)) ?_ ?_
 ·(have he := exS_end (by omega) hex; exact retT (by rw [he, List.getElem?_eq_getElem (by omega)]; rfl) (by rw [he]; rfl))
 ·(have he := exS_end (by omega) hex; rw [he]; rfl)

end Go.Proofs.YtimpganophnehaaGreat
