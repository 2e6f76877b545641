/- The walk of how the reference's machine does an expression. -/
import Derived.Test.YtimpganophnehaaGreatIb
import Derived.Test.YtimpganophnehaaGreatGl
import Derived.Test.YtimpganophnehaaGreatMe
set_option linter.unusedVariables false
set_option linter.unusedSimpArgs false
set_option maxRecDepth 10000
set_option maxHeartbeats 1000000
namespace Go.Proofs.YtimpganophnehaaGreat
open Go.Eng

def eV (h v : Int) : Int := if h = 2 then v else 0
def xV (h v : Int) : Int := if h = 1 then v else 0
def CallS (p : Prog) (inp : List Int) (most n : Nat) (L : Lev) : Prop :=
 ∀ (fn : Int) (args : List Int) (b : Option By) (m : Ms) (bm bb : Nat) (pv iv : Value) (xv : List Value) (xt : List T), 0 ≤ fn → fn < p.funcs.length → args.length = (atI (paramsL p) fn).toNat → m.used ≤ inp.length → m.deep ≤ most → m.fuel ≤ n → m.fuel ≤ 1048576 → m.trace.length + m.fuel ≤ 1048576 →
  Proc Tryz.prog 167 [.t (.v (.pointer (some ⟨bm, 0, none⟩))), .t (.int fn), .t (T.ints args), .t (.int ((m.deep : Int) + 1)), .t (.v (.pointer (some ⟨bb, 0, none⟩)))] (pv :: iv :: xv) (T.Funcs p.funcs :: T.ints inp :: xt)
   [.obox (.pointer (some ⟨bb, 0, none⟩)) (bS b), .obox (.pointer (some ⟨bm, 0, none⟩)) (mS pv iv most m)]
   (.tup [.t (.int (xV (L.call fn args b m).1 (L.call fn args b m).2.1)), .agg [.t (.int (L.call fn args b m).1), .t (.int (eV (L.call fn args b m).1 (L.call fn args b m).2.1))]])
   [.obox (.pointer (some ⟨bb, 0, none⟩)) (bS (L.call fn args b m).2.2.1), .obox (.pointer (some ⟨bm, 0, none⟩)) (mS pv iv most (L.call fn args b m).2.2.2)]

def exS (p : Prog) (inp : List Int) (L : Lev) (l : List Tok) (s : Sx) : Int × Int × Sx := exprS L.cal (paramsL p) inp l [] s
def ExInv (p : Prog) (inp : List Int) (f : Func) (L : Lev) (l : List Tok) (s : Sx) (pv iv fbv fsv : Value) (most dp : Int) (bb : Nat) (k : Int) (m : Nat) (ws : List T) (b1 b2 b3 : Blk) : Prop :=
 ∃ (pile : List Int) (s1 : Sx), 0 ≤ k ∧ k ≤ l.length ∧ Sx.to p inp f 0 s s1 ∧ exS p inp L l s = exprS L.cal (paramsL p) inp (l.drop k.toNat) pile s1 ∧ (∃ r mx, runE f.vars (paramsL p) (l.drop k.toNat) pile.length mx = some (1, r)) ∧ (pile.length : Int) ≤ k ∧
  m = pile.length ∧ ws = pile.map T.int ∧ b1 = .box (mS pv iv most s1.m) ∧ b2 = .box (cS f fbv fsv s1.vars s1.off s1.res dp bb) ∧ b3 = .obox (.pointer (some ⟨bb, 0, none⟩)) (bS s1.by')

section
variable {p : Prog} {inp : List Int} {f : Func} {L : Lev} {l : List Tok} {s s1 : Sx} {pv iv fbv fsv : Value} {most dp : Int} {bb : Nat} {k : Int} {pile : List Int}
theorem runE_next (h0 : 0 ≤ k) (h1 : k < l.length) (hr : ∃ r mx, runE f.vars (paramsL p) (l.drop k.toNat) pile.length mx = some (1, r)) :
  knownT f.vars (paramsL p).length (l[k.toNat]'(by omega)) = true ∧ needsT (paramsL p) (l[k.toNat]'(by omega)) ≤ pile.length ∧ ∃ r mx, runE f.vars (paramsL p) (l.drop (k + 1).toNat) (pile.length + (1 - needsT (paramsL p) (l[k.toNat]'(by omega)))) mx = some (1, r) := by
 obtain ⟨r, mx, hr⟩ := hr
 rw [runE_at h0 h1] at hr
 split at hr
 ·rename_i h
  rw [Bool.and_eq_true, decide_eq_true_eq] at h
  exact ⟨h.1, h.2, r, _, hr⟩
 ·cases hr
theorem runE_done (h1 : (l.length : Int) ≤ k) (hr : ∃ r mx, runE f.vars (paramsL p) (l.drop k.toNat) pile.length mx = some (1, r)) : pile.length = 1 := by
 obtain ⟨r, mx, hr⟩ := hr
 rw [drop_end h1, runE] at hr
 have := (Prod.mk.inj (Option.some.inj hr)).1
 omega
theorem ExInv.next (hL : LevOk p inp L) (hg : goodP p = true) (h0 : 0 ≤ k) (h1 : k < l.length) (hto : Sx.to p inp f 0 s s1) (hex : exS p inp L l s = exprS L.cal (paramsL p) inp (l.drop k.toNat) pile s1) (hr : ∃ r mx, runE f.vars (paramsL p) (l.drop k.toNat) pile.length mx = some (1, r)) (hpl : (pile.length : Int) ≤ k)
  {pile' : List Int} {s' : Sx} {v : Int} (ht : tokX L.cal (paramsL p) inp (l[k.toNat]'(by omega)) pile s1 = (0, v, pile', s')) {k' : Int} (hk : k' = k + 1) {m : Nat} {ws : List T} {b1 b2 b3 : Blk}
  (e1 : m = pile'.length) (e2 : ws = pile'.map T.int) (e3 : b1 = .box (mS pv iv most s'.m)) (e4 : b2 = .box (cS f fbv fsv s'.vars s'.off s'.res dp bb)) (e5 : b3 = .obox (.pointer (some ⟨bb, 0, none⟩)) (bS s'.by')) :
  ExInv p inp f L l s pv iv fbv fsv most dp bb k' m ws b1 b2 b3 := by
 subst hk
 obtain ⟨g1, g2, r, mx, g3⟩ := runE_next h0 h1 hr
 obtain ⟨q1, q2⟩ := tokX_ok hL hg hto.ok g1 g2
 rw [ht] at q1 q2
 dsimp only at q1 q2
 have q2 := q2 rfl
 have hps := needsT_bnd (goodP_ps hg) (l[k.toNat]'(by omega))
 refine ⟨pile', s', by omega, by omega, hto.trans q1 (by omega), ?_, ⟨r, mx, by rw [q2]; exact g3⟩, by omega, e1, e2, e3, e4, e5⟩
 rw [hex, drop_at h0 h1, exprS, ht]
 rfl
theorem exS_stop (h0 : 0 ≤ k) (h1 : k < l.length) (hex : exS p inp L l s = exprS L.cal (paramsL p) inp (l.drop k.toNat) pile s1) {h v : Int} {pile' : List Int} {s' : Sx} (ht : tokX L.cal (paramsL p) inp (l[k.toNat]'(by omega)) pile s1 = (h, v, pile', s')) (hh : h ≠ 0) : exS p inp L l s = (h, v, s') := by
 rw [hex, drop_at h0 h1, exprS, ht]
 simp [hh]
theorem exS_end (h1 : (l.length : Int) ≤ k) (hex : exS p inp L l s = exprS L.cal (paramsL p) inp (l.drop k.toNat) pile s1) : exS p inp L l s = (0, (pile[0]?).getD 0, s1) := by
 rw [hex, drop_end h1, exprS]
variable {t : Tok}
theorem tok_1 (h : t.op = 1) : tokX L.cal (paramsL p) inp t pile s1 = (0, 0, pile ++ [t.n], s1) := by rw [tokX, if_pos h]
theorem tok_2 (h : t.op = 2) : tokX L.cal (paramsL p) inp t pile s1 = (0, 0, pile ++ [atI s1.vars t.n], s1) := by rw [tokX, if_neg (by omega), if_pos h]
theorem tok_9 (h : t.op = 9) : tokX L.cal (paramsL p) inp t pile s1 = (0, 0, pile ++ [(inS inp s1.m).1], { s1 with m := (inS inp s1.m).2 }) := by rw [tokX, if_neg (by omega), if_neg (by omega), if_pos h]
theorem tok_10 (h : t.op = 10) : tokX L.cal (paramsL p) inp t pile s1 = (0, 0, pile ++ [(recS s1.by').1], { s1 with by' := (recS s1.by').2 }) := by rw [tokX, if_neg (by omega), if_neg (by omega), if_neg (by omega), if_pos h]
theorem tok_11 {R : Int × Int × Option By × Ms} (hR : R = L.call t.n (pile.drop (pile.length - (atI (paramsL p) t.n).toNat)) none s1.m) (h : t.op = 11) (h1 : R.1 = 1) : tokX L.cal (paramsL p) inp t pile s1 = (0, 0, pile.take (pile.length - (atI (paramsL p) t.n).toNat) ++ [R.2.1], { s1 with m := R.2.2.2 }) := by
 subst hR
 rw [tokX, if_neg (by omega), if_neg (by omega), if_neg (by omega), if_neg (by omega), if_pos h]
 dsimp only [Lev.cal]
 rw [if_pos h1]
theorem tok_11n {R : Int × Int × Option By × Ms} (hR : R = L.call t.n (pile.drop (pile.length - (atI (paramsL p) t.n).toNat)) none s1.m) (h : t.op = 11) (h1 : ¬ R.1 = 1) : tokX L.cal (paramsL p) inp t pile s1 = (R.1, R.2.1, pile, { s1 with m := R.2.2.2 }) := by
 subst hR
 rw [tokX, if_neg (by omega), if_neg (by omega), if_neg (by omega), if_neg (by omega), if_pos h]
 dsimp only [Lev.cal]
 rw [if_neg h1]
theorem tok_r (h1 : ¬ t.op = 1) (h2 : ¬ t.op = 2) (h9 : ¬ t.op = 9) (h10 : ¬ t.op = 10) (h11 : ¬ t.op = 11) (hk : 2 ≤ pile.length) : tokX L.cal (paramsL p) inp t pile s1 = match reckS t.op (pile[pile.length - 2]'(by omega)) (pile[pile.length - 1]'(by omega)) with
  | none => (2, -1, pile, s1)
  | some v => (0, 0, pile.take (pile.length - 2) ++ [v], s1) := by
 rw [tokX, if_neg h1, if_neg h2, if_neg h9, if_neg h10, if_neg h11, List.getElem?_eq_getElem (by omega), List.getElem?_eq_getElem (by omega)]
 rfl
theorem tok_r' (h1 : ¬ t.op = 1) (h2 : ¬ t.op = 2) (h9 : ¬ t.op = 9) (h10 : ¬ t.op = 10) (h11 : ¬ t.op = 11) (hk : 2 ≤ pile.length) {i j : Nat} (hi : i = pile.length - 2) (hj : j = pile.length - 1) (hv : (reckS t.op (pile[i]'(by omega)) (pile[j]'(by omega))).isSome = true) : tokX L.cal (paramsL p) inp t pile s1 = (0, 0, pile.take i ++ [reckV t.op (pile[i]'(by omega)) (pile[j]'(by omega))], s1) := by
 subst hi hj
 rw [tok_r h1 h2 h9 h10 h11 hk, reckV]
 cases h : reckS t.op (pile[pile.length - 2]'(by omega)) (pile[pile.length - 1]'(by omega)) with
 | none => rw [h] at hv; cases hv
 | some v => rfl
theorem tok_rn (h1 : ¬ t.op = 1) (h2 : ¬ t.op = 2) (h9 : ¬ t.op = 9) (h10 : ¬ t.op = 10) (h11 : ¬ t.op = 11) (hk : 2 ≤ pile.length) {i j : Nat} (hi : i = pile.length - 2) (hj : j = pile.length - 1) (hv : ¬ (reckS t.op (pile[i]'(by omega)) (pile[j]'(by omega))).isSome = true) : tokX L.cal (paramsL p) inp t pile s1 = (2, -1, pile, s1) := by
 subst hi hj
 rw [tok_r h1 h2 h9 h10 h11 hk]
 cases h : reckS t.op (pile[pile.length - 2]'(by omega)) (pile[pile.length - 1]'(by omega)) with
 | none => rfl
 | some v => rw [h] at hv; exact absurd rfl hv
end
theorem slI {pile : List Int} {Q : Int} {q : Nat} (h0 : 0 ≤ Q) (h1 : Q ≤ pile.length) (hq : q = pile.length - Q.toNat) : ((pile.map T.int).drop (0 + ((pile.length : Int) - Q).toNat)).take ((pile.length : Int).toNat - ((pile.length : Int) - Q).toNat) = (pile.drop q).map T.int := by
 rw [List.map_drop, show 0 + ((pile.length : Int) - Q).toNat = q from by omega, List.take_of_length_le (by simp; omega)]
theorem Proc.argL {F : Nat} {a b d e : D} {zs : List T} {ys : List Int} {rv : List Value} {rt : List T} {ks ks' : List Blk} {r : D} (h : zs = ys.map T.int) (hp : Proc Tryz.prog F [a, b, .t (T.ints ys), d, e] rv rt ks r ks') : Proc Tryz.prog F [a, b, .t (.list 1 zs), d, e] rv rt ks r ks' := by
 subst h; exact hp
theorem retX {a a' b b' c c' : Int} (h1 : a = a') (h2 : b = b') (h3 : c = c') : tupD [D.t (T.v (Value.int .i64 a)), D.agg [D.t (T.v (Value.int .i64 b)), D.t (T.v (Value.int .i64 c))]] = D.tup [D.t (T.int a'), D.agg [D.t (T.int b'), D.t (T.int c')]] := by rw [h1, h2, h3]; rfl

theorem exprP_fun (p : Prog) (inp : List Int) (most n : Nat) (L : Lev) (hL : LevOk p inp L) (hC : CallS p inp most n L) (hg : goodP p = true) (hp : p.ok 1048576) (hi : inp.length ≤ 1048576) (f : Func) (hf : f ∈ p.funcs) (l : List Tok) (hl : l.length ≤ 12) (hr : ∃ r, runE f.vars (paramsL p) l 0 0 = some (1, r)) (s : Sx) (hs : s.ok p inp f) (hn : s.m.fuel ≤ n) (hn2 : s.m.fuel ≤ 1048576) (hti : s.m.trace.length + s.m.fuel ≤ 1048576) (hdm : s.m.deep ≤ most) (hmost : most ≤ 1048576) (bm bc bb : Nat) (pv iv fbv fsv : Value) (xv : List Value) (xt : List T) : Proc Tryz.prog 239 [.t (.v (.pointer (some ⟨bm, 0, none⟩))), .t (.v (.pointer (some ⟨bc, 0, none⟩))), .t (T.Toks l)] ((pv :: iv :: xv)) ((T.Funcs p.funcs :: T.ints inp :: xt)) [.obox (.pointer (some ⟨bm, 0, none⟩)) (mS pv iv most s.m), .obox (.pointer (some ⟨bc, 0, none⟩)) (cS f fbv fsv s.vars s.off s.res s.m.deep bb), .obox (.pointer (some ⟨bb, 0, none⟩)) (bS s.by')] (.tup [.t (.int (if (exS p inp L l s).1 = 0 then (exS p inp L l s).2.1 else 0)), .agg [.t (.int (exS p inp L l s).1), .t (.int (eV (exS p inp L l s).1 (exS p inp L l s).2.1))]]) [.obox (.pointer (some ⟨bm, 0, none⟩)) (mS pv iv most (exS p inp L l s).2.2.m), .obox (.pointer (some ⟨bc, 0, none⟩)) (cS f fbv fsv (exS p inp L l s).2.2.vars (exS p inp L l s).2.2.off (exS p inp L l s).2.2.res s.m.deep bb), .obox (.pointer (some ⟨bb, 0, none⟩)) (bS (exS p inp L l s).2.2.by')] := by
 have hgp := goodP_len hg
 have hgv := good_vars hg hf
 refine Proc.intro tys Tryz.func239 rfl rfl (N := 139) [100, 101, 102] 99 ([(0, .t (.v (.pointer (some ⟨bm, 0, none⟩)))), (1, .t (.v (.pointer (some ⟨bc, 0, none⟩)))), (2, .t (T.Toks l))]) ([(100, .obox (.pointer (some ⟨bm, 0, none⟩)) (mS pv iv most s.m)), (101, .obox (.pointer (some ⟨bc, 0, none⟩)) (cS f fbv fsv s.vars s.off s.res s.m.deep bb)), (102, .obox (.pointer (some ⟨bb, 0, none⟩)) (bS s.by')), (99, .ro (pv :: iv :: xv) (T.Funcs p.funcs :: T.ints inp :: xt))]) rfl rfl rfl rfl (by decide) (by decide) rfl (fun w0 G F0 => ?_)
 refine nY rfl (W_le (Le.openNew (u := 100) 1100 rfl rfl rfl rfl rfl) (nY rfl (W_le (Le.named (t := 0) (u := 100) 1100 rfl rfl) (nY rfl (W_le (Le.openNew (u := 101) 1101 rfl rfl rfl rfl rfl) (nY rfl (W_le (Le.named (t := 1) (u := 101) 1101 rfl rfl) (nY rfl (sQ (rG (eZ rfl (WO_alloc tys rfl rfl (lt_of rfl) rfl rfl rfl (nZ rfl (oN (tN ?_)))))))))))))))
 refine sQ (rG (eZ rfl (WO_le (Le.nilOwn (u := 8) 1 rfl) (WO_le (Le.adoptE (u := 8) 8 rfl rfl) (nZ rfl (oN (tN (sQ (sQ (rG (eZ rfl (evE ?_))))))))))))
 refine eZ rfl (oN (tN (W_block ?_)))
 refine lK (α := Int × Nat × List T × Blk × Blk × Blk) [0, 1, 7, 17, 18] [7, 99, 1100, 1101] (fun x => [(19, .t (.int (x.1))), (8, .sl 8 0 (x.2.1))]) (fun x => [(8, .L 1 (x.2.2.1)), (100, (x.2.2.2.1)), (101, (x.2.2.2.2.1)), (102, (x.2.2.2.2.2))]) (fun x => ExInv p inp f L l s pv iv fbv fsv most s.m.deep bb (x.1) (x.2.1) (x.2.2.1) (x.2.2.2.1) (x.2.2.2.2.1) (x.2.2.2.2.2)) (fun x => Int.toNat (l.length - (x.1))) (0, 0, [], .box (mS pv iv most s.m), .box (cS f fbv fsv s.vars s.off s.res s.m.deep bb), .obox (.pointer (some ⟨bb, 0, none⟩)) (bS s.by')) ?_ (fun x hx => ?_)
 ·exact ⟨[], s, by omega, by omega, Sx.to.refl hs (by omega) (by omega), rfl, hr.imp fun r h => ⟨0, h⟩, by simp, rfl, rfl, rfl, rfl, rfl⟩
 obtain ⟨k, m, ws, b1, b2, b3⟩ := x
 obtain ⟨pile, s1, hk0, hk1, hto, hex, hrun, hpl, hm, hws, hb1, hb2, hb3⟩ := hx
 dsimp only at hk0 hk1 hto hex hrun hpl hm hws hb1 hb2 hb3 ⊢
 subst hm hws hb1 hb2 hb3
 refine nY rfl (sQ (rG (eZ rfl (oN (tN (sQ ?_))))))
 refine W_cond rfl (fun h1 => ?_) (fun h1 => ?_)
 ·
  simp only [HS] at h1
  refine W_skip (tN (sQ (W_block (sQ (rG ?_)))))
  have hkl : k < l.length := by omega
  obtain ⟨hkn, hnd, hrun2⟩ := runE_next hk0 hkl hrun
  have hpl12 : pile.length ≤ 12 := by omega
  have hfu : s1.m.fuel ≤ s.m.fuel := hto.le.1
  have hft : s1.m.trace.length + s1.m.fuel ≤ s.m.trace.length + s.m.fuel := hto.le.2.1
  have hdp : s1.m.deep = s.m.deep := hto.deep (by omega)
  have hvl : s1.vars.length = f.vars.toNat := hto.ok.vars
  refine WO_idxT tys rfl rfl (lt_of rfl) rfl rfl rfl rfl rfl rfl rfl (by omega) _ (getT _ _ (by omega) (by omega)) (eZ rfl ?_)
  try refine WO_le (Le.freeze (u := 22) rfl) ?_
  refine nZ rfl (WO_alloc tys rfl rfl (lt_of rfl) rfl rfl rfl (nZ rfl (sT rfl (nZ rfl (oN (tN (sQ (rG (eZ rfl (evE ?_))))))))))
  refine eZ rfl (oN (tN (sQ (kY [0,1,7,8,10,11,17,18,19,20,21,22,23,24] rfl (rG (eK 2 rfl (oN (tN (W_block (sQ (rG (eK 2 rfl (oN (tN ?_))))))))))))))
  refine W_cond rfl (fun h2 => ?_) (fun h2 => ?_)
  ·
   simp only [HS] at h2
   refine rG (eK 3 rfl ?_)
   refine WO_buildSlice tys [T.int (l[k.toNat]'(by omega)).n] rfl rfl (lt_of rfl) rfl rfl rfl rfl rfl (lt_of rfl) (by repeat (first | exact PartsOk.nil' | refine PartsOk.cons' rfl (by repeat (first | exact AbsL.nil' | refine AbsL.v' ?_ | refine AbsL.own' ?_ | refine AbsL.none' ?_)) rfl ?_)) (by first | exact List.nodup_nil | exact nodup1 _ | decide | exact nodupB_sound rfl) rfl (by decide) ?_
   refine nZ rfl (WO_append tys rfl rfl (lt_of rfl) rfl rfl rfl rfl rfl (.own rfl (by first | omega | (simp; done) | (simp; omega))) rfl (.own rfl (by simp)) (by decide) (by simp; omega) (by decide) rfl ?_)
   refine nZ rfl (kZ [0,1,7,8,10,11,17,18,19,20,21,22,23,24,25,26,53,54,55,56,57,58,59] rfl (eZ rfl (oN (bN (bN (tN (rG (evI ?_))))))))
   refine eZ rfl (oN ?_)
   refine lQ (_, _, _, _, _, _) ?_ ?_
   ·dsimp only
    first
    | exact ExInv.next hL hg hk0 (by omega) hto hex hrun hpl (tok_1 (by assumption)) rfl (by simp) (by simp [List.take_of_length_le]) rfl rfl rfl
   ·(show Int.toNat _ < Int.toNat _); omega
  simp only [HS] at h2
  refine sQ (rG (eK 2 rfl (oN (tN ?_))))
  refine W_cond rfl (fun h3 => ?_) (fun h3 => ?_)
  ·
   simp only [HS] at h3
   have hk2 : 0 ≤ (l[k.toNat]'(by omega)).n ∧ (l[k.toNat]'(by omega)).n < f.vars := by have h2 : (l[k.toNat]'(by omega)).op = 2 := (by assumption); simp [knownT, h2] at hkn; exact hkn
   refine W_le (Le.adoptBox (u := 101) (j := 4) (id := 191) rfl rfl rfl) (nY rfl (W_regionGm 10 mixed rfl (by kernel_rfl) (by kernel_rfl) (QG_ev tys rfl rfl (lt_of rfl) rfl (QG_norm rfl (QG_ev tys rfl rfl (lt_of rfl) rfl (QG_nil' rfl rfl (lt_of rfl) rfl rfl rfl (QG_ev tys rfl rfl (lt_of rfl) rfl (QG_ev tys rfl rfl (lt_of rfl) rfl (QG_ev tys rfl rfl (lt_of rfl) rfl (QG_ev tys rfl rfl (lt_of rfl) rfl (QG_norm rfl (QG_idxS tys rfl rfl (lt_of rfl) rfl rfl rfl rfl rfl rfl rfl rfl hk2.1 (by rw [List.length_map, hvl]; omega) ?_))))))))))))
   refine QG_loadL tys rfl rfl (lt_of rfl) rfl rfl rfl rfl (getT0 _ _ hk2.1 (by rw [hvl]; omega)) rfl ?_
   refine QG_buildS tys [T.int (s1.vars[(l[k.toNat]'(by omega)).n.toNat]'(by have h2 : (l[k.toNat]'(by omega)).op = 2 := (by assumption); simp [knownT, h2] at hkn; omega))] rfl rfl (lt_of rfl) rfl rfl rfl rfl rfl (lt_of rfl) (by repeat (first | exact PartsOk.nil' | refine PartsOk.cons' rfl (by repeat (first | exact AbsL.nil' | refine AbsL.v' ?_ | refine AbsL.own' ?_ | refine AbsL.none' ?_)) rfl ?_)) rfl rfl rfl (by decide) ?_
   refine QG_nil ?_
   refine ⟨by kernel_rfl, ?_⟩
   refine nZ rfl (WO_le (Le.adoptE (u := 71) 71 rfl (by first | exact lenN | exact rfl)) ?_)
   refine nZ rfl (WO_append tys rfl rfl (lt_of rfl) rfl rfl rfl rfl rfl (.own rfl (by first | omega | (simp; done) | (simp; omega))) rfl (.own rfl (by simp)) (by decide) (by simp; omega) (by decide) rfl ?_)
   refine nZ rfl (eZ rfl (nZ rfl (WO_le (Le.gatherBox (u := 101) (j := 4) (id := 191) rfl rfl rfl (by simp) rfl) ?_)))
   refine nZ rfl (oN (bN (bN (tN (rG (evI ?_))))))
   refine eZ rfl (oN ?_)
   refine lQ (_, _, _, _, _, _) ?_ ?_
   ·dsimp only
    first
    | exact ExInv.next hL hg hk0 (by omega) hto hex hrun hpl (tok_2 (by assumption)) rfl (by simp) (by rw [atI_at hk2.1 (by omega)]; simp [List.take_of_length_le]) rfl (by simp [cS, List.take_of_length_le, T.ints]) rfl
   ·(show Int.toNat _ < Int.toNat _); omega
  simp only [HS] at h3
  refine sQ (rG (eK 2 rfl (oN (tN ?_))))
  refine W_cond rfl (fun h4 => ?_) (fun h4 => ?_)
  ·
   simp only [HS] at h4
   refine kY [0,1,7,8,10,11,17,18,19,20,21,22,23,24,25,26,53,54,60,61,73,74] rfl (rG (eK 2 rfl (WO_le (Le.close (u := 100) 1100 rfl rfl rfl) (nZ rfl ?_))))
   refine WO_callP (rid := 99) [100] rfl rfl (lt_of rfl) rfl rfl (by repeat (first | exact ResP.done | refine ResP.pin0 1100 rfl ?_ | refine ResP.t ?_ | refine ResP.nil 1 ?_ | refine ResP.nil' ?_ | refine ResP.own ?_ | refine ResP.sl rfl rfl (by first | omega | (simp; omega)) ?_ | refine ResP.aggT (by repeat (first | exact ResP.done | refine ResP.t ?_)) ?_)) rfl (by repeat (first | exact trivial | refine ⟨rfl, rfl, ?_⟩)) (by decide) (inputS_fun bm pv iv most s1.m inp xv xt (T.Funcs p.funcs) hto.ok.used hi) rfl rfl rfl ?_
   refine nZ rfl (WO_le (Le.open (u := 100) 1100 rfl rfl rfl rfl) (nZ rfl ?_))
   refine WO_buildSlice tys [T.int (inS inp s1.m).1] rfl rfl (lt_of rfl) rfl rfl rfl rfl rfl (lt_of rfl) (by repeat (first | exact PartsOk.nil' | refine PartsOk.cons' rfl (by repeat (first | exact AbsL.nil' | refine AbsL.v' ?_ | refine AbsL.own' ?_ | refine AbsL.none' ?_)) rfl ?_)) (by first | exact List.nodup_nil | exact nodup1 _ | decide | exact nodupB_sound rfl) rfl (by decide) ?_
   refine nZ rfl (WO_append tys rfl rfl (lt_of rfl) rfl rfl rfl rfl rfl (.own rfl (by first | omega | (simp; done) | (simp; omega))) rfl (.own rfl (by simp)) (by decide) (by simp; omega) (by decide) rfl ?_)
   refine nZ rfl (eZ rfl (oN (bN (bN (tN (rG (evI ?_)))))))
   refine eZ rfl (oN ?_)
   refine lQ (_, _, _, _, _, _) ?_ ?_
   ·dsimp only
    first
    | exact ExInv.next hL hg hk0 (by omega) hto hex hrun hpl (tok_9 (by assumption)) rfl (by simp) (by simp [List.take_of_length_le]) rfl rfl rfl
   ·(show Int.toNat _ < Int.toNat _); omega
  simp only [HS] at h4
  refine sQ (kY [0,1,7,8,10,11,17,18,19,20,21,22,23,24,25,26,53,54,60,61,73,74] rfl (rG (eK 2 rfl (oN (tN ?_)))))
  refine W_cond rfl (fun h5 => ?_) (fun h5 => ?_)
  ·
   simp only [HS] at h5
   refine rG (eK 2 rfl (WO_nil' rfl rfl (lt_of rfl) rfl rfl rfl (eK 2 rfl ?_)))
   refine WO_callP (rid := 99) [102] rfl rfl (lt_of rfl) rfl rfl (by repeat (first | exact ResP.done | refine ResP.pin0 1102 rfl ?_ | refine ResP.t ?_ | refine ResP.nil 1 ?_ | refine ResP.nil' ?_ | refine ResP.own ?_ | refine ResP.sl rfl rfl (by first | omega | (simp; omega)) ?_ | refine ResP.aggT (by repeat (first | exact ResP.done | refine ResP.t ?_)) ?_)) rfl (by repeat (first | exact trivial | refine ⟨rfl, rfl, ?_⟩)) (by decide) (recoverS_fun bb s1.by' (pv :: iv :: xv) (T.Funcs p.funcs :: T.ints inp :: xt)) rfl rfl rfl ?_
   refine nZ rfl ?_
   refine WO_buildSlice tys [T.int (recS s1.by').1] rfl rfl (lt_of rfl) rfl rfl rfl rfl rfl (lt_of rfl) (by repeat (first | exact PartsOk.nil' | refine PartsOk.cons' rfl (by repeat (first | exact AbsL.nil' | refine AbsL.v' ?_ | refine AbsL.own' ?_ | refine AbsL.none' ?_)) rfl ?_)) (by first | exact List.nodup_nil | exact nodup1 _ | decide | exact nodupB_sound rfl) rfl (by decide) ?_
   refine nZ rfl (kZ [0,1,7,8,10,11,17,18,19,20,21,22,23,24,25,26,53,54,60,61,73,74,80,81,82,83,84,85,86,87,88] rfl (WO_append tys rfl rfl (lt_of rfl) rfl rfl rfl rfl rfl (.own rfl (by first | omega | (simp; done) | (simp; omega))) rfl (.own rfl (by simp)) (by decide) (by simp; omega) (by decide) rfl ?_))
   refine nZ rfl (eZ rfl (oN (bN (bN (tN (rG (evI ?_)))))))
   refine eZ rfl (oN ?_)
   refine lQ (_, _, _, _, _, _) ?_ ?_
   ·dsimp only
    first
    | exact ExInv.next hL hg hk0 (by omega) hto hex hrun hpl (tok_10 (by assumption)) rfl (by simp) (by simp [List.take_of_length_le]) rfl rfl rfl
   ·(show Int.toNat _ < Int.toNat _); omega
  simp only [HS] at h5
  refine sQ (rG (eK 2 rfl (oN (tN ?_))))
  refine W_cond rfl (fun h6 => ?_) (fun h6 => ?_)
  ·
   simp only [HS] at h6
   refine sQ (W_regionD mixed (by kernel_rfl) ?_)
   have h11 : (l[k.toNat]'(by omega)).op = 11 := by assumption
   have hk11 := known_op hkn h11
   rw [paramsL_len] at hk11
   have hfu11 := paramsL_at hk11.1 hk11.2
   have hpb := atI_bnd (goodP_ps hg) (l[k.toNat]'(by omega)).n
   have hnd11 : atI (paramsL p) (l[k.toNat]'(by omega)).n ≤ pile.length := by have := hnd; rw [needsT, if_neg (by omega), if_pos h11] at this; exact this
   refine evQ ?_
   refine QL_nil' rfl rfl (lt_of rfl) rfl rfl rfl (QL_norm rfl (evQ ?_))
   refine evQ ?_
   refine QL_untell tys 99 0 rfl rfl (lt_of rfl) rfl rfl rfl rfl (evQ ?_)
   refine evQ ?_
   refine QL_idxT tys rfl rfl (lt_of rfl) rfl rfl rfl rfl rfl rfl rfl hk11.1 _ (getT _ _ hk11.1 hk11.2) (QL_norm rfl (evQ ?_))
   refine evQ ?_
   refine evQ ?_
   refine QL_nil (tN (sQ ?_))
   obtain ⟨R, hR⟩ : ∃ R, R = L.call (l[k.toNat]'(by omega)).n (pile.drop (pile.length - (atI (paramsL p) (l[k.toNat]'(by omega)).n).toNat)) none s1.m := ⟨_, rfl⟩
   have hcl11 := hL.call (l[k.toNat]'(by omega)).n (pile.drop (pile.length - (atI (paramsL p) (l[k.toNat]'(by omega)).n).toNat)) none s1.m hk11.1 hk11.2 (by rw [List.length_drop]; omega) hto.ok.used
   rw [← hR] at hcl11
   refine W_le (Le.close (u := 100) 1100 rfl rfl rfl) (nY rfl (W_regionH [[14, 117], [14, 117], [14, 117], [14, 117], [14, 117], [14, 117], [14, 117], [14, 117], [14, 117], [14, 117], [14, 117], [14, 117], [14, 117], [14], [14], [14], [14], [14], [14], [100, 117], [], []] mixed (by kernel_rfl) (QH_G (QG_ev tys rfl rfl (lt_of rfl) rfl (QG_nil (QH_G (QG_ev tys rfl rfl (lt_of rfl) rfl (QG_nil (QH_G (QG_ev tys rfl rfl (lt_of rfl) rfl (QG_nil (QH_G (QG_ev tys rfl rfl (lt_of rfl) rfl (QG_nil (QH_norm rfl ?_)))))))))))))))
   refine QH_G (QG_ev tys rfl rfl (lt_of rfl) rfl (QG_nil (QH_G (QG_ev tys rfl rfl (lt_of rfl) rfl (QG_nil (QH_G (QG_int tys rfl rfl (lt_of rfl) rfl (wrap_id (by omega) (by omega)) (QG_nil (QH_G (QG_sliceS tys rfl rfl (lt_of rfl) rfl rfl rfl rfl rfl rfl rfl rfl rfl (by omega) (by omega) (by omega) (QG_nil (QH_norm rfl (QH_G (QG_ev tys rfl rfl (lt_of rfl) rfl (QG_nil ?_)))))))))))))))
   refine QH_G (QG_nil' rfl rfl (lt_of rfl) rfl rfl rfl (QG_nil (QH_G (QG_ev tys rfl rfl (lt_of rfl) rfl (QG_nil (QH_G (QG_ev tys rfl rfl (lt_of rfl) rfl (QG_nil (QH_norm rfl (QH_G (QG_int tys rfl rfl (lt_of rfl) rfl (wrap_id (by omega) (by omega)) (QG_nil (QH_G (QG_structW (pl := [(0, 2), (2, 1)]) tys rfl rfl (lt_of rfl) rfl rfl rfl (by kernel_rfl) rfl rfl rfl rfl rfl (QG_nil ?_)))))))))))))))
   refine QH_box rfl rfl (lt_of rfl) rfl rfl rfl rfl ?_
   refine QH_callPB (u := 117) (rid := 99) (ks := [.obox (.pointer (some ⟨bm, 0, none⟩)) (mS pv iv most s1.m)]) (r := .tup [.t (.int (xV R.1 R.2.1)), .agg [.t (.int R.1), .t (.int (eV R.1 R.2.1))]]) (cells' := bS R.2.2.1) (ks' := [.obox (.pointer (some ⟨bm, 0, none⟩)) (mS pv iv most R.2.2.2)]) (es := fun a => [.t (.v (.pointer (some ⟨bm, 0, none⟩))), .t (.int (l[k.toNat]'(by omega)).n), .t (.list 1 (((pile.map T.int).drop (0 + ((pile.length : Int) - (p.funcs[(l[k.toNat]'(by omega)).n.toNat]'(by omega)).params).toNat)).take ((pile.length : Int).toNat - ((pile.length : Int) - (p.funcs[(l[k.toNat]'(by omega)).n.toNat]'(by omega)).params).toNat))), .t (.int ((s.m.deep : Int) + 1)), .t (.v (.pointer (some ⟨a, 0, none⟩)))]) [100] rfl rfl (lt_of rfl) rfl rfl rfl (fun a => ResP.pin0 1100 rfl (ResP.t (ResP.sl rfl rfl (by simp; omega) (ResP.t (ResP.pin0 118 rfl ResP.done))))) rfl (by repeat (first | exact trivial | refine ⟨rfl, rfl, ?_⟩)) (by decide) rfl rfl rfl rfl rfl (fun a => (by
   have h := hC (l[k.toNat]'(by omega)).n (pile.drop (pile.length - (atI (paramsL p) (l[k.toNat]'(by omega)).n).toNat)) none s1.m bm a pv iv xv xt hk11.1 hk11.2 (by rw [List.length_drop]; omega) hto.ok.used (by omega) (by omega) (by omega) (by omega)
   rw [hdp, ← hR] at h
   exact Proc.argL (slI (q := pile.length - (atI (paramsL p) (l[k.toNat]'(by omega)).n).toNat) (by omega) (by omega) (by omega)) h)) rfl rfl rfl ?_
   refine QH_norm rfl (QH_G (QG_ev tys rfl rfl (lt_of rfl) rfl (QG_nil (QH_G (QG_ev tys rfl rfl (lt_of rfl) rfl (QG_nil (QH_G (QG_ev tys rfl rfl (lt_of rfl) rfl (QG_nil (QH_G (QG_alloc tys rfl rfl (lt_of rfl) rfl rfl rfl rfl (QG_nil (QH_norm rfl (QH_G0 (QG_ev tys rfl rfl (lt_of rfl) rfl ?_)))))))))))))))
   refine QG_nil (QH_store tys 10021 rfl rfl rfl rfl rfl rfl rfl rfl rfl (Nat.le_of_ble_eq_true rfl) (QH_nil ?_))
   refine ⟨by kernel_rfl, ?_⟩
   refine nZ rfl (WO_le (Le.open (u := 100) 1100 rfl rfl rfl rfl) (nZ rfl (oN (tN (sQ (sQ (rG (eK 3 rfl (oN (tN ?_))))))))))
   refine W_cond rfl (fun h7 => ?_) (fun h7 => ?_)
   ·
    simp only [HS] at h7
    refine sQ (W_regionH [[], [], []] mixed (by kernel_rfl) (QH_G0 (QG_evZ tys rfl rfl (lt_of rfl) rfl rfl (QG_nil (QH_G0 (QG_ev tys rfl rfl (lt_of rfl) rfl (QG_nil (QH_store tys 10002 rfl rfl rfl rfl rfl rfl rfl rfl rfl (Nat.le_of_ble_eq_true rfl) (QH_nil ?_)))))))))
    refine ⟨by kernel_rfl, ?_⟩
    refine nZ rfl (oN (tN (W_le (Le.close (u := 100) 1100 rfl rfl rfl) (nY rfl (W_le (Le.close (u := 101) 1101 rfl rfl rfl) (nY rfl (rT (tR (bR (bR (tR (loopQ_r (bR (tR ?_))))))))))))))
    refine EndsP_of (ks := [_, _, _]) (.inr rfl) (ret_okF rfl) (by decide) rfl (noR_spec rfl) (by repeat (first | exact trivial | refine ⟨rfl, rfl, ?_⟩)) ?_ ?_
    ·(have he := exS_stop hk0 hkl hex (tok_11n hR (by assumption) (by assumption)) (by have := hcl11.h1; omega); exact retX (by rw [he, if_neg (by have := hcl11.h1; dsimp only; omega)]) (by rw [he]) (by rw [he]))
    ·(have he := exS_stop hk0 hkl hex (tok_11n hR (by assumption) (by assumption)) (by have := hcl11.h1; omega); rw [he]; rfl)
   simp only [HS] at h7
   refine W_skip (tN (W_le (Le.gather (u := 8) (id := 8) rfl rfl (by simp)) ?_))
   refine nY rfl (W_le (Le.freeze (u := 8) rfl) (nY rfl (rG (eK 3 rfl (evI ?_)))))
   refine WO_sliceT tys rfl rfl (lt_of rfl) rfl rfl rfl rfl rfl rfl rfl rfl (by first | omega | (simp only [List.length_map]; omega)) (by first | omega | (simp only [List.length_map]; omega)) (by rw [List.length_take, List.length_map]; omega) ?_
   refine callB ?_
   refine ⟨_, argI (l := pile.take (pile.length - (atI (paramsL p) (l[k.toNat]'(by omega)).n).toNat)) (by rw [List.map_take]; rw [Int.toNat_zero, List.drop_zero, List.take_take]; congr 1; omega) (l1Own_fun _ (by simp; omega)), rfl, ?_⟩
   refine WO_le (Le.adoptE (u := 130) 130 rfl (by first | exact lenN | exact rfl)) ?_
   refine nZ rfl (kZ [0,1,7,8,10,11,12,13,14,17,18,19,20,21,22,23,24,25,26,53,54,60,61,73,74,80,81,90,91,92,93,94,95,96,97,98,99,100,101,102,103,104,105,106,107,108,109,110,111,112,113,114,115,116,117,118,119,120,121,122,123,125,126,127,128,129,130] rfl (eZ rfl ?_))
   refine WO_buildSlice tys [T.int (xV R.1 R.2.1)] rfl rfl (lt_of rfl) rfl rfl rfl rfl rfl (lt_of rfl) (by repeat (first | exact PartsOk.nil' | refine PartsOk.cons' rfl (by repeat (first | exact AbsL.nil' | refine AbsL.v' ?_ | refine AbsL.own' ?_ | refine AbsL.none' ?_)) rfl ?_)) (by first | exact List.nodup_nil | exact nodup1 _ | decide | exact nodupB_sound rfl) rfl (by decide) ?_
   refine nZ rfl (WO_append tys rfl rfl (lt_of rfl) rfl rfl rfl rfl rfl (.own rfl (by first | omega | (simp; done) | (simp; omega))) rfl (.own rfl (by simp)) (by decide) (by simp; omega) (by decide) rfl ?_)
   refine nZ rfl (eZ rfl (nZ rfl (WO_le (Le.gather (u := 8) (id := 130) rfl rfl (by simp)) ?_)))
   refine nZ rfl (WO_le (Le.adoptE (u := 8) 8 rfl rfl) (nZ rfl (oN (bN (bN (tN (rG (evI ?_))))))))
   refine eZ rfl (oN ?_)
   refine lQ (_, _, _, _, _, _) ?_ ?_
   ·dsimp only
    first
    | exact ExInv.next hL hg hk0 (by omega) hto hex hrun hpl (tok_11 hR (by assumption) (by assumption)) rfl (by simp) (by simp [xV, List.take_of_length_le, show R.1 = 1 from by assumption]) rfl rfl rfl
   ·(show Int.toNat _ < Int.toNat _); omega
  simp only [HS] at h6
  refine sQ (W_regionD mixed (by kernel_rfl) ?_)
  have hk3 : 3 ≤ (l[k.toNat]'(by omega)).op ∧ (l[k.toNat]'(by omega)).op ≤ 8 := by have := hkn; unfold knownT at this; rw [if_neg (by assumption), if_neg (by assumption), if_neg (by assumption)] at this; simp only [Bool.and_eq_true, decide_eq_true_eq] at this; omega
  have hp2 : 2 ≤ pile.length := by have := hnd; rw [needsT, if_pos hk3] at this; omega
  refine evQ ?_
  refine evQ ?_
  refine QL_norm rfl (evQ ?_)
  refine evQ ?_
  refine evIQ ?_
  refine QL_idxS tys rfl rfl (lt_of rfl) rfl rfl rfl rfl rfl rfl rfl rfl (by omega) (by omega) (QL_loadL tys rfl rfl (lt_of rfl) rfl rfl rfl rfl (getT0 _ _ (by omega) (by omega)) rfl (evQ ?_))
  refine QL_norm rfl (evQ ?_)
  refine evIQ ?_
  refine QL_idxS tys rfl rfl (lt_of rfl) rfl rfl rfl rfl rfl rfl rfl rfl (by omega) (by omega) (QL_loadL tys rfl rfl (lt_of rfl) rfl rfl rfl rfl (getT0 _ _ (by omega) (by omega)) rfl (callBQ ?_))
  refine ⟨_, l2Reckon_fun _ _ _, rfl, ?_⟩
  refine evQ ?_
  refine QL_norm rfl (evQ ?_)
  refine evQ ?_
  refine evQ ?_
  refine evQ ?_
  refine QL_nil (tN (sQ (sQ (rG (eK 2 rfl (oN (tN ?_)))))))
  refine W_cond rfl (fun h7 => ?_) (fun h7 => ?_)
  ·
   simp only [HS] at h7
   refine sQ (rG (WO_struct tys rfl rfl (lt_of rfl) rfl rfl rfl (by kernel_rfl) rfl rfl rfl rfl rfl rfl (eZ rfl (sT rfl (nZ rfl (kZ [0,1,6,7,8,10,11,15,16,17,18,19,20,21,22,23,24,25,26,27,28,29,30,31,32,33,34,35,36,37,38,39,40,41,42,43,44,45,53,54,60,61,73,74,80,81,90,91] rfl (oN (tN (W_le (Le.close (u := 100) 1100 rfl rfl rfl) (nY rfl (W_le (Le.close (u := 101) 1101 rfl rfl rfl) (nY rfl (rT (tR (bR ?_)))))))))))))))
   refine bR (tR (loopQ_r (bR (tR ?_))))
   refine EndsP_of (ks := [_, _, _]) (.inr rfl) (ret_okF rfl) (by decide) rfl (noR_spec rfl) (by repeat (first | exact trivial | refine ⟨rfl, rfl, ?_⟩)) ?_ ?_
   ·(have he := exS_stop hk0 hkl hex (tok_rn (by assumption) (by assumption) (by assumption) (by assumption) (by assumption) (i := ((pile.length : Int) - 2).toNat) (j := ((pile.length : Int) - 1).toNat) (by omega) (by omega) (by omega) (by first | assumption | simp_all)) (by decide); exact retX (by rw [he]; rfl) (by rw [he]) (by rw [he]; rfl))
   ·(have he := exS_stop hk0 hkl hex (tok_rn (by assumption) (by assumption) (by assumption) (by assumption) (by assumption) (i := ((pile.length : Int) - 2).toNat) (j := ((pile.length : Int) - 1).toNat) (by omega) (by omega) (by omega) (by first | assumption | simp_all)) (by decide); rw [he]; rfl)
  simp only [HS] at h7
  refine W_skip (tN (rG (eK 2 rfl (evI ?_))))
  refine kZ [0,1,7,8,10,11,15,16,17,18,19,20,21,22,23,24,25,26,27,28,29,30,31,32,33,34,35,36,37,38,39,40,41,42,43,44,46,47,48,53,54,60,61,73,74,80,81,90,91] rfl (WO_sliceS tys rfl rfl (lt_of rfl) rfl rfl rfl rfl rfl rfl rfl rfl rfl (by omega) (by omega) (by omega) (eZ rfl ?_))
  refine WO_buildSlice tys [T.int (reckV (l[k.toNat]'(by omega)).op (pile[((pile.length : Int) - 2).toNat]'(by omega)) (pile[((pile.length : Int) - 1).toNat]'(by omega)))] rfl rfl (lt_of rfl) rfl rfl rfl rfl rfl (lt_of rfl) (by repeat (first | exact PartsOk.nil' | refine PartsOk.cons' rfl (by repeat (first | exact AbsL.nil' | refine AbsL.v' ?_ | refine AbsL.own' ?_ | refine AbsL.none' ?_)) rfl ?_)) (by first | exact List.nodup_nil | exact nodup1 _ | decide | exact nodupB_sound rfl) rfl (by decide) ?_
  refine nZ rfl (WO_append tys rfl rfl (lt_of rfl) rfl rfl rfl rfl rfl (.own rfl (by first | omega | (simp; done) | (simp; omega))) rfl (.own rfl (by simp)) (by decide) (by simp; omega) (by decide) rfl ?_)
  refine nZ rfl (eZ rfl (oN (bN (bN (tN (rG (evI ?_)))))))
  refine eZ rfl (oN ?_)
  refine lQ (_, _, _, _, _, _) ?_ ?_
  ·dsimp only
   first
   | exact ExInv.next hL hg hk0 (by omega) hto hex hrun hpl (tok_r' (by assumption) (by assumption) (by assumption) (by assumption) (by assumption) (i := ((pile.length : Int) - 2).toNat) (j := ((pile.length : Int) - 1).toNat) (by omega) (by omega) (by omega) (by first | assumption | simp_all)) rfl (by simp) (by simp [List.take_of_length_le]) rfl rfl rfl
  ·(show Int.toNat _ < Int.toNat _); omega
 simp only [HS] at h1
 refine W_exit (tE (loopQ_e (inBlk_y (tN (sQ ?_)))))
 have hpl1 := runE_done (by omega) hrun
 refine rG (eZ rfl (WO_idxS tys rfl rfl (lt_of rfl) rfl rfl rfl rfl rfl rfl rfl rfl (by omega) (by omega) (WO_loadL tys rfl rfl (lt_of rfl) rfl rfl rfl rfl (getT0 _ _ (by omega) (by omega)) rfl (WO_struct tys rfl rfl (lt_of rfl) rfl rfl rfl (by kernel_rfl) rfl rfl rfl rfl rfl rfl (eZ rfl (sT rfl (nZ rfl (oN (tN (W_le (Le.close (u := 100) 1100 rfl rfl rfl) (nY rfl (W_le (Le.close (u := 101) 1101 rfl rfl rfl) (nY rfl (rT ?_))))))))))))))
 refine EndsP_of (ks := [_, _, _]) (.inr rfl) (ret_okF rfl) (by decide) rfl (noR_spec rfl) (by repeat (first | exact trivial | refine ⟨rfl, rfl, ?_⟩)) ?_ ?_
 ·(have he := exS_end (by omega) hex; exact retX (by rw [he, if_pos rfl, List.getElem?_eq_getElem (by omega)]; rfl) (by rw [he]) (by rw [he]; rfl))
 ·(have he := exS_end (by omega) hex; rw [he]; rfl)

end Go.Proofs.YtimpganophnehaaGreat
