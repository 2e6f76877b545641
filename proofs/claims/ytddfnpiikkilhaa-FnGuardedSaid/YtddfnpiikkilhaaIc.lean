/- Walks and laws of the claim. -/
import Derived.Test.YtddfnpiikkilhaaGb
import Derived.Test.YtddfnpiikkilhaaMe
set_option linter.unusedVariables false
set_option linter.unusedSimpArgs false
set_option maxRecDepth 10000
set_option maxHeartbeats 1000000
namespace Go.Proofs.Ytddfnpiikkilhaa
open Go.Eng
open Go.Eng
def exS (p : Prog) (inp : List Int) (L : Lev) (l : List Tok) (s : Sx) : Int × Int × Sx := exprS L.cal (paramsL p) inp l [] s
section
variable {p : Prog} {inp : List Int} {f : Func} {L : Lev} {l : List Tok} {s s1 : Sx} {pv iv fbv fsv : Value} {most dp : Int} {bb : Nat} {k : Int} {pile : List Int}
theorem Hv (h0 : 0 ≤ k) (h1 : k < l.length) (hr : ∃ r mx, CO f.vars (paramsL p) (l.drop k.toNat) pile.length mx = some (1, r)) :
  knownT f.vars (paramsL p).length (l[k.toNat]'(by omega)) = true ∧ Ah (paramsL p) (l[k.toNat]'(by omega)) ≤ pile.length ∧ ∃ r mx, CO f.vars (paramsL p) (l.drop (k + 1).toNat) (pile.length + (1 - Ah (paramsL p) (l[k.toNat]'(by omega)))) mx = some (1, r) := by
 obtain ⟨r, mx, hr⟩ := hr
 rw [D4 h0 h1] at hr;split at hr
 ·rename_i h
  rw [Qf, decide_eq_true_eq] at h;exact ⟨h.1, h.2, r, _, hr⟩
 ·cases hr
theorem MM (h1 : (l.length : Int) ≤ k) (hr : ∃ r mx, CO f.vars (paramsL p) (l.drop k.toNat) pile.length mx = some (1, r)) : pile.length = 1 := by
 obtain ⟨r, mx, hr⟩ := hr
 rw [A7 h1, CO] at hr
 have := (Prod.mk.inj (Option.some.inj hr)).1
 omega
theorem FV (h0 : 0 ≤ k) (h1 : k < l.length) (hex : exS p inp L l s = exprS L.cal (paramsL p) inp (l.drop k.toNat) pile s1) {h v : Int} {pile' : List Int} {s' : Sx} (ht : tokX L.cal (paramsL p) inp (l[k.toNat]'(by omega)) pile s1 = (h, v, pile', s')) (hh : h ≠ 0) : exS p inp L l s = (h, v, s') := by
 rw [hex, CU h0 h1, exprS, ht]
 simp [hh]
theorem M8 (h1 : (l.length : Int) ≤ k) (hex : exS p inp L l s = exprS L.cal (paramsL p) inp (l.drop k.toNat) pile s1) : exS p inp L l s = (0, (pile[0]?).getD 0, s1) := by
 rw [hex, A7 h1, exprS]
variable {t : Tok}
theorem tok_1 (h : t.op = 1) : tokX L.cal (paramsL p) inp t pile s1 = (0, 0, pile ++ [t.n], s1) := by rw [tokX, if_pos h]
theorem tok_2 (h : t.op = 2) : tokX L.cal (paramsL p) inp t pile s1 = (0, 0, pile ++ [atI s1.vars t.n], s1) := by rw [tokX, if_neg (by omega), if_pos h]
theorem tok_9 (h : t.op = 9) : tokX L.cal (paramsL p) inp t pile s1 = (0, 0, pile ++ [(inS inp s1.m).1], { s1 with m := (inS inp s1.m).2 }) := by rw [tokX, if_neg (by omega), if_neg (by omega), if_pos h]
theorem tok_10 (h : t.op = 10) : tokX L.cal (paramsL p) inp t pile s1 = (0, 0, pile ++ [(Ep s1.by').1], { s1 with by' := (Ep s1.by').2 }) := by rw [tokX, if_neg (by omega), if_neg (by omega), if_neg (by omega), if_pos h]
theorem tok_11 {R : Int × Int × Option By × Ms} (hR : R = L.call t.n (pile.drop (pile.length - (atI (paramsL p) t.n).toNat)) none s1.m) (h : t.op = 11) (h1 : R.1 = 1) : tokX L.cal (paramsL p) inp t pile s1 = (0, 0, pile.take (pile.length - (atI (paramsL p) t.n).toNat) ++ [R.2.1], { s1 with m := R.2.2.2 }) := by
 subst hR;rw [tokX, if_neg (by omega), if_neg (by omega), if_neg (by omega), if_neg (by omega), if_pos h];dsimp only [Lev.cal];rw [if_pos h1]
theorem Ly {R : Int × Int × Option By × Ms} (hR : R = L.call t.n (pile.drop (pile.length - (atI (paramsL p) t.n).toNat)) none s1.m) (h : t.op = 11) (h1 : ¬ R.1 = 1) : tokX L.cal (paramsL p) inp t pile s1 = (R.1, R.2.1, pile, { s1 with m := R.2.2.2 }) := by
 subst hR;rw [tokX, if_neg (by omega), if_neg (by omega), if_neg (by omega), if_neg (by omega), if_pos h];dsimp only [Lev.cal];rw [if_neg h1]
theorem tok_r (h1 : ¬ t.op = 1) (h2 : ¬ t.op = 2) (h9 : ¬ t.op = 9) (h10 : ¬ t.op = 10) (h11 : ¬ t.op = 11) (hk : 2 ≤ pile.length) : tokX L.cal (paramsL p) inp t pile s1 = match reckS t.op (pile[pile.length - 2]'(by omega)) (pile[pile.length - 1]'(by omega)) with
  | none => (2, -1, pile, s1)
  | some v => (0, 0, pile.take (pile.length - 2) ++ [v], s1) := by
 rw [tokX, if_neg h1, if_neg h2, if_neg h9, if_neg h10, if_neg h11, List.getElem?_eq_getElem (by omega), List.getElem?_eq_getElem (by omega)];rfl
theorem tok_r' (h1 : ¬ t.op = 1) (h2 : ¬ t.op = 2) (h9 : ¬ t.op = 9) (h10 : ¬ t.op = 10) (h11 : ¬ t.op = 11) (hk : 2 ≤ pile.length) {i j : Nat} (hi : i = pile.length - 2) (hj : j = pile.length - 1) (hv : (reckS t.op (pile[i]'(by omega)) (pile[j]'(by omega))).isSome = true) : tokX L.cal (paramsL p) inp t pile s1 = (0, 0, pile.take i ++ [FG t.op (pile[i]'(by omega)) (pile[j]'(by omega))], s1) := by
 subst hi hj;rw [tok_r h1 h2 h9 h10 h11 hk, FG]
 cases h : reckS t.op (pile[pile.length - 2]'(by omega)) (pile[pile.length - 1]'(by omega)) with
 | none => rw [h] at hv; cases hv
 | some v => rfl
theorem PL (h1 : ¬ t.op = 1) (h2 : ¬ t.op = 2) (h9 : ¬ t.op = 9) (h10 : ¬ t.op = 10) (h11 : ¬ t.op = 11) (hk : 2 ≤ pile.length) {i j : Nat} (hi : i = pile.length - 2) (hj : j = pile.length - 1) (hv : ¬ (reckS t.op (pile[i]'(by omega)) (pile[j]'(by omega))).isSome = true) : tokX L.cal (paramsL p) inp t pile s1 = (2, -1, pile, s1) := by
 subst hi hj;rw [tok_r h1 h2 h9 h10 h11 hk]
 cases h : reckS t.op (pile[pile.length - 2]'(by omega)) (pile[pile.length - 1]'(by omega)) with
 | none => rfl
 | some v => rw [h] at hv; exact absurd rfl hv
end
theorem slI {pile : List Int} {Q : Int} {q : Nat} (h0 : 0 ≤ Q) (h1 : Q ≤ pile.length) (hq : q = pile.length - Q.toNat) : ((pile.map T.int).drop (0 + ((pile.length : Int) - Q).toNat)).take ((pile.length : Int).toNat - ((pile.length : Int) - Q).toNat) = (pile.drop q).map T.int := by
 rw [List.map_drop, show 0 + ((pile.length : Int) - Q).toNat = q from by omega, Qi (by simp; omega)]
open Go.Eng
def No (p : Prog) (inp : List Int) (most n : Nat) (L : Lev) : Prop :=
 ∀ (fn : Int) (args : List Int) (b : Option By) (m : Ms) (bm bb : Nat) (q : Kp) (pv iv : Value) (xv : List Value) (xt : List T), 0 ≤ fn → fn < p.funcs.length → args.length = (atI (paramsL p) fn).toNat → m.used ≤ inp.length → m.deep ≤ most → m.fuel ≤ n → m.fuel ≤ 1048576 → m.trace.length + m.fuel ≤ 1048576 →
  Proc Try.prog 65 [.t (.v (.pointer (some ⟨bm, 0, none⟩))), .t (.int fn), .t (T.ints args), .t (.v (byP bb b))] (pv :: iv :: xv) (T.Funcs p.funcs :: T.ints inp :: xt)
   [byK bb q b, .obox (.pointer (some ⟨bm, 0, none⟩)) (rS pv iv most m.fuel 0 m)]
   (.tup [.t (.int (haH (L.call fn args b m).1)), .t (.int (L.call fn args b m).2.1)])
   [.obox (byP bb b) (gC q.fn q.vars q.off q.res (hH (L.call fn args b m).2.2.1) (nH (L.call fn args b m).2.2.1) (xH (L.call fn args b m).2.2.1) q.bp), .obox (.pointer (some ⟨bm, 0, none⟩)) (rS pv iv most (fuH (L.call fn args b m).1 (L.call fn args b m).2.2.2) (coH (L.call fn args b m).1) (L.call fn args b m).2.2.2)]
def ExI (p : Prog) (inp : List Int) (f : Func) (L : Lev) (l : List Tok) (s : Sx) (pv iv bp : Value) (q : Kp) (bpv : Value) (most fn : Int) (k : Int) (m : Nat) (ws : List T) (b1 b2 b3 : Blk) : Prop :=
 ∃ (pile : List Int) (s1 : Sx), 0 ≤ k ∧ k ≤ l.length ∧ Sx.to p inp f 0 s s1 ∧ exS p inp L l s = exprS L.cal (paramsL p) inp (l.drop k.toNat) pile s1 ∧ (∃ r mx, CO f.vars (paramsL p) (l.drop k.toNat) pile.length mx = some (1, r)) ∧ (pile.length : Int) ≤ k ∧
  m = pile.length ∧ ws = pile.map T.int ∧ b1 = .box (rS pv iv most s1.m.fuel 0 s1.m) ∧ b2 = .box (gC fn s1.vars s1.off s1.res 0 0 false bp) ∧ b3 = .obox bpv (gC q.fn q.vars q.off q.res (hH s1.by') (nH s1.by') (xH s1.by') q.bp)
section
variable {p : Prog} {inp : List Int} {f : Func} {L : Lev} {l : List Tok} {s s1 : Sx} {pv iv bp bpv : Value} {most fn : Int} {q : Kp} {k : Int} {pile : List Int}
theorem ExI.next (hL : JA p inp L) (hg : Au p = true) (h0 : 0 ≤ k) (h1 : k < l.length) (hto : Sx.to p inp f 0 s s1) (hex : exS p inp L l s = exprS L.cal (paramsL p) inp (l.drop k.toNat) pile s1) (hr : ∃ r mx, CO f.vars (paramsL p) (l.drop k.toNat) pile.length mx = some (1, r)) (hpl : (pile.length : Int) ≤ k)
  {pile' : List Int} {s' : Sx} {v : Int} (ht : tokX L.cal (paramsL p) inp (l[k.toNat]'(by omega)) pile s1 = (0, v, pile', s')) {k' : Int} (hk : k' = k + 1) {m : Nat} {ws : List T} {b1 b2 b3 : Blk}
  (e1 : m = pile'.length) (e2 : ws = pile'.map T.int) (e3 : b1 = .box (rS pv iv most s'.m.fuel 0 s'.m)) (e4 : b2 = .box (gC fn s'.vars s'.off s'.res 0 0 false bp)) (e5 : b3 = .obox bpv (gC q.fn q.vars q.off q.res (hH s'.by') (nH s'.by') (xH s'.by') q.bp)) :
  ExI p inp f L l s pv iv bp q bpv most fn k' m ws b1 b2 b3 := by
 subst hk
 obtain ⟨g1, g2, r, mx, g3⟩ := Hv h0 h1 hr
 obtain ⟨q1, q2⟩ := Lz hL hg hto.ok g1 g2
 rw [ht] at q1 q2;dsimp only at q1 q2
 have q2 := q2 rfl
 have hps := Cr (HA hg) (l[k.toNat]'(by omega))
 refine ⟨pile', s', by omega, by omega, hto.trans q1 (by omega), ?_, ⟨r, mx, by rw [q2]; exact g3⟩, by omega, e1, e2, e3, e4, e5⟩;rw [hex, CU h0 h1, exprS, ht];rfl
theorem P5 {h : Int} (e : haH h = 1) : h = 1 := by unfold haH at e; split at e <;> omega
theorem PV {h : Int} (e : ¬ haH h = 1) : ¬ h = 1 := by intro h; subst h; exact e rfl
theorem Ic {h : Int} (e : h < 4) (m : Ms) : fuH h m = m.fuel := by unfold fuH; rw [if_neg (by omega)]
theorem Iq {h : Int} (e : h < 4) : coH h = 0 := by unfold coH; rw [if_neg (by omega)]
theorem P4 {h : Int} (e : h < 4) : haH h = h := by unfold haH; rw [if_neg (by omega)]
end
theorem Proc.argLi {F : Nat} {a b e : D} {zs : List T} {ys : List Int} {rv : List Value} {rt : List T} {ks ks' : List Blk} {r : D} (h : zs = ys.map T.int) (hp : Proc Try.prog F [a, b, .t (T.ints ys), e] rv rt ks r ks') : Proc Try.prog F [a, b, .t (.list 1 zs), e] rv rt ks r ks' := by
 subst h; exact hp
theorem FL {a a' b b' : Int} (h1 : a = a') (h2 : b = b') : A5 [D.t (T.v (Value.int .i64 a)), D.t (T.v (Value.int .i64 b))] = D.tup [D.t (T.int a'), D.t (T.int b')] := by rw [h1, h2]; rfl
theorem M7 (p : Prog) (inp : List Int) (most n : Nat) (L : Lev) (hL : JA p inp L) (hC : No p inp most n L) (hg : Au p = true) (hp : p.ok 1048576) (hi : inp.length ≤ 1048576) (f : Func) (hf : f ∈ p.funcs) (fn : Int) (l : List Tok) (hl : l.length ≤ 12) (hr : ∃ r, CO f.vars (paramsL p) l 0 0 = some (1, r)) (s : Sx) (hs : s.ok p inp f) (hn : s.m.fuel ≤ n) (hn2 : s.m.fuel ≤ 1048576) (hti : s.m.trace.length + s.m.fuel ≤ 1048576) (hdm : s.m.deep ≤ most) (hmost : most ≤ 1048576) (bm bc bb : Nat) (q : Kp) (pv iv : Value) (xv : List Value) (xt : List T) : Proc Try.prog 118 [.t (.v (.pointer (some ⟨bm, 0, none⟩))), .t (.v (.pointer (some ⟨bc, 0, none⟩))), .t (T.Toks l)] ((pv :: iv :: xv)) ((T.Funcs p.funcs :: T.ints inp :: xt)) [.obox (.pointer (some ⟨bm, 0, none⟩)) (rS pv iv most s.m.fuel 0 s.m), .obox (.pointer (some ⟨bc, 0, none⟩)) (gC fn s.vars s.off s.res 0 0 false (byP bb s.by')), byK bb q s.by'] (.tup [.t (.int (exS p inp L l s).2.1), .t (.int (haH (exS p inp L l s).1))]) [.obox (.pointer (some ⟨bm, 0, none⟩)) (rS pv iv most (fuH (exS p inp L l s).1 (exS p inp L l s).2.2.m) (coH (exS p inp L l s).1) (exS p inp L l s).2.2.m), .obox (.pointer (some ⟨bc, 0, none⟩)) (gC fn (exS p inp L l s).2.2.vars (exS p inp L l s).2.2.off (exS p inp L l s).2.2.res 0 0 false (byP bb s.by')), .obox (byP bb s.by') (gC q.fn q.vars q.off q.res (hH (exS p inp L l s).2.2.by') (nH (exS p inp L l s).2.2.by') (xH (exS p inp L l s).2.2.by') q.bp)] := by
 have hgp := B9 hg
 have hgv := Cv hg hf
 refine Proc.intro tys Try.func118 Z Z (N := 142) [100, 101, 102] 99 ([(0, .t (.v (.pointer (some ⟨bm, 0, none⟩)))), (1, .t (.v (.pointer (some ⟨bc, 0, none⟩)))), (2, .t (T.Toks l))]) ([(100, .obox (.pointer (some ⟨bm, 0, none⟩)) (rS pv iv most s.m.fuel 0 s.m)), (101, .obox (.pointer (some ⟨bc, 0, none⟩)) (gC fn s.vars s.off s.res 0 0 false (byP bb s.by'))), (102, byK bb q s.by'), (99, .ro (pv :: iv :: xv) (T.Funcs p.funcs :: T.ints inp :: xt))]) Z Z Z Z (by decide) (by decide) Z (fun w0 G F0 => ?_);refine nY Z (AU (Le.openNew (u := 100) 1100 Z Z Z Z Z) (nY Z (AU (Le.named (t := 0) (u := 100) 1100 Z Z) (nY Z (AU (Le.openNew (u := 101) 1101 Z Z Z Z Z) (nY Z (AU (Le.named (t := 1) (u := 101) 1101 Z Z) (nY Z (sG (eK 2 Z (nA (eZ Z (AC (Le.nilOwn (u := 8) 1 Z) (AC (Le.adoptE (u := 8) 8 Z Z) (nZ Z ?_)))))))))))))));refine nB (sQ (sG (eZ Z (evE ?_))));refine eZ Z (nB (AF ?_));refine lK (α := Int × Nat × List T × Blk × Blk × Blk) [0, 1, 18, 19] [99, 1100, 1101] (fun x => [(20, .t (.int (x.1))), (8, .sl 8 0 (x.2.1))]) (fun x => [(8, .L 1 (x.2.2.1)), (100, (x.2.2.2.1)), (101, (x.2.2.2.2.1)), (102, (x.2.2.2.2.2))]) (fun x => ExI p inp f L l s pv iv (byP bb s.by') q (byP bb s.by') most fn (x.1) (x.2.1) (x.2.2.1) (x.2.2.2.1) (x.2.2.2.2.1) (x.2.2.2.2.2)) (fun x => Int.toNat (l.length - (x.1))) (0, 0, [], .box (rS pv iv most s.m.fuel 0 s.m), .box (gC fn s.vars s.off s.res 0 0 false (byP bb s.by')), .obox (byP bb s.by') (gC q.fn q.vars q.off q.res (hH s.by') (nH s.by') (xH s.by') q.bp)) ?_ (fun x hx => ?_)
 ·exact ⟨[], s, by omega, by omega, Sx.to.refl hs (by omega) (by omega), rfl, hr.imp fun r h => ⟨0, h⟩, by simp, rfl, rfl, rfl, rfl, rfl⟩
 obtain ⟨k, m, ws, b1, b2, b3⟩ := x
 obtain ⟨pile, s1, hk0, hk1, hto, hex, hrun, hpl, hm, hws, hb1, hb2, hb3⟩ := hx
 dsimp only at hk0 hk1 hto hex hrun hpl hm hws hb1 hb2 hb3 ⊢;subst hm hws hb1 hb2 hb3;refine nY Z (sG (eZ Z (nB (sQ ?_))));refine AD Z (fun h1 => ?_) (fun h1 => ?_)
 ·
  simp only [HS] at h1;refine AE (tN (sQ (AF (sG ?_))))
  have hkl : k < l.length := by omega
  obtain ⟨hkn, hnd, hrun2⟩ := Hv hk0 hkl hrun
  have hpl12 : pile.length ≤ 12 := by omega
  have hfu : s1.m.fuel ≤ s.m.fuel := hto.le.1
  have hft : s1.m.trace.length + s1.m.fuel ≤ s.m.trace.length + s.m.fuel := hto.le.2.1
  have hus : s1.m.used ≤ inp.length := hto.le.2.2
  have hdp : s1.m.deep = s.m.deep := hto.deep (by omega)
  have hvl : s1.vars.length = f.vars.toNat := hto.ok.vars
  refine iY (k := ?_);refine eZ Z ?_
  try refine AC (Le.freeze (u := 23) rfl) ?_
  refine nZ Z (AH tys Z Z (AA Z) Z Z Z (nZ Z (sT Z (nZ Z (nA (eZ Z (nB (sQ (sG (eK 2 Z (nB (AF (sQ (kY [0,1,8,10,11,18,19,20,21,22,23,24,25] Z (rG ?_)))))))))))))));refine eK 2 Z (nB ?_);refine AD Z (fun h2 => ?_) (fun h2 => ?_)
  ·
   simp only [HS] at h2;refine rG (eK 3 Z (oN (bN (tN ?_))))
   skip
   refine rG (eK 2 Z (bZ [T.v _] ?_));refine nZ Z (AJ tys Z Z (AA Z) Z Z Z Z Z (.own Z (by first | omega | (simp; done) | (simp; omega))) Z (.own Z (by simp)) (by decide) (by simp; omega) (by decide) Z ?_);refine nZ Z (kZ [0,1,8,10,11,18,19,20,21,22,23,24,25,50,51,52,53,134,135,136,137] Z (eZ Z (oN (bN (tN (rG (evI ?_)))))));refine eZ Z (oN ?_);refine lQ (_, _, _, _, _, _) ?_ ?_
   ·dsimp only
    first
    | exact ExI.next hL hg hk0 (by omega) hto hex hrun hpl (tok_1 (by assumption)) rfl (by simp) (by simp [Qi]) rfl rfl rfl
   ·(show Int.toNat _ < Int.toNat _); omega
  simp only [HS] at h2;refine sG (eK 2 Z (nB ?_));refine AD Z (fun h3 => ?_) (fun h3 => ?_)
  ·
   simp only [HS] at h3
   have hk2 : 0 ≤ (l[k.toNat]'(by omega)).n ∧ (l[k.toNat]'(by omega)).n < f.vars := by have h2 : (l[k.toNat]'(by omega)).op = 2 := (by assumption); simp [knownT, h2] at hkn; exact hkn
   refine AU (Le.adoptBox (u := 101) (j := 1) (id := 191) Z Z Z) (nY Z (Ai A9 (by kernel_rfl) (evQ ?_)));refine BD rfl Z (AA Z) Z Z Z (AS Z (evQ ?_));refine evQ ?_;refine evQ ?_;refine evQ ?_;refine HX tys Z Z (AA Z) Z Z Z Z Z Z Z Z hk2.1 (by rw [Qh, hvl]; omega) ?_;refine HW tys Z Z (AA Z) Z Z Z Z (Ez _ _ hk2.1 (by rw [hvl]; omega)) Z ?_;refine AS Z (evQ ?_);refine BE (bN (tN ?_))
   (refine AU (Le.gatherBox (u := 101) (j := 1) (id := 191) rfl rfl rfl (by simp) rfl) ?_; refine A2 rfl ?_)
   refine rG (eK 2 Z (bZ [T.v _] ?_));refine nZ Z (AJ tys Z Z (AA Z) Z Z Z Z Z (.own Z (by first | omega | (simp; done) | (simp; omega))) Z (.own Z (by simp)) (by decide) (by simp; omega) (by decide) Z ?_);refine nZ Z (eZ Z (oN (bN (tN (rG (evI ?_))))));refine eZ Z (oN ?_);refine lQ (_, _, _, _, _, _) ?_ ?_
   ·dsimp only
    first
    | exact ExI.next hL hg hk0 (by omega) hto hex hrun hpl (tok_2 (by assumption)) rfl (by simp) (by rw [BL hk2.1 (by omega)]; simp [Qi]) rfl (by simp [gC, Qi, T.ints]) rfl
   ·(show Int.toNat _ < Int.toNat _); omega
  simp only [HS] at h3;refine sG (eK 2 Z (nB ?_));refine AD Z (fun h4 => ?_) (fun h4 => ?_)
  ·
   simp only [HS] at h4;refine sQ (Ai A9 (by kernel_rfl) (evQ ?_));refine AS Z (BD rfl Z (AA Z) Z Z Z (evQ ?_));refine evQ ?_;refine evQ ?_;refine evQ ?_;refine BD rfl Z (AA Z) Z Z Z (AS Z (evQ ?_));refine C4 tys 99 1 Z Z (AA Z) Z Z Z Z (evEQ ?_);refine evQ ?_;refine BE (tN ?_);refine AD Z (fun h5 => ?_) (fun h5 => ?_)
   ·
    simp only [HS] at h5;refine sQ (Ai A9 (by kernel_rfl) (evQ ?_));refine BD rfl Z (AA Z) Z Z Z (AS Z (evQ ?_));refine C4 tys 99 1 Z Z (AA Z) Z Z Z Z (evQ ?_);refine BD rfl Z (AA Z) Z Z Z (evQ ?_);refine evQ ?_;refine AS Z (evQ ?_);refine A3 tys Z Z (AA Z) Z Z Z Z Z Z Z (by omega) _ (EE _ _ (by omega) (by omega)) (evQ ?_);refine evQ ?_;refine BE (tN (rG (eZ Z (AK rfl Z (AA Z) Z Z Z (eK 3 Z (kZ [0,1,8,10,11,18,19,20,21,22,23,24,25,50,51,54,55,64,65,66,67,68,69,70,71,72,73,74,75,76,77,78,79,80,81,82,83,84,85,86,87,88,89,90,91,92] Z (evI ?_)))))));refine AK rfl Z (AA Z) Z Z Z (eK 2 Z (sT Z (nZ Z (oN (bN (tN ?_))))))
    skip
    refine rG (eK 2 Z (bZ [T.v _] ?_));refine nZ Z (AJ tys Z Z (AA Z) Z Z Z Z Z (.own Z (by first | omega | (simp; done) | (simp; omega))) Z (.own Z (by simp)) (by decide) (by simp; omega) (by decide) Z ?_);refine nZ Z (kZ [0,1,8,10,11,18,19,20,21,22,23,24,25,50,51,54,55,64,65,66,67,68,69,70,71,72,73,74,75,76,77,78,79,80,81,82,83,84,85,86,87,88,89,90,91,92,93,94,95,96,134,135,136,137] Z (eZ Z (oN (bN (tN (rG (evI ?_)))))));refine eZ Z (oN ?_);refine lQ (_, _, _, _, _, _) ?_ ?_
    ·dsimp only
     first
     | exact ExI.next hL hg hk0 (by omega) hto hex hrun hpl (tok_9 (by assumption)) rfl (by simp) (by rw [inS, if_pos (by omega), List.getElem?_eq_getElem (by omega)]; simp [Qi]) (by rw [inS, if_pos (by omega)]; rfl) rfl rfl
    ·(show Int.toNat _ < Int.toNat _); omega
   simp only [HS] at h5;refine AE (bN (tN ?_))
   skip
   refine rG (eK 2 Z (bZ [T.v _] ?_));refine nZ Z (AJ tys Z Z (AA Z) Z Z Z Z Z (.own Z (by first | omega | (simp; done) | (simp; omega))) Z (.own Z (by simp)) (by decide) (by simp; omega) (by decide) Z ?_);refine nZ Z (eZ Z (kZ [0,1,8,10,11,18,19,20,21,22,23,24,25,50,51,54,55,64,65,66,67,68,69,70,71,72,73,74,75,76,134,135,136,137] Z (oN (bN (tN (rG (evI ?_)))))));refine eZ Z (oN ?_);refine lQ (_, _, _, _, _, _) ?_ ?_
   ·dsimp only
    first
    | exact ExI.next hL hg hk0 (by omega) hto hex hrun hpl (tok_9 (by assumption)) rfl (by simp) (by rw [inS, if_neg (by omega)]; simp [Qi]) (by rw [inS, if_neg (by omega)]; rfl) rfl rfl
   ·(show Int.toNat _ < Int.toNat _); omega
  simp only [HS] at h4;refine sG (eK 2 Z (nB ?_));refine AD Z (fun h5 => ?_) (fun h5 => ?_)
  ·
   simp only [HS] at h5;refine kY [0,1,8,10,11,18,19,20,21,22,23,24,25,50,51,54,55,64,65,97,98] Z (rG ?_)
   have hrec := OL bc bb q s1.by' fn s1.vars s1.off s1.res 0 0 false (pv :: iv :: xv) (T.Funcs p.funcs :: T.ints inp :: xt)
   unfold byK at hrec;rw [GA (bb := bb) (H2 s1.by'), GA (bb := bb) hto.by'] at hrec;refine eZ Z (AC (Le.close (u := 101) 1101 Z Z Z) (nZ Z ?_));refine cP [101,102] (hm := (hrec)) (k := ?_);refine nZ Z (AC (Le.open (u := 101) 1101 Z Z Z Z) (nZ Z (eZ Z (oN (bN (tN ?_))))))
   skip
   refine rG (eK 2 Z (bZ [T.v _] ?_));refine nZ Z (AJ tys Z Z (AA Z) Z Z Z Z Z (.own Z (by first | omega | (simp; done) | (simp; omega))) Z (.own Z (by simp)) (by decide) (by simp; omega) (by decide) Z ?_);refine nZ Z (eZ Z (oN (bN (tN (kY [0,1,8,10,11,18,19,20,21,22,23,24,25,50,51,54,55,64,65,97,98,99,100,134,135,136,137] Z (rG (evI ?_)))))));refine eZ Z (oN ?_);refine lQ (_, _, _, _, _, _) ?_ ?_
   ·dsimp only
    first
    | exact ExI.next hL hg hk0 (by omega) hto hex hrun hpl (tok_10 (by assumption)) rfl (by simp) (by simp [Qi]) rfl rfl rfl
   ·(show Int.toNat _ < Int.toNat _); omega
  simp only [HS] at h5;refine sQ (kY [0,1,8,10,11,18,19,20,21,22,23,24,25,50,51,54,55,64,65,97,98] Z (rG (eK 2 Z (nB ?_))));refine AD Z (fun h6 => ?_) (fun h6 => ?_)
  ·
   simp only [HS] at h6;refine sQ ?_
   have h11 : (l[k.toNat]'(by omega)).op = 11 := by assumption
   have hk11 := DD hkn h11
   rw [Ax] at hk11
   have hfu11 := Be hk11.1 hk11.2
   have hpb := Jk (HA hg) (l[k.toNat]'(by omega)).n
   have hnd11 : atI (paramsL p) (l[k.toNat]'(by omega)).n ≤ pile.length := by have := hnd; rw [Ah, if_neg (by omega), if_pos h11] at this; exact this
   refine Ai A9 (by kernel_rfl) (evQ ?_);refine evEQ ?_;refine evQ ?_;refine BD rfl Z (AA Z) Z Z Z (AS Z (evQ ?_));refine evQ ?_;refine C4 tys 99 0 Z Z (AA Z) Z Z Z Z (evQ ?_);refine evQ ?_;refine A3 tys Z Z (AA Z) Z Z Z Z Z Z Z hk11.1 _ (EE _ _ hk11.1 hk11.2) (AS Z (evQ ?_));refine evQ ?_;refine evIQ ?_;refine evQ ?_;refine BE (tN (sQ ?_))
   obtain ⟨R, hR⟩ : ∃ R, R = L.call (l[k.toNat]'(by omega)).n (pile.drop (pile.length - (atI (paramsL p) (l[k.toNat]'(by omega)).n).toNat)) none s1.m := ⟨_, rfl⟩
   have hcl11 := hL.call (l[k.toNat]'(by omega)).n (pile.drop (pile.length - (atI (paramsL p) (l[k.toNat]'(by omega)).n).toNat)) none s1.m hk11.1 hk11.2 (by rw [RV]; omega) hto.ok.used
   have hCa := hC (l[k.toNat]'(by omega)).n (pile.drop (pile.length - (atI (paramsL p) (l[k.toNat]'(by omega)).n).toNat)) none s1.m bm 0 ⟨0, [], [], 0, .pointer none⟩ pv iv xv xt hk11.1 hk11.2 (by rw [RV]; omega) hto.ok.used (by omega) (by omega) (by omega) (by omega)
   rw [← hR] at hcl11 hCa;refine AU (Le.close (u := 100) 1100 Z Z Z) (nY Z (AU (Le.noBox 150 (gC 0 [] [] 0 0 0 false (.pointer none)) Z) (nY Z (Bn [[], [], [], [], [], [], [], [], [], [], [], []] A9 (by kernel_rfl) (AZ (QG_ev tys Z Z (AA Z) Z (AI (AZ (QG_ev tys Z Z (AA Z) Z (AI (AZ (QG_ev tys Z Z (AA Z) Z (AI (AZ (QG_ev tys Z Z (AA Z) Z ?_)))))))))))))));refine AI (Aq Z (AZ (QG_ev tys Z Z (AA Z) Z (AI (Dy (Nl tys Z Z (AA Z) Z Z Z Z Z Z Z Z Z (by omega) (by omega) (by omega) (AI ?_)))))));refine Ch (rid := 99) [150, 100] Z Z (AA Z) Z Z (by repeat (first | exact ResP.done | refine ResP.pin0 1150 Z ?_ | refine ResP.pin0 1100 Z ?_ | refine ResP.t ?_ | refine ResP.nil 1 ?_ | refine ResP.nil' ?_ | refine ResP.own ?_ | refine ResP.sl Z Z (by first | omega | (simp; omega)) ?_ | refine ResP.aggT (by repeat (first | exact ResP.done | refine ResP.t ?_)) ?_)) Z (by repeat (first | exact trivial | refine ⟨rfl, rfl, ?_⟩)) (by decide) (Proc.argLi (slI (q := pile.length - (atI (paramsL p) (l[k.toNat]'(by omega)).n).toNat) (by omega) (by omega) (by omega)) hCa) Z Z Z ?_;refine AZ (QG_ev tys Z Z (AA Z) Z (AI (Aq Z (AZ (QG_ev tys Z Z (AA Z) Z (AI (AZ (QG_ev tys Z Z (AA Z) Z (AI (AZ (QG_ev tys Z Z (AA Z) Z (AI (AZ (QG_ev tys Z Z (AA Z) Z (AI ?_)))))))))))))));refine Aq Z (Eg ?_);refine ⟨by kernel_rfl, ?_⟩;refine nZ Z (AC (Le.open (u := 100) 1100 Z Z Z Z) (nZ Z (nB (sQ (sG (eK 2 Z (nB ?_)))))));refine AD Z (fun h7 => ?_) (fun h7 => ?_)
   ·
    simp only [HS] at h7;refine sG (eK 4 Z (nB (AU (Le.close (u := 100) 1100 Z Z Z) (nY Z (AU (Le.close (u := 101) 1101 Z Z Z) (nY Z (rT (tR (bR (tR (bR (tR (AR (bR (tR ?_)))))))))))))));refine eP [_, _, _] ?_ ?_
    ·(have he := FV hk0 hkl hex (Ly hR (by assumption) (PV (by assumption))) (by have := hcl11.h1; omega); exact FL (by rw [he]) (by rw [he]))
    ·(have he := FV hk0 hkl hex (Ly hR (by assumption) (PV (by assumption))) (by have := hcl11.h1; omega); rw [he]; rfl)
   simp only [HS] at h7;refine AE (tN (rG (eK 2 Z (Db tys Z Z (AA Z) Z Z Z Z Z Z Z Z Z (by omega) (by omega) (by omega) (eK 3 Z (oN (bN (tN ?_))))))))
   skip
   refine kY [0,1,8,10,11,12,13,14,18,19,20,21,22,23,24,25,50,51,54,55,64,65,97,98,101,102,103,104,105,106,107,108,109,110,111,112,113,114,115,116,117,118,119,120,121,122,123,124,125,126,127,130,131,132,133] Z (rG (eK 2 Z (bZ [T.v _] ?_)));refine nZ Z (AJ tys Z Z (AA Z) Z Z Z Z Z (.own Z (by first | omega | (simp; done) | (simp; omega))) Z (.own Z (by simp)) (by decide) (by simp; omega) (by decide) Z ?_);refine nZ Z (eZ Z (oN (bN (tN (rG (evI ?_))))));refine eZ Z (oN ?_);refine lQ (_, _, _, _, _, _) ?_ ?_
   ·dsimp only
    first
    | exact ExI.next hL hg hk0 (by omega) hto hex hrun hpl (tok_11 hR (by assumption) (P5 (by assumption))) rfl (by simp; omega) (by simp [Qi]; omega) (by have e := P5 (by assumption); rw [Ic (by omega), Iq (by omega)]; rfl) rfl rfl
   ·(show Int.toNat _ < Int.toNat _); omega
  simp only [HS] at h6;refine sQ ?_
  have hk3 : 3 ≤ (l[k.toNat]'(by omega)).op ∧ (l[k.toNat]'(by omega)).op ≤ 8 := by have := hkn; unfold knownT at this; rw [if_neg (by assumption), if_neg (by assumption), if_neg (by assumption)] at this; simp only [Qf, decide_eq_true_eq] at this; omega
  have hp2 : 2 ≤ pile.length := by have := hnd; rw [Ah, if_pos hk3] at this; omega
  refine rG (eZ Z (evE ?_));refine evI ?_;refine eZ Z (nB (sQ (Ai A9 (by kernel_rfl) (evQ ?_))));refine AS Z (evQ ?_);refine evQ ?_;refine evQ ?_;refine HX tys Z Z (AA Z) Z Z Z Z Z Z Z Z (by omega) (by omega) (HW tys Z Z (AA Z) Z Z Z Z (Ez _ _ (by omega) (by omega)) Z (evQ ?_));refine AS Z (evQ ?_);refine evIQ ?_;refine HX tys Z Z (AA Z) Z Z Z Z Z Z Z Z (by omega) (by omega) (HW tys Z Z (AA Z) Z Z Z Z (Ez _ _ (by omega) (by omega)) Z (Gp ?_));refine ⟨_, MQ _ _ _, rfl, ?_⟩;refine evQ ?_;refine AS Z (evQ ?_);refine evQ ?_;refine evQ ?_;refine evQ ?_;refine BE (tN (sQ (sG (eK 2 Z (nB ?_)))));refine AD Z (fun h7 => ?_) (fun h7 => ?_)
  ·
   simp only [HS] at h7;refine sG (eK 2 Z (nB (AU (Le.close (u := 100) 1100 Z Z Z) (nY Z (AU (Le.close (u := 101) 1101 Z Z Z) (nY Z (rT (tR (bR (tR (bR (tR (AR (bR (tR ?_)))))))))))))));refine eP [_, _, _] ?_ ?_
   ·(have he := FV hk0 hkl hex (PL (by assumption) (by assumption) (by assumption) (by assumption) (by assumption) (i := ((pile.length : Int) - 2).toNat) (j := ((pile.length : Int) - 2 + 1).toNat) (by omega) (by omega) (by omega) (by first | assumption | simp_all)) (by decide); exact FL (by rw [he]) (by rw [he]; rfl))
   ·(have he := FV hk0 hkl hex (PL (by assumption) (by assumption) (by assumption) (by assumption) (by assumption) (i := ((pile.length : Int) - 2).toNat) (j := ((pile.length : Int) - 2 + 1).toNat) (by omega) (by omega) (by omega) (by first | assumption | simp_all)) (by decide); rw [he]; rfl)
  simp only [HS] at h7;refine AE (tN (rG (eK 2 Z (Db tys Z Z (AA Z) Z Z Z Z Z Z Z Z Z (by omega) (by omega) (by omega) (kZ [0,1,8,10,11,15,16,17,18,19,20,21,22,23,24,25,26,27,28,29,30,31,32,33,34,35,36,37,38,39,40,41,42,43,44,45,46,47,48,50,51,54,55,64,65,97,98,101,102] Z (eK 3 Z (oN (bN (tN ?_)))))))))
  skip
  refine rG (eK 2 Z (bZ [T.v _] ?_));refine nZ Z (AJ tys Z Z (AA Z) Z Z Z Z Z (.own Z (by first | omega | (simp; done) | (simp; omega))) Z (.own Z (by simp)) (by decide) (by simp; omega) (by decide) Z ?_);refine nZ Z (eZ Z (oN (bN (tN (kY [0,1,8,10,11,15,16,17,18,19,20,21,22,23,24,25,26,27,28,29,30,31,32,33,34,35,36,37,38,39,40,41,42,43,44,45,46,47,48,49,50,51,54,55,64,65,97,98,101,102,134,135,136,137] Z (rG (evI ?_)))))));refine eZ Z (oN ?_);refine lQ (_, _, _, _, _, _) ?_ ?_
  ·dsimp only
   first
   | exact ExI.next hL hg hk0 (by omega) hto hex hrun hpl (tok_r' (by assumption) (by assumption) (by assumption) (by assumption) (by assumption) (i := ((pile.length : Int) - 2).toNat) (j := ((pile.length : Int) - 2 + 1).toNat) (by omega) (by omega) (by omega) (by first | assumption | simp_all)) rfl (by simp) (by simp [Qi]) rfl rfl rfl
  ·(show Int.toNat _ < Int.toNat _); omega
 simp only [HS] at h1;refine AV (tE (AP (AO (tN (sQ ?_)))))
 have hpl1 := MM (by omega) hrun
 refine rG (eZ Z (Bb tys Z Z (AA Z) Z Z Z Z Z Z Z Z (by omega) (by omega) (BI tys Z Z (AA Z) Z Z Z Z (Ez _ _ (by omega) (by omega)) Z (eK 2 Z (nB (AU (Le.close (u := 100) 1100 Z Z Z) (nY Z (AU (Le.close (u := 101) 1101 Z Z Z) (nY Z (rT ?_))))))))));refine eP [_, _, _] ?_ ?_
 ·(have he := M8 (by omega) hex; exact FL (by rw [he, List.getElem?_eq_getElem (by omega)]; rfl) (by rw [he]; rfl))
 ·(have he := M8 (by omega) hex; rw [he]; rfl)
open Go.Eng
def blS (L : Lev) (f : Func) (b : List Int) (s : Sx) : Int × Int × Sx := blockS (L.stmt f) f b s
def BlInv (p : Prog) (inp : List Int) (f : Func) (L : Lev) (b : List Int) (s : Sx) (pv iv fbv fsv : Value) (most dp : Int) (bm bb : Nat) (k : Int) (b1 b2 b3 : Blk) : Prop :=
 ∃ (s1 : Sx), 0 ≤ k ∧ k ≤ b.length ∧ Sx.to p inp f 0 s s1 ∧ blS L f b s = blockS (L.stmt f) f (b.drop k.toNat) s1 ∧
  b1 = .obox (.pointer (some ⟨bm, 0, none⟩)) (mS pv iv most s1.m) ∧ b2 = .box (cS f fbv fsv s1.vars s1.off s1.res dp bb) ∧ b3 = .obox (.pointer (some ⟨bb, 0, none⟩)) (bS s1.by')
section
variable {p : Prog} {inp : List Int} {f : Func} {L : Lev} {b : List Int} {s s1 : Sx} {pv iv fbv fsv : Value} {most dp : Int} {bm bb : Nat} {k : Int} {R : Int × Int × Sx}
theorem BlInv.next (h0 : 0 ≤ k) (h1 : k < b.length) (hto : Sx.to p inp f 0 s s1) (hex : blS L f b s = blockS (L.stmt f) f (b.drop k.toNat) s1) (hR : R = L.stmt f (stmtAt f (b[k.toNat]'(by omega))) s1) (hok : Sx.to p inp f R.1 s1 R.2.2) (hz : R.1 = 0) {k' : Int} (hk : k' = k + 1) {b1 b2 b3 : Blk}
  (e3 : b1 = .obox (.pointer (some ⟨bm, 0, none⟩)) (mS pv iv most R.2.2.m)) (e4 : b2 = .box (cS f fbv fsv R.2.2.vars R.2.2.off R.2.2.res dp bb)) (e5 : b3 = .obox (.pointer (some ⟨bb, 0, none⟩)) (bS R.2.2.by')) :
  BlInv p inp f L b s pv iv fbv fsv most dp bm bb k' b1 b2 b3 := by
 subst hk;rw [hz] at hok;refine ⟨R.2.2, by omega, by omega, hto.trans hok (by omega), ?_, e3, e4, e5⟩;rw [hex, CU h0 h1, blockS];rw [← hR, if_pos hz]
theorem NM (h0 : 0 ≤ k) (h1 : k < b.length) (hex : blS L f b s = blockS (L.stmt f) f (b.drop k.toNat) s1) (hR : R = L.stmt f (stmtAt f (b[k.toNat]'(by omega))) s1) (hz : ¬ R.1 = 0) : blS L f b s = R := by
 rw [hex, CU h0 h1, blockS];rw [← hR, if_neg hz]
theorem Pa (h1 : (b.length : Int) ≤ k) (hex : blS L f b s = blockS (L.stmt f) f (b.drop k.toNat) s1) : blS L f b s = (0, 0, s1) := by
 rw [hex, A7 h1, blockS]
end
open Go.Eng
def Nd (p : Prog) (inp : List Int) (most n : Nat) (L : Lev) : Prop :=
 ∀ (fn : Int) (f : Func) (t : Stmt) (s : Sx) (bm bc bb : Nat) (q : Kp) (pv iv : Value) (xv : List Value) (xt : List T), 0 ≤ fn → fn < p.funcs.length → f = funcAt p fn → t ∈ f.stmts → s.ok p inp f → s.m.fuel ≤ n → s.m.fuel ≤ 1048576 → s.m.trace.length + s.m.fuel ≤ 1048576 → s.off.length + s.m.fuel ≤ 1048576 → s.m.deep ≤ most →
  Proc Try.prog 112 [.t (.v (.pointer (some ⟨bm, 0, none⟩))), .t (.v (.pointer (some ⟨bc, 0, none⟩))), .t t.tt] (pv :: iv :: xv) (T.Funcs p.funcs :: T.ints inp :: xt)
   [.obox (.pointer (some ⟨bm, 0, none⟩)) (rS pv iv most s.m.fuel 0 s.m), .obox (.pointer (some ⟨bc, 0, none⟩)) (gC fn s.vars s.off s.res 0 0 false (byP bb s.by')), byK bb q s.by']
   (.tup [.t (.int (haH (L.stmt f t s).1)), .t (.int (L.stmt f t s).2.1)])
   [.obox (.pointer (some ⟨bm, 0, none⟩)) (rS pv iv most (fuH (L.stmt f t s).1 (L.stmt f t s).2.2.m) (coH (L.stmt f t s).1) (L.stmt f t s).2.2.m), .obox (.pointer (some ⟨bc, 0, none⟩)) (gC fn (L.stmt f t s).2.2.vars (L.stmt f t s).2.2.off (L.stmt f t s).2.2.res 0 0 false (byP bb s.by')), .obox (byP bb s.by') (gC q.fn q.vars q.off q.res (hH (L.stmt f t s).2.2.by') (nH (L.stmt f t s).2.2.by') (xH (L.stmt f t s).2.2.by') q.bp)]
def BlI (p : Prog) (inp : List Int) (f : Func) (L : Lev) (b : List Int) (s : Sx) (pv iv bp bpv : Value) (q : Kp) (most fn : Int) (k : Int) (b1 b2 b3 : Blk) : Prop :=
 ∃ (s1 : Sx), 0 ≤ k ∧ k ≤ b.length ∧ Sx.to p inp f 0 s s1 ∧ blS L f b s = blockS (L.stmt f) f (b.drop k.toNat) s1 ∧
  b1 = .box (rS pv iv most s1.m.fuel 0 s1.m) ∧ b2 = .box (gC fn s1.vars s1.off s1.res 0 0 false bp) ∧ b3 = .obox bpv (gC q.fn q.vars q.off q.res (hH s1.by') (nH s1.by') (xH s1.by') q.bp)
section
variable {p : Prog} {inp : List Int} {f : Func} {L : Lev} {b : List Int} {s s1 : Sx} {pv iv bp bpv : Value} {most fn : Int} {q : Kp} {k : Int} {R : Int × Int × Sx}
theorem BlI.next (h0 : 0 ≤ k) (h1 : k < b.length) (hto : Sx.to p inp f 0 s s1) (hex : blS L f b s = blockS (L.stmt f) f (b.drop k.toNat) s1) (hR : R = L.stmt f (stmtAt f (b[k.toNat]'(by omega))) s1) (hok : Sx.to p inp f R.1 s1 R.2.2) (hz : R.1 = 0) {k' : Int} (hk : k' = k + 1) {b1 b2 b3 : Blk}
  (e3 : b1 = .box (rS pv iv most (fuH R.1 R.2.2.m) (coH R.1) R.2.2.m)) (e4 : b2 = .box (gC fn R.2.2.vars R.2.2.off R.2.2.res 0 0 false bp)) (e5 : b3 = .obox bpv (gC q.fn q.vars q.off q.res (hH R.2.2.by') (nH R.2.2.by') (xH R.2.2.by') q.bp)) :
  BlI p inp f L b s pv iv bp bpv q most fn k' b1 b2 b3 := by
 subst hk;rw [hz] at hok;rw [hz, Ic (by omega), Iq (by omega)] at e3;refine ⟨R.2.2, by omega, by omega, hto.trans hok (by omega), ?_, e3, e4, e5⟩;rw [hex, CU h0 h1, blockS];rw [← hR, if_pos hz]
theorem P6 {h : Int} (e : haH h = 0) : h = 0 := by unfold haH at e; split at e <;> omega
theorem KX {h : Int} (e : ¬ haH h = 0) : ¬ h = 0 := by intro h; subst h; exact e rfl
end
theorem Dq (p : Prog) (inp : List Int) (most n : Nat) (L : Lev) (hL : JA p inp L) (hC : Nd p inp most n L) (fn : Int) (f : Func) (h0 : 0 ≤ fn) (h1' : fn < p.funcs.length) (hfd : f = funcAt p fn) (hfl : f.stmts.length ≤ 1048576) (b : List Int) (hb : inF' f b) (hbl : b.length ≤ 1048576) (s : Sx) (hs : s.ok p inp f) (hn : s.m.fuel ≤ n) (hn2 : s.m.fuel ≤ 1048576) (hti : s.m.trace.length + s.m.fuel ≤ 1048576) (hof : s.off.length + s.m.fuel ≤ 1048576) (hdm : s.m.deep ≤ most) (bm bc bb : Nat) (q : Kp) (pv iv : Value) (xv : List Value) (xt : List T) : Proc Try.prog 95 [.t (.v (.pointer (some ⟨bm, 0, none⟩))), .t (.v (.pointer (some ⟨bc, 0, none⟩))), .t (T.ints b)] ((pv :: iv :: xv)) ((T.Funcs p.funcs :: T.ints inp :: xt)) [.obox (.pointer (some ⟨bm, 0, none⟩)) (rS pv iv most s.m.fuel 0 s.m), .obox (.pointer (some ⟨bc, 0, none⟩)) (gC fn s.vars s.off s.res 0 0 false (byP bb s.by')), byK bb q s.by'] (.tup [.t (.int (haH (blS L f b s).1)), .t (.int (blS L f b s).2.1)]) [.obox (.pointer (some ⟨bm, 0, none⟩)) (rS pv iv most (fuH (blS L f b s).1 (blS L f b s).2.2.m) (coH (blS L f b s).1) (blS L f b s).2.2.m), .obox (.pointer (some ⟨bc, 0, none⟩)) (gC fn (blS L f b s).2.2.vars (blS L f b s).2.2.off (blS L f b s).2.2.res 0 0 false (byP bb s.by')), .obox (byP bb s.by') (gC q.fn q.vars q.off q.res (hH (blS L f b s).2.2.by') (nH (blS L f b s).2.2.by') (xH (blS L f b s).2.2.by') q.bp)] := by
 have hfa : p.funcs[fn.toNat]'(by omega) = f := by rw [hfd]; exact AL (by omega)
 have hfm : f ∈ p.funcs := hfd ▸ Bz h0 h1'
 have hget : (p.funcs.map Func.tt)[fn.toNat]? = some f.tt := by rw [EE _ _ h0 h1', hfa]
 refine Proc.intro tys Try.func95 Z Z (N := 44) [100, 101, 102] 99 ([(0, .t (.v (.pointer (some ⟨bm, 0, none⟩)))), (1, .t (.v (.pointer (some ⟨bc, 0, none⟩)))), (2, .t (T.ints b))]) ([(100, .obox (.pointer (some ⟨bm, 0, none⟩)) (rS pv iv most s.m.fuel 0 s.m)), (101, .obox (.pointer (some ⟨bc, 0, none⟩)) (gC fn s.vars s.off s.res 0 0 false (byP bb s.by'))), (102, byK bb q s.by'), (99, .ro (pv :: iv :: xv) (T.Funcs p.funcs :: T.ints inp :: xt))]) Z Z Z Z (by decide) (by decide) Z (fun w0 G F0 => ?_);refine nY Z (AU (Le.openNew (u := 100) 1100 Z Z Z Z Z) (nY Z (AU (Le.named (t := 0) (u := 100) 1100 Z Z) (nY Z (AU (Le.openNew (u := 101) 1101 Z Z Z Z Z) (nY Z (AU (Le.named (t := 1) (u := 101) 1101 Z Z) (nY Z (sG (eK 2 Z (nB (sQ (sG (eZ Z (evE ?_)))))))))))))));refine eZ Z (nB (AF ?_));refine lK (α := Int × Blk × Blk × Blk) [0, 1, 12, 13] [99, 1100, 1101] (fun x => [(14, .t (.int (x.1)))]) (fun x => [(100, (x.2.1)), (101, (x.2.2.1)), (102, (x.2.2.2))]) (fun x => BlI p inp f L b s pv iv (byP bb s.by') (byP bb s.by') q most fn (x.1) (x.2.1) (x.2.2.1) (x.2.2.2)) (fun x => Int.toNat (b.length - (x.1))) (0, .box (rS pv iv most s.m.fuel 0 s.m), .box (gC fn s.vars s.off s.res 0 0 false (byP bb s.by')), .obox (byP bb s.by') (gC q.fn q.vars q.off q.res (hH s.by') (nH s.by') (xH s.by') q.bp)) ?_ (fun x hx => ?_)
 ·exact ⟨s, by omega, by omega, Sx.to.refl hs (by omega) (by omega), rfl, rfl, rfl, rfl⟩
 obtain ⟨k, b1, b2, b3⟩ := x
 obtain ⟨s1, hk0, hk1, hto, hex, hb1, hb2, hb3⟩ := hx
 dsimp only at hk0 hk1 hto hex hb1 hb2 hb3 ⊢;subst hb1 hb2 hb3;refine nY Z (sG (eZ Z (nB (sQ ?_))));refine AD Z (fun h1 => ?_) (fun h1 => ?_)
 ·
  simp only [HS] at h1;refine AE (tN (sQ (AF (sG ?_))))
  have hkl : k < b.length := by omega
  have hbk := hb (b[k.toNat]'(by omega)) (Qr _)
  have hmem : stmtAt f (b[k.toNat]'(by omega)) ∈ f.stmts := by rw [← AB (by omega)]; exact Qr _
  have hfu : s1.m.fuel ≤ s.m.fuel := hto.le.1
  have hft : s1.m.trace.length + s1.m.fuel ≤ s.m.trace.length + s.m.fuel := hto.le.2.1
  have hfo : s1.off.length + s1.m.fuel ≤ s.off.length + s.m.fuel := hto.offl
  have hdp : s1.m.deep = s.m.deep := hto.deep (by omega)
  obtain ⟨R, hR⟩ : ∃ R, R = L.stmt f (stmtAt f (b[k.toNat]'(by omega))) s1 := ⟨_, rfl⟩
  have hok1 := hL.stmt f hfm _ hmem s1 hto.ok
  rw [← hR] at hok1
  have hh0 := hok1.h0
  have hCa := hC fn f (stmtAt f (b[k.toNat]'(by omega))) s1 bm bc bb q pv iv xv xt h0 h1' hfd hmem hto.ok (by omega) (by omega) (by omega) (by omega) (by omega)
  unfold byK at hCa;rw [← hR, ← AB (f := f) (n := b[k.toNat]'(by omega)) (by omega), GA (bb := bb) hto.by'] at hCa;refine iY (k := ?_);refine eK 2 Z (nB (sQ (Bn [[100, 101], [100, 101], [], [], [], [], [], [], [], [], [], [], [], [], [], [], [], [], [], [], [], [], []] A9 (by kernel_rfl) (Dy (QG_ev tys Z Z (AA Z) Z (AI (Dy (QG_ev tys Z Z (AA Z) Z (AI (AZ (QG_ev tys Z Z (AA Z) Z (AI (AZ (CF rfl Z (AA Z) Z Z Z (AI ?_)))))))))))))));refine Aq Z (AZ (QG_ev tys Z Z (AA Z) Z (AI (AZ (QG_ev tys Z Z (AA Z) Z (AI (AZ (Nk tys 99 0 Z Z (AA Z) Z Z Z Z (AI (AZ (QG_ev tys Z Z (AA Z) Z (AI (Aq Z (AZ (CF rfl Z (AA Z) Z Z Z ?_)))))))))))))));refine AI (AZ (QG_ev tys Z Z (AA Z) Z (AI (AZ (QG_ev tys Z Z (AA Z) Z (AI (Dy (Nm tys Z Z (AA Z) Z Z Z Z Z Z Z h0 _ hget (AI (Aq Z (AZ (QG_ev tys Z Z (AA Z) Z (AI (AZ (QG_ev tys Z Z (AA Z) Z ?_)))))))))))))));refine AI (AZ (QG_ev tys Z Z (AA Z) Z (AI (Dy (Nm tys Z Z (AA Z) Z Z Z Z Z Z Z (by omega) _ (EE _ _ (by omega) (by omega)) (AI (Aq Z (QH_ev2 tys (u1 := 100) (u2 := 101) 1100 1101 Z Z (AA Z) Z Z Z Z Z Z Z Z Z (Aq Z ?_)))))))));refine Ch (rid := 99) [100, 101, 102] Z Z (AA Z) Z Z (by repeat (first | exact ResP.done | refine ResP.pin0 1100 Z ?_ | refine ResP.pin0 1101 Z ?_ | refine ResP.pin0 1102 Z ?_ | refine ResP.t ?_ | refine ResP.nil 1 ?_ | refine ResP.nil' ?_ | refine ResP.own ?_ | refine ResP.sl Z Z (by first | omega | (simp; omega)) ?_ | refine ResP.aggT (by repeat (first | exact ResP.done | refine ResP.t ?_)) ?_)) Z (by repeat (first | exact trivial | refine ⟨rfl, rfl, ?_⟩)) (by decide) (hCa) Z Z Z ?_;refine AZ (QG_ev tys Z Z (AA Z) Z (AI (AZ (QG_ev tys Z Z (AA Z) Z (AI (Aq Z (AZ (QG_ev tys Z Z (AA Z) Z (AI (AZ (QG_ev tys Z Z (AA Z) Z (AI (AZ (QG_ev tys Z Z (AA Z) Z (AI ?_)))))))))))))));refine Eg ?_;refine ⟨by kernel_rfl, ?_⟩;refine nZ Z (AC (Le.open (u := 100) 1100 Z Z Z Z) (nZ Z (AC (Le.open (u := 101) 1101 Z Z Z Z) (nZ Z (nA (eK 2 Z (nB ?_)))))));refine AD Z (fun h2 => ?_) (fun h2 => ?_)
  ·
   simp only [HS] at h2;refine sG (eK 4 Z (nB (AU (Le.close (u := 100) 1100 Z Z Z) (nY Z (AU (Le.close (u := 101) 1101 Z Z Z) (nY Z (rT (bR (tR (AR (bR (tR ?_))))))))))));refine eP [_, _, _] ?_ ?_
   ·(have he := NM hk0 hkl hex hR (KX (by assumption)); exact FL (by rw [he]) (by rw [he]))
   ·(have he := NM hk0 hkl hex hR (KX (by assumption)); rw [he]; rfl)
  simp only [HS] at h2;refine AE (bN (tN (rG (evI ?_))));refine eZ Z (oN ?_);refine lQ (_, _, _, _) ?_ ?_
  ·dsimp only
   exact BlI.next hk0 (by omega) hto hex hR hok1 (P6 (by assumption)) rfl rfl rfl rfl
  ·(show Int.toNat _ < Int.toNat _); omega
 simp only [HS] at h1;refine AV (tE (AP (AO (tN (sG (eK 2 Z (nB (AU (Le.close (u := 100) 1100 Z Z Z) (nY Z (AU (Le.close (u := 101) 1101 Z Z Z) (nY Z (rT ?_))))))))))));refine eP [_, _, _] ?_ ?_
 ·(have he := Pa (by omega) hex; exact FL (by rw [he]; rfl) (by rw [he]))
 ·(have he := Pa (by omega) hex; rw [he]; rfl)
open Go.Eng
def stS (p : Prog) (inp : List Int) (L : Lev) (f : Func) (t : Stmt) (s : Sx) : Int × Int × Sx := Bj L (paramsL p) inp f t s
section
variable {p : Prog} {inp : List Int} {f : Func} {L : Lev} {t : Stmt} {s : Sx} {R B : Int × Int × Sx} {v : Int}
theorem Kn {m : Ms} (h : m.fuel = 0) : Ay m = m := by
 obtain ⟨u, fu, d, tr⟩ := m
 cases h;rfl
theorem st_0 (h : s.m.fuel = 0) : stS p inp L f t s = (5, 0, ⟨Ay s.m, s.vars, s.off, s.res, s.by'⟩) := by rw [stS, Bj, if_pos h, Kn h]
theorem st_3 (hf : s.m.fuel ≠ 0) (h : t.kind = 3) : stS p inp L f t s = (0, 0, ⟨Ay s.m, s.vars, s.off ++ [t.n], s.res, s.by'⟩) := by rw [stS, Bj, if_neg hf, if_pos h]
theorem st_6 (hf : s.m.fuel ≠ 0) (h : t.kind = 6) : stS p inp L f t s = (3, 0, ⟨Ay s.m, s.vars, s.off, s.res, s.by'⟩) := by rw [stS, Bj, if_neg hf, if_neg (by omega), if_pos h]
theorem st_e (hf : s.m.fuel ≠ 0) (h3 : t.kind ≠ 3) (h6 : t.kind ≠ 6) (hR : R = exS p inp L t.ex ⟨Ay s.m, s.vars, s.off, s.res, s.by'⟩) (h0 : ¬ R.1 = 0) : stS p inp L f t s = R := by
 rw [stS, Bj, if_neg hf, if_neg h3, if_neg h6]
 have e : exprS L.cal (paramsL p) inp t.ex [] { s with m := Ay s.m } = R := hR.symm
 simp only [e, if_neg h0]
theorem Ln (hf : s.m.fuel ≠ 0) (h3 : t.kind ≠ 3) (h6 : t.kind ≠ 6) (hR : R = exS p inp L t.ex ⟨Ay s.m, s.vars, s.off, s.res, s.by'⟩) (h0 : R.1 = 0) : stS p inp L f t s = doS L f t R.2.1 R.2.2 := by
 rw [stS, Bj, if_neg hf, if_neg h3, if_neg h6]
 have e : exprS L.cal (paramsL p) inp t.ex [] { s with m := Ay s.m } = R := hR.symm
 simp only [e, if_pos h0]
theorem do_1 (h : t.kind = 1) : doS L f t v s = (0, 0, ⟨s.m, s.vars.set t.n.toNat v, s.off, s.res, s.by'⟩) := by rw [doS, if_pos h]
theorem do_2 (h : t.kind = 2) : doS L f t v s = (0, 0, ⟨⟨s.m.used, s.m.fuel, s.m.deep, s.m.trace ++ [v]⟩, s.vars, s.off, s.res, s.by'⟩) := by rw [doS, if_neg (by omega), if_pos h]
theorem do_4 (h : t.kind = 4) : doS L f t v s = (2, v, s) := by rw [doS, if_neg (by omega), if_neg (by omega), if_pos h]
theorem do_5 (h : t.kind = 5) : doS L f t v s = (1, 0, ⟨s.m, s.vars, s.off, v, s.by'⟩) := by rw [doS, if_neg (by omega), if_neg (by omega), if_neg (by omega), if_pos h]
theorem do_7t (h : t.kind = 7) (hv : v ≠ 0) : doS L f t v s = blS L f t.thn s := by rw [doS, if_neg (by omega), if_neg (by omega), if_neg (by omega), if_neg (by omega), if_pos h, if_pos hv]; rfl
theorem do_7e (h : t.kind = 7) (hv : ¬ v ≠ 0) : doS L f t v s = blS L f t.els s := by rw [doS, if_neg (by omega), if_neg (by omega), if_neg (by omega), if_neg (by omega), if_pos h, if_neg hv]; rfl
theorem do_8z (h : t.kind = 8) (hv : v = 0) : doS L f t v s = (0, 0, s) := by rw [doS, if_neg (by omega), if_neg (by omega), if_neg (by omega), if_neg (by omega), if_neg (by omega), if_pos h, if_pos hv]
theorem do_8b (h : t.kind = 8) (hv : ¬ v = 0) (hB : B = blS L f t.thn s) (h0 : ¬ B.1 = 0) : doS L f t v s = B := by
 rw [doS, if_neg (by omega), if_neg (by omega), if_neg (by omega), if_neg (by omega), if_neg (by omega), if_pos h, if_neg hv]
 have e : blockS (L.stmt f) f t.thn s = B := hB.symm
 simp only [e, if_neg h0]
theorem do_8s (h : t.kind = 8) (hv : ¬ v = 0) (hB : B = blS L f t.thn s) (h0 : B.1 = 0) : doS L f t v s = L.stmt f t B.2.2 := by
 rw [doS, if_neg (by omega), if_neg (by omega), if_neg (by omega), if_neg (by omega), if_neg (by omega), if_pos h, if_neg hv]
 have e : blockS (L.stmt f) f t.thn s = B := hB.symm
 simp only [e, if_pos h0]
theorem do_9 (h1 : ¬ t.kind = 1) (h2 : ¬ t.kind = 2) (h4 : ¬ t.kind = 4) (h5 : ¬ t.kind = 5) (h7 : ¬ t.kind = 7) (h8 : ¬ t.kind = 8) : doS L f t v s = (0, 0, s) := by rw [doS, if_neg h1, if_neg h2, if_neg h4, if_neg h5, if_neg h7, if_neg h8]
end
theorem putI (x v : Int) : (T.int x).put 0 [T.int v] = T.int v := rfl
open Go.Eng
def lvS (p : Prog) (inp : List Int) (most n : Nat) (f : Func) (t : Stmt) (s : Sx) : Int × Int × Sx := (lev p inp most n).stmt f t s
theorem lv_0 {p : Prog} {inp : List Int} {most n : Nat} {f : Func} {t : Stmt} {s : Sx} (h : s.m.fuel = 0) : lvS p inp most n f t s = (5, 0, ⟨Ay s.m, s.vars, s.off, s.res, s.by'⟩) := by
 cases n with
 | zero => show (5, 0, s) = _; rw [Kn h]
 | succ n => exact st_0 h
def StI (p : Prog) (inp : List Int) (f : Func) (t : Stmt) (s : Sx) (pv iv bp bpv : Value) (q : Kp) (most n : Nat) (fn : Int) (fu : Int) (b1 b2 b3 : Blk) : Prop :=
 ∃ (n1 : Nat) (s1 : Sx), n1 ≤ n ∧ s1.m.fuel ≤ n1 ∧ fu = s1.m.fuel ∧ Sx.to p inp f 0 s s1 ∧ lvS p inp most n f t s = lvS p inp most n1 f t s1 ∧
  b1 = .box (rS pv iv most s1.m.fuel 0 s1.m) ∧ b2 = .box (gC fn s1.vars s1.off s1.res 0 0 false bp) ∧ b3 = .obox bpv (gC q.fn q.vars q.off q.res (hH s1.by') (nH s1.by') (xH s1.by') q.bp)
theorem L2 (p : Prog) (inp : List Int) (most n : Nat) (hI : ∀ k, k < n → No p inp most k (lev p inp most k) ∧ Nd p inp most k (lev p inp most k)) (hg : Au p = true) (hp : p.ok 1048576) (hi : inp.length ≤ 1048576) (hmost : most ≤ 1048576) (fn : Int) (f : Func) (t : Stmt) (s : Sx) (bm bc bb : Nat) (q : Kp) (pv iv : Value) (xv : List Value) (xt : List T) (h0 : 0 ≤ fn) (h1' : fn < p.funcs.length) (hfd : f = funcAt p fn) (ht : t ∈ f.stmts) (hs : s.ok p inp f) (hn : s.m.fuel ≤ n) (hn2 : s.m.fuel ≤ 1048576) (hti : s.m.trace.length + s.m.fuel ≤ 1048576) (hof : s.off.length + s.m.fuel ≤ 1048576) (hdm : s.m.deep ≤ most) : Proc Try.prog 112 [.t (.v (.pointer (some ⟨bm, 0, none⟩))), .t (.v (.pointer (some ⟨bc, 0, none⟩))), .t t.tt] ((pv :: iv :: xv)) ((T.Funcs p.funcs :: T.ints inp :: xt)) [.obox (.pointer (some ⟨bm, 0, none⟩)) (rS pv iv most s.m.fuel 0 s.m), .obox (.pointer (some ⟨bc, 0, none⟩)) (gC fn s.vars s.off s.res 0 0 false (byP bb s.by')), byK bb q s.by'] (.tup [.t (.int (haH (lvS p inp most n f t s).1)), .t (.int (lvS p inp most n f t s).2.1)]) [.obox (.pointer (some ⟨bm, 0, none⟩)) (rS pv iv most (fuH (lvS p inp most n f t s).1 (lvS p inp most n f t s).2.2.m) (coH (lvS p inp most n f t s).1) (lvS p inp most n f t s).2.2.m), .obox (.pointer (some ⟨bc, 0, none⟩)) (gC fn (lvS p inp most n f t s).2.2.vars (lvS p inp most n f t s).2.2.off (lvS p inp most n f t s).2.2.res 0 0 false (byP bb s.by')), .obox (byP bb s.by') (gC q.fn q.vars q.off q.res (hH (lvS p inp most n f t s).2.2.by') (nH (lvS p inp most n f t s).2.2.by') (xH (lvS p inp most n f t s).2.2.by') q.bp)] := by
 have hf : f ∈ p.funcs := hfd ▸ Bz h0 h1'
 have hgv := Cv hg hf
 have hsh := hgv.2.2.2.2.1
 have hst : Av f.vars (paramsL p) t = true := by clear hfd hs; obtain ⟨q, hq, rfl⟩ := RC hf; obtain ⟨i, hi, rfl⟩ := RC ht; exact DF (CG hg hq) hi
 obtain ⟨hk1, hk2, _⟩ := KS hsh ht
 have hfo : f.ok 1048576 := hp.1.2 f hf
 have htok : t.ok 1048576 := hfo.2.1.2 t ht
 have hl1 : t.thn.length ≤ 1048576 := htok.2.1
 have hl2 : t.els.length ≤ 1048576 := htok.2.2.1
 have hfl : f.stmts.length ≤ 1048576 := hfo.2.1.1
 refine Proc.intro tys Try.func112 Z Z (N := 113) [100, 101, 102] 99 ([(0, .t (.v (.pointer (some ⟨bm, 0, none⟩)))), (1, .t (.v (.pointer (some ⟨bc, 0, none⟩)))), (2, .t t.tt)]) ([(100, .obox (.pointer (some ⟨bm, 0, none⟩)) (rS pv iv most s.m.fuel 0 s.m)), (101, .obox (.pointer (some ⟨bc, 0, none⟩)) (gC fn s.vars s.off s.res 0 0 false (byP bb s.by'))), (102, byK bb q s.by'), (99, .ro (pv :: iv :: xv) (T.Funcs p.funcs :: T.ints inp :: xt))]) Z Z Z Z (by decide) (by decide) Z (fun w0 G F0 => ?_);refine nY Z (AU (Le.openNew (u := 100) 1100 Z Z Z Z Z) (nY Z (AU (Le.named (t := 0) (u := 100) 1100 Z Z) (nY Z (AU (Le.openNew (u := 101) 1101 Z Z Z Z Z) (nY Z (AU (Le.named (t := 1) (u := 101) 1101 Z Z) (nY Z (sG (Af Z Z (AA Z) Z Z (nZ Z (eK 2 Z (nB (AF ?_))))))))))))));refine lK (α := Int × Blk × Blk × Blk) [0, 1, 5] [5, 99, 1100, 1101] (fun x => []) (fun x => [(100, (x.2.1)), (101, (x.2.2.1)), (102, (x.2.2.2))]) (fun x => StI p inp f t s pv iv (byP bb s.by') (byP bb s.by') q most n fn (x.1) (x.2.1) (x.2.2.1) (x.2.2.2)) (fun x => Int.toNat ((x.1))) (s.m.fuel, .box (rS pv iv most s.m.fuel 0 s.m), .box (gC fn s.vars s.off s.res 0 0 false (byP bb s.by')), .obox (byP bb s.by') (gC q.fn q.vars q.off q.res (hH s.by') (nH s.by') (xH s.by') q.bp)) ?_ (fun x hx => ?_)
 ·exact ⟨n, s, Qu _, hn, rfl, Sx.to.refl hs (by omega) (by omega), rfl, rfl, rfl, rfl⟩
 obtain ⟨fu, b1, b2, b3⟩ := x
 obtain ⟨n1, s1, hn1, hfn, hfuE, hto, hex, hb1, hb2, hb3⟩ := hx
 dsimp only at hn1 hfn hfuE hto hex hb1 hb2 hb3 ⊢;subst hb1 hb2 hb3 hfuE;refine nY Z (AF (sQ (sG ?_)))
 have hfu : s1.m.fuel ≤ s.m.fuel := hto.le.1
 have hft : s1.m.trace.length + s1.m.fuel ≤ s.m.trace.length + s.m.fuel := hto.le.2.1
 have hofs : s1.off.length + s1.m.fuel ≤ s.off.length + s.m.fuel := hto.offl
 have hdp : s1.m.deep = s.m.deep := hto.deep (by omega)
 have hBu := GB bm pv iv most s1.m (pv :: iv :: xv) (T.Funcs p.funcs :: T.ints inp :: xt) (by omega)
 obtain ⟨co, hco⟩ : ∃ co : Int, co = if s1.m.fuel = 0 then 5 else 0 := ⟨_, rfl⟩
 rw [← hco] at hBu;refine eZ Z (AC (Le.close (u := 100) 1100 Z Z Z) (nZ Z ?_));refine cP [100] (hm := (hBu)) (k := ?_);refine nZ Z (AC (Le.open (u := 100) 1100 Z Z Z Z) (nZ Z (eZ Z (nB ?_))));refine AD Z (fun h1 => ?_) (fun h1 => ?_)
 ·
  simp only [HS] at h1;refine sG (eK 2 Z (nB (AU (Le.close (u := 100) 1100 Z Z Z) (nY Z (AU (Le.close (u := 101) 1101 Z Z Z) (nY Z (rT (tR (bR (AR (bR ?_)))))))))));refine eP [_, _, _] ?_ ?_
  ·(have hout := hex.trans (lv_0 (n := n1) (f := f) (t := t) (by omega)); exact FL (by rw [hout] <;> rfl) (by rw [hout] <;> rfl))
  ·(have hout := hex.trans (lv_0 (n := n1) (f := f) (t := t) (by omega)); rw [if_pos (by omega)] at hco; subst hco; rw [hout]; rfl)
 simp only [HS] at h1;refine AE (tN (sQ (sG ?_)))
 have hfz : s1.m.fuel ≠ 0 := by simp_all
 rw [if_neg hfz] at hco;subst hco
 obtain ⟨k, hk⟩ : ∃ k, n1 = k + 1 := ⟨n1 - 1, by omega⟩
 subst hk
 have hex' : lvS p inp most n f t s = stS p inp (lev p inp most k) f t s1 := hex
 refine eK 2 Z (nB (AF (sG (eK 2 Z (nB ?_)))));refine AD Z (fun h2 => ?_) (fun h2 => ?_)
 ·
  simp only [HS] at h2;refine sQ ?_
  have hout := hex'.trans (st_3 hfz (by assumption))
  refine kY [0,1,5,12,13,14,15,16,17,18] Z (Bn [[101], [], [], [], [], [101], [101], [101], [], [], [], []] A9 (by kernel_rfl) (Dy (QG_ev tys Z Z (AA Z) Z (AI (AZ (QG_ev tys Z Z (AA Z) Z (AI (AZ (CF rfl Z (AA Z) Z Z Z (AI (AZ (QG_ev tys Z Z (AA Z) Z (AI (Aq Z (Gr tys Z Z (AA Z) Z Z Z Z Z Z ?_)))))))))))))));refine Dy (QG_ev tys Z Z (AA Z) Z (AI (Dy (QG_ev tys Z Z (AA Z) Z (AI (Dy ?_))))));refine Dc tys [T.int t.n] Z Z (AA Z) Z Z Z Z Z (AA Z) (by repeat (first | exact PartsOk.nil' | refine PartsOk.cons' rfl (by repeat (first | exact AbsL.nil' | refine AbsL.v' ?_ | refine AbsL.own' ?_ | refine AbsL.none' ?_)) Z ?_)) Z Z Z (by decide) ?_;refine AI (Aq Z (AZ (E3 tys Z Z (AA Z) Z Z Z Z Z Z Z Z Z ((fun x hx => by rw [Q5] at hx; subst hx; exact ⟨rfl, fun z hz => ⟨_, by simpa [T.cells] using hz⟩⟩)) (by simp; omega) (by decide) Z ?_)));refine AI (AZ (CF rfl Z (AA Z) Z Z Z (AI (AZ (QG_ev tys Z Z (AA Z) Z (AI (GM tys Z Z Z Z Z Z Z Z Z (RP Z) (Aq Z (Eg ?_)))))))));refine ⟨by kernel_rfl, ?_⟩;refine nZ Z (nA (eK 2 Z (nB (AU (Le.close (u := 100) 1100 Z Z Z) (nY Z (AU (Le.close (u := 101) 1101 Z Z Z) (nY Z (rT (bR (tR (bR (AR (bR ?_)))))))))))));refine eP [_, _, _] ?_ ?_
  ·exact FL (by rw [hout] <;> rfl) (by rw [hout] <;> rfl)
  ·rw [hout]
   simp [rS, gC, T.ints, putI, Qi, Ay, fuH, coH]
   done
 simp only [HS] at h2;refine sQ (kY [0,1,5,12,13,14,15,16,17,18] Z (rG (eK 2 Z (nB ?_))));refine AD Z (fun h3 => ?_) (fun h3 => ?_)
 ·
  simp only [HS] at h3;refine sG (eK 2 Z (nB (AU (Le.close (u := 100) 1100 Z Z Z) (nY Z (AU (Le.close (u := 101) 1101 Z Z Z) (nY Z (rT (bR (tR (bR (AR (bR ?_))))))))))));refine eP [_, _, _] ?_ ?_
  ·(have hout := hex'.trans (st_6 (f := f) hfz (by assumption)); exact FL (by rw [hout] <;> rfl) (by rw [hout] <;> rfl))
  ·(have hout := hex'.trans (st_6 (f := f) hfz (by assumption)); rw [hout]; rfl)
 simp only [HS] at h3;refine AE (bN (tN (sG ?_)))
 have hk3 : t.kind ≠ 3 := by assumption
 have hk6 : t.kind ≠ 6 := by assumption
 have hL := E7 (inp := inp) hg most k
 obtain ⟨hIc, hIs⟩ := hI k (by omega)
 have hb := hto.ok.burn hfz
 obtain ⟨mx, hru⟩ := Hk hst hk3 hk6
 obtain ⟨R, hR⟩ : ∃ R, R = exS p inp (lev p inp most k) t.ex ⟨Ay s1.m, s1.vars, s1.off, s1.res, s1.by'⟩ := ⟨_, rfl⟩
 have he := HE hL hg (pile := []) hb.ok (l := t.ex) (mx := 0) (by simpa using hru)
 have hbf : (Ay s1.m).fuel = s1.m.fuel - 1 := rfl
 have hbt : (Ay s1.m).trace.length = s1.m.trace.length := rfl
 have hbd : (Ay s1.m).deep = s1.m.deep := rfl
 have hE := M7 p inp most k (lev p inp most k) hL hIc hg hp hi f hf fn t.ex (L6 hst) ⟨mx, hru⟩ ⟨Ay s1.m, s1.vars, s1.off, s1.res, s1.by'⟩ hb.ok (by dsimp only; omega) (by dsimp only; omega) (by dsimp only; omega) (by dsimp only; omega) hmost bm bc bb q pv iv xv xt
 change Sx.to p inp f (exS p inp (lev p inp most k) t.ex ⟨Ay s1.m, s1.vars, s1.off, s1.res, s1.by'⟩).1 _ (exS p inp (lev p inp most k) t.ex ⟨Ay s1.m, s1.vars, s1.off, s1.res, s1.by'⟩).2.2 at he;unfold byK at hE;dsimp only at hE;rw [← hR] at he;rw [← hR, GA (bb := bb) hto.by'] at hE
 have he0 := he.h0
 obtain ⟨fu1, hfu1⟩ : ∃ fu1, fu1 = fuH R.1 R.2.2.m := ⟨_, rfl⟩
 obtain ⟨co1, hco1⟩ : ∃ co1, co1 = coH R.1 := ⟨_, rfl⟩
 rw [← hfu1, ← hco1] at hE;refine eK 4 Z (AC (Le.close (u := 100) 1100 Z Z Z) (nZ Z (AC (Le.close (u := 101) 1101 Z Z Z) (nZ Z ?_))));refine cP [100,101,102] (hm := (hE)) (k := ?_);refine nZ Z (AC (Le.open (u := 100) 1100 Z Z Z Z) (nZ Z (AC (Le.open (u := 101) 1101 Z Z Z Z) (nZ Z (eZ Z (WO_evF tys Z Z (AA Z) (d := .t _) Z (nZ Z (kZ [0,1,5,12,13,14,15,16,17,18,30,31,32,33,34,35,36,37,38] Z (WO_evF tys Z Z (AA Z) (d := .t _) Z (nZ Z (eK 2 Z (nB (sQ (sG (eK 2 Z ?_)))))))))))))));refine nB ?_;refine AD Z (fun h4 => ?_) (fun h4 => ?_)
 ·
  simp only [HS] at h4;refine sG ?_
  have hout := hex'.trans (st_e (f := f) hfz hk3 hk6 hR (KX (by assumption)))
  subst hfu1 hco1;refine eK 4 Z (kZ [0,1,5,6,7,8,9,12,13,14,15,16,17,18,30,31,32,33,34,35,36,37,38,39,40,41,42,43] Z (nB (AU (Le.close (u := 100) 1100 Z Z Z) (nY Z (AU (Le.close (u := 101) 1101 Z Z Z) (nY Z (rT (tR (bR (AR (bR ?_)))))))))));refine eP [_, _, _] ?_ ?_
  ·exact FL (by rw [hout] <;> rfl) (by rw [hout] <;> rfl)
  ·rw [hout]
   rfl
 simp only [HS] at h4;refine AE (tN (sQ (sG ?_)))
 have hz : R.1 = 0 := P6 (by assumption)
 rw [hz, Ic (by omega)] at hfu1;rw [hz, Iq (by omega)] at hco1;subst hfu1 hco1
 have hok2 := he.ok
 have hf2 : R.2.2.m.fuel ≤ s1.m.fuel - 1 := he.le.1
 have ht2 : R.2.2.m.trace.length + R.2.2.m.fuel ≤ s1.m.trace.length + (s1.m.fuel - 1) := he.le.2.1
 have ho2 : R.2.2.off.length + R.2.2.m.fuel ≤ s1.off.length + (s1.m.fuel - 1) := he.offl
 have hd2 : R.2.2.m.deep = s.m.deep := (he.deep (by omega)).trans hdp
 have hvl : R.2.2.vars.length = f.vars.toNat := hok2.vars
 have hby2 : R.2.2.by'.isSome = s.by'.isSome := he.by'.trans hto.by'
 have h1B : Sx.to p inp f R.1 s1 R.2.2 := hb.trans he (by omega)
 refine eK 2 Z (nB (AF (sQ (kY [0,1,5,8,9,12,13,14,15,16,17,18,30,31,32,33,34,35,36,37,38,39,40,41,44,45] Z (rG (eK 2 Z (nB ?_)))))));refine AD Z (fun h5 => ?_) (fun h5 => ?_)
 ·
  simp only [HS] at h5
  have hk1' : t.kind = 1 := by assumption
  have hn1 : 0 ≤ t.n ∧ t.n ≤ f.vars - 1 := by have := hst; grind [Av, Aa]
  have hout := hex'.trans ((Ln (f := f) hfz hk3 hk6 hR hz).trans (do_1 hk1'))
  refine AU (Le.adoptBox (u := 101) (j := 1) (id := 191) Z Z Z) (nY Z (Bn [[], [], [], [], [], [], [], [], []] A9 (by kernel_rfl) (AZ (QG_ev tys Z Z (AA Z) Z (AI (AZ (CF rfl Z (AA Z) Z Z Z (AI (AZ (QG_ev tys Z Z (AA Z) Z (AI (AZ (QG_ev tys Z Z (AA Z) Z (AI (Aq Z ?_)))))))))))))));refine AZ (QG_ev tys Z Z (AA Z) Z (AI (AZ (QG_ev tys Z Z (AA Z) Z (AI (AZ (QG_ev tys Z Z (AA Z) Z (AI (Dy (Ju tys Z Z (AA Z) Z Z Z Z Z Z Z Z hn1.1 (by rw [Qh, hvl]; omega) ?_))))))))));refine AI (Aq Z ?_);refine Ll tys 10008 [T.int R.2.1] Z Z Z Z Z Z (Ez _ _ hn1.1 (by rw [hvl]; omega)) Z Z (by repeat (first | exact AbsL.nil' | refine AbsL.v' ?_)) Z (by decide) (RP Z) ?_;refine Eg ?_;refine ⟨by kernel_rfl, ?_⟩;refine nZ Z (AC (Le.gatherBox (u := 101) (j := 1) (id := 191) Z Z Z (by simp) Z) ?_);refine nZ Z (oN (bN (tN (sG (eK 2 Z (nB (AU (Le.close (u := 100) 1100 Z Z Z) (nY Z (AU (Le.close (u := 101) 1101 Z Z Z) (nY Z (rT (bR (AR (bR ?_))))))))))))));refine eP [_, _, _] ?_ ?_
  ·exact FL (by rw [hout] <;> rfl) (by rw [hout] <;> rfl)
  ·rw [hout]
   simp [rS, gC, T.ints, putI, Qi, Ay, fuH, coH]
   done
 simp only [HS] at h5;refine sG (eK 2 Z (nB ?_));refine AD Z (fun h6 => ?_) (fun h6 => ?_)
 ·
  simp only [HS] at h6;refine rG ?_
  have hout := hex'.trans ((Ln (f := f) hfz hk3 hk6 hR hz).trans (do_2 (by assumption)))
  refine eK 2 Z (AK rfl Z (AA Z) Z Z Z (eK 2 Z (kZ [0,1,5,8,9,12,13,14,15,16,17,18,30,31,32,33,34,35,36,37,38,39,40,41,44,45,46,47,56,57,58,59,60,61,62] Z (WO_loadOwn tys Z Z (AA Z) Z Z Z Z Z Z (AC (Le.adoptE (u := 63) 63 Z Z) (nZ Z (eZ Z (bZ [T.int R.2.1] ?_))))))));refine nZ Z (AJ tys Z Z (AA Z) Z Z Z Z Z (.own Z (by first | omega | (simp only [Qg]; omega))) Z (.own Z (by first | decide | omega)) (by decide) (by simp; omega) (by decide) Z ?_);refine nZ Z (AC (Le.gather (u := 66) (id := 63) Z Z (by first | (simp; done) | (simp; omega) | omega)) ?_);refine nZ Z (AK rfl Z (AA Z) Z Z Z (eK 2 Z (sT Z (nZ Z (oN (bN (tN (sQ (kY [0,1,5,8,9,12,13,14,15,16,17,18,30,31,32,33,34,35,36,37,38,39,40,41,44,45,46,47,56,57,58,59,60,61,62,63,64,65,66,67,68,69] Z (rG (eK 2 Z (nB (AU (Le.close (u := 100) 1100 Z Z Z) (nY Z (AU (Le.close (u := 101) 1101 Z Z Z) ?_)))))))))))))));refine nY Z (rT (bR (AR (bR ?_))));refine eP [_, _, _] ?_ ?_
  ·exact FL (by rw [hout] <;> rfl) (by rw [hout] <;> rfl)
  ·rw [hout]
   simp [rS, gC, T.ints, putI, Qi, Ay, fuH, coH]
   done
 simp only [HS] at h6;refine sG (eK 2 Z (nB ?_));refine AD Z (fun h7 => ?_) (fun h7 => ?_)
 ·
  simp only [HS] at h7;refine sG ?_
  have hout := hex'.trans ((Ln (f := f) hfz hk3 hk6 hR hz).trans (do_4 (by assumption)))
  refine eK 3 Z (kZ [0,1,5,6,7,8,9,12,13,14,15,16,17,18,30,31,32,33,34,35,36,37,38,39,40,41,44,45,46,47,56,57,70,71,72] Z (nB (AU (Le.close (u := 100) 1100 Z Z Z) (nY Z (AU (Le.close (u := 101) 1101 Z Z Z) (nY Z (rT (bR (tR (bR (AR (bR ?_))))))))))));refine eP [_, _, _] ?_ ?_
  ·exact FL (by rw [hout] <;> rfl) (by rw [hout] <;> rfl)
  ·rw [hout]
   rfl
 simp only [HS] at h7;refine sG (eK 2 Z (nB ?_));refine AD Z (fun h8 => ?_) (fun h8 => ?_)
 ·
  simp only [HS] at h8;refine sQ (kY [0,1,5,8,9,12,13,14,15,16,17,18,30,31,32,33,34,35,36,37,38,39,40,41,44,45,46,47,56,57,70,71,73,74] Z (rG ?_))
  have hout := hex'.trans ((Ln (f := f) hfz hk3 hk6 hR hz).trans (do_5 (by assumption)))
  refine eK 2 Z (AK rfl Z (AA Z) Z Z Z (eZ Z (sT Z (nZ Z (nA (eK 2 Z (nB (AU (Le.close (u := 100) 1100 Z Z Z) (nY Z (AU (Le.close (u := 101) 1101 Z Z Z) (nY Z (rT (bR (tR (bR ?_)))))))))))))));refine AR (bR ?_);refine eP [_, _, _] ?_ ?_
  ·exact FL (by rw [hout] <;> rfl) (by rw [hout] <;> rfl)
  ·rw [hout]
   rfl
 simp only [HS] at h8;refine sQ (kY [0,1,5,8,9,12,13,14,15,16,17,18,30,31,32,33,34,35,36,37,38,39,40,41,44,45,46,47,56,57,70,71,73,74] Z (rG (eK 2 Z (nB ?_))));refine AD Z (fun h9 => ?_) (fun h9 => ?_)
 ·
  simp only [HS] at h9;refine sQ (sG (eK 2 Z (nB ?_)));refine AD Z (fun h10 => ?_) (fun h10 => ?_)
  ·
   simp only [HS] at h10;refine sG ?_
   have hout := hex'.trans ((Ln (f := f) hfz hk3 hk6 hR hz).trans (do_7t (by assumption) (by omega)))
   have hB := Dq p inp most k (lev p inp most k) hL hIs fn f h0 h1' hfd hfl t.thn hk1 hl1 R.2.2 hok2 (by omega) (by omega) (by omega) (by omega) (by omega) bm bc bb q pv iv xv xt
   unfold byK at hB;rw [GA (bb := bb) hby2] at hB;refine eK 4 Z (AC (Le.close (u := 100) 1100 Z Z Z) (nZ Z (AC (Le.close (u := 101) 1101 Z Z Z) (nZ Z ?_))));refine cP [100,101,102] (hm := (hB)) (k := ?_);refine nZ Z (AC (Le.open (u := 100) 1100 Z Z Z Z) (nZ Z (AC (Le.open (u := 101) 1101 Z Z Z Z) (nZ Z (kZ [0,1,5,8,9,12,13,14,15,16,17,18,30,31,32,33,34,35,36,37,38,39,40,41,44,45,46,47,56,57,70,71,73,74,79,80,81,82,83,84,85,86,87] Z (WO_evF tys Z Z (AA Z) (d := .t _) Z (nZ Z (WO_evF tys Z Z (AA Z) (d := .t _) Z (nZ Z (eK 2 Z (nB (AU (Le.close (u := 100) 1100 Z Z Z) (nY Z (AU (Le.close (u := 101) 1101 Z Z Z) (nY Z ?_)))))))))))))));refine rT (tR (bR (tR (bR (AR (bR ?_))))));refine eP [_, _, _] ?_ ?_
   ·exact FL (by rw [hout] <;> rfl) (by rw [hout] <;> rfl)
   ·rw [hout]
    rfl
  simp only [HS] at h10;refine AE (tN (sG ?_))
  have hout := hex'.trans ((Ln (f := f) hfz hk3 hk6 hR hz).trans (do_7e (by assumption) (by omega)))
  have hB := Dq p inp most k (lev p inp most k) hL hIs fn f h0 h1' hfd hfl t.els hk2 hl2 R.2.2 hok2 (by omega) (by omega) (by omega) (by omega) (by omega) bm bc bb q pv iv xv xt
  unfold byK at hB;rw [GA (bb := bb) hby2] at hB;refine eK 4 Z (AC (Le.close (u := 100) 1100 Z Z Z) (nZ Z (AC (Le.close (u := 101) 1101 Z Z Z) (nZ Z ?_))));refine cP [100,101,102] (hm := (hB)) (k := ?_);refine nZ Z (AC (Le.open (u := 100) 1100 Z Z Z Z) (nZ Z (AC (Le.open (u := 101) 1101 Z Z Z Z) (nZ Z (kZ [0,1,5,8,9,12,13,14,15,16,17,18,30,31,32,33,34,35,36,37,38,39,40,41,44,45,46,47,56,57,70,71,73,74,79,80,81,82,90,91,92,93,94] Z (WO_evF tys Z Z (AA Z) (d := .t _) Z (nZ Z (WO_evF tys Z Z (AA Z) (d := .t _) Z (nZ Z (eK 2 Z (nB (AU (Le.close (u := 100) 1100 Z Z Z) (nY Z (AU (Le.close (u := 101) 1101 Z Z Z) (nY Z ?_)))))))))))))));refine rT (bR (tR (bR (AR (bR ?_)))));refine eP [_, _, _] ?_ ?_
  ·exact FL (by rw [hout] <;> rfl) (by rw [hout] <;> rfl)
  ·rw [hout]
   rfl
 simp only [HS] at h9;refine sG (eK 2 Z (nB ?_));refine AD Z (fun h10 => ?_) (fun h10 => ?_)
 ·
  simp only [HS] at h10;refine sG (eK 2 Z (nB ?_));refine AD Z (fun h11 => ?_) (fun h11 => ?_)
  ·
   simp only [HS] at h11;refine sQ (sG ?_)
   have hB := Dq p inp most k (lev p inp most k) hL hIs fn f h0 h1' hfd hfl t.thn hk1 hl1 R.2.2 hok2 (by omega) (by omega) (by omega) (by omega) (by omega) bm bc bb q pv iv xv xt
   have hb2o := CB (hL.stmt _ hf) hk1 hok2
   obtain ⟨B, hBd⟩ : ∃ B, B = blS (lev p inp most k) f t.thn R.2.2 := ⟨_, rfl⟩
   change Sx.to p inp f (blS (lev p inp most k) f t.thn R.2.2).1 _ (blS (lev p inp most k) f t.thn R.2.2).2.2 at hb2o;unfold byK at hB;rw [GA (bb := bb) hby2, ← hBd] at hB;rw [← hBd] at hb2o
   have hB0 := hb2o.h0
   have hf3 : B.2.2.m.fuel ≤ R.2.2.m.fuel := hb2o.le.1
   refine eK 3 Z (kZ [0,1,5,8,9,12,13,14,15,16,17,18,30,31,32,33,34,35,36,37,38,39,40,41,44,45,46,47,56,57,70,71,73,74,79,80,97,98,99,100,102,103,104] Z (eZ Z (AC (Le.close (u := 100) 1100 Z Z Z) (nZ Z (AC (Le.close (u := 101) 1101 Z Z Z) (nZ Z ?_))))));refine cP [100,101,102] (hm := (hB)) (k := ?_);refine nZ Z (AC (Le.open (u := 100) 1100 Z Z Z Z) (nZ Z (AC (Le.open (u := 101) 1101 Z Z Z Z) (nZ Z (eZ Z (WO_evF tys Z Z (AA Z) (d := .t _) Z (nZ Z (WO_evF tys Z Z (AA Z) (d := .t _) Z (nZ Z (eK 2 Z (nB (sQ (kY [0,1,5,8,9,10,11,12,13,14,15,16,17,18,30,31,32,33,34,35,36,37,38,39,40,41,44,45,46,47,56,57,70,71,73,74,79,80,97,98,99,100,101,102,103,104,105,106,107,108] Z (rG (eK 2 Z ?_)))))))))))))));refine nB ?_;refine AD Z (fun h12 => ?_) (fun h12 => ?_)
   ·
    simp only [HS] at h12;refine sG ?_
    have hout := hex'.trans ((Ln (f := f) hfz hk3 hk6 hR hz).trans (do_8b (by assumption) (by omega) hBd (KX (by assumption))))
    refine eK 4 Z (nB (AU (Le.close (u := 100) 1100 Z Z Z) (nY Z (AU (Le.close (u := 101) 1101 Z Z Z) (nY Z (rT (tR (bR (tR (bR (AR (bR ?_))))))))))));refine eP [_, _, _] ?_ ?_
    ·exact FL (by rw [hout] <;> rfl) (by rw [hout] <;> rfl)
    ·rw [hout]
     rfl
   simp only [HS] at h12;refine AE (tN (AV (P2 Z (tE (AO ?_)))));refine lQ ((B.2.2.m.fuel : Int), _, _, _) ?_ ?_
   ·dsimp only
    have hB1 : B.1 = 0 := P6 (by assumption); refine ⟨k, B.2.2, by omega, by omega, rfl, (hto.trans h1B (by omega)).trans (by rw [hB1] at hb2o; exact hb2o) (by omega), hex'.trans ((Ln (f := f) hfz hk3 hk6 hR hz).trans (do_8s (by assumption) (by omega) hBd hB1)), ?_, rfl, rfl⟩; rw [hB1, Ic (by omega), Iq (by omega)]; rfl
   ·(show Int.toNat _ < Int.toNat _); omega
  simp only [HS] at h11;refine AE (bN (tN (sG (eK 2 Z (nB (AU (Le.close (u := 100) 1100 Z Z Z) (nY Z (AU (Le.close (u := 101) 1101 Z Z Z) (nY Z (rT (bR (AR (bR ?_)))))))))))));refine eP [_, _, _] ?_ ?_
  ·(have hout := hex'.trans ((Ln (f := f) hfz hk3 hk6 hR hz).trans (do_8z (by assumption) (by omega))); exact FL (by rw [hout] <;> rfl) (by rw [hout] <;> rfl))
  ·(have hout := hex'.trans ((Ln (f := f) hfz hk3 hk6 hR hz).trans (do_8z (by assumption) (by omega))); rw [hout]; rfl)
 simp only [HS] at h10;refine AE (bN (tN (sG (eK 2 Z (nB (AU (Le.close (u := 100) 1100 Z Z Z) (nY Z (AU (Le.close (u := 101) 1101 Z Z Z) (nY Z (rT (bR (AR (bR ?_)))))))))))));refine eP [_, _, _] ?_ ?_
 ·(have hout := hex'.trans ((Ln (f := f) hfz hk3 hk6 hR hz).trans (do_9 (by assumption) (by assumption) (by assumption) (by assumption) (by assumption) (by assumption))); exact FL (by rw [hout] <;> rfl) (by rw [hout] <;> rfl))
 ·(have hout := hex'.trans ((Ln (f := f) hfz hk3 hk6 hR hz).trans (do_9 (by assumption) (by assumption) (by assumption) (by assumption) (by assumption) (by assumption))); rw [hout]; rfl)
open Go.Eng
def caS (p : Prog) (L : Lev) (most : Nat) (fn : Int) (args : List Int) (b : Option By) (m : Ms) : Int × Int × Option By × Ms := Ck L p most fn args b m
def KI (L : Lev) (k : Int) (b : Option By) (m : Ms) : Int × Int × Option By × Ms := L.call k [] b m
section
variable {p : Prog} {inp : List Int} {f : Func} {L : Lev} {most : Nat} {fn : Int} {args : List Int} {b : Option By} {m : Ms} {R : Int × Int × Sx} {Q : Int × By × Ms}
theorem ca_0 (h : m.fuel = 0) : caS p L most fn args b m = (5, 0, b, Ay m) := by rw [caS, Ck, if_pos h, Kn h]
theorem ca_d (hf : m.fuel ≠ 0) (h : m.deep = most) : caS p L most fn args b m = (4, 0, b, Ay m) := by rw [caS, Ck, if_neg hf, if_pos h]
theorem ca_e (hf : m.fuel ≠ 0) (h : m.deep ≠ most) (hfd : f = funcAt p fn) (hR : R = blS L f f.body (startS f args b m)) (h4 : 4 ≤ R.1) : caS p L most fn args b m = (R.1, 0, R.2.2.by', R.2.2.m) := by
 subst hfd;rw [caS, Ck, if_neg hf, if_neg h]
 have e : blockS (L.stmt (funcAt p fn)) (funcAt p fn) (funcAt p fn).body (startS (funcAt p fn) args b m) = R := hR.symm
 simp only [e, if_pos h4]
theorem ca_o (hf : m.fuel ≠ 0) (h : m.deep ≠ most) (hfd : f = funcAt p fn) (hR : R = blS L f f.body (startS f args b m)) (h4 : ¬ 4 ≤ R.1) (hQ : offR (KI L) R.2.2.off.reverse (endS R.1 R.2.1) R.2.2.m = Q) (h5 : 4 ≤ Q.1) : caS p L most fn args b m = (Q.1, 0, R.2.2.by', Q.2.2) := by
 subst hfd;rw [caS, Ck, if_neg hf, if_neg h]
 have e : blockS (L.stmt (funcAt p fn)) (funcAt p fn) (funcAt p fn).body (startS (funcAt p fn) args b m) = R := hR.symm
 have e2 : offR (fun k b m => L.call k [] b m) R.2.2.off.reverse (endS R.1 R.2.1) R.2.2.m = Q := hQ
 simp only [e, if_neg h4, e2, if_pos h5]
theorem ca_f (hf : m.fuel ≠ 0) (h : m.deep ≠ most) (hfd : f = funcAt p fn) (hR : R = blS L f f.body (startS f args b m)) (h4 : ¬ 4 ≤ R.1) (hQ : offR (KI L) R.2.2.off.reverse (endS R.1 R.2.1) R.2.2.m = Q) (h5 : ¬ 4 ≤ Q.1) : caS p L most fn args b m = (Q.2.1.how, if Q.2.1.how = 2 then Q.2.1.pan else R.2.2.res, R.2.2.by', ⟨Q.2.2.used, Q.2.2.fuel, Q.2.2.deep - 1, Q.2.2.trace⟩) := by
 subst hfd;rw [caS, Ck, if_neg hf, if_neg h]
 have e : blockS (L.stmt (funcAt p fn)) (funcAt p fn) (funcAt p fn).body (startS (funcAt p fn) args b m) = R := hR.symm
 have e2 : offR (fun k b m => L.call k [] b m) R.2.2.off.reverse (endS R.1 R.2.1) R.2.2.m = Q := hQ
 simp only [e, if_neg h4, e2, if_neg h5]
end
section
variable {p : Prog} {inp : List Int} {L : Lev} {off : List Int} {b0 b1 : By} {m0 m1 : Ms} {pv iv : Value} {most : Int} {k : Int} {R : Int × Int × Option By × Ms} {c : By}
theorem N4 (h0 : 0 ≤ k) (h1 : k < off.length) : (off.take (k + 1).toNat).reverse = off[k.toNat]'(by omega) :: (off.take (k - 1 + 1).toNat).reverse := by
 rw [show (k + 1).toNat = k.toNat + 1 from by omega, show (k - 1 + 1).toNat = k.toNat from by omega, List.take_succ_eq_append_getElem (by omega), List.reverse_append];rfl
end
open Go.Eng
def lvC (p : Prog) (inp : List Int) (most n : Nat) (fn : Int) (args : List Int) (b : Option By) (m : Ms) : Int × Int × Option By × Ms := (lev p inp most n).call fn args b m
theorem lc_0 {p : Prog} {inp : List Int} {most n : Nat} {fn : Int} {args : List Int} {b : Option By} {m : Ms} (h : m.fuel = 0) : lvC p inp most n fn args b m = (5, 0, b, Ay m) := by
 cases n with
 | zero => show (5, 0, b, m) = _; rw [Kn h]
 | succ n => exact ca_0 h
def OfI (inp : List Int) (L : Lev) (off : List Int) (b0 : By) (m0 : Ms) (pv iv : Value) (most fn : Int) (vars : List Int) (res : Int) (bp : Value) (l : List Int) (B1 B2 : Blk) : Prop :=
 ∃ (b1 : By) (m1 : Ms), (∀ x, x ∈ l → x ∈ off) ∧ l.length ≤ off.length ∧ offR (KI L) off.reverse b0 m0 = offR (KI L) l.reverse b1 m1 ∧ 1 ≤ b1.how ∧ b1.how < 4 ∧ m0.le inp m1 ∧ m1.deep = m0.deep ∧ B1 = .box (rS pv iv most m1.fuel 0 m1) ∧ B2 = .box (gC fn vars l res b1.how b1.pan b1.exd bp)
section
variable {p : Prog} {inp : List Int} {L : Lev} {off l : List Int} {b0 b1 : By} {m0 m1 : Ms} {pv iv bp : Value} {most fn res x : Int} {vars : List Int} {R : Int × Int × Option By × Ms} {c : By}
theorem revL (h : 0 < (l.length : Int)) : l.reverse = l[((l.length : Int) - 1).toNat]'(by omega) :: (l.take ((l.length : Int) - 1).toNat).reverse := by
 have := N4 (off := l) (k := (l.length : Int) - 1) (by omega) (by omega)
 rw [show ((l.length : Int) - 1 + 1).toNat = l.length from by omega, Qt, show ((l.length : Int) - 1 - 1 + 1).toNat = ((l.length : Int) - 1).toNat from by omega] at this;exact this
theorem KH (h : 0 < (l.length : Int)) (hex : offR (KI L) off.reverse b0 m0 = offR (KI L) l.reverse b1 m1) (hR : R = L.call (l[((l.length : Int) - 1).toNat]'(by omega)) [] (some b1) m1) (hc : R.2.2.1 = some c) (h4 : 4 ≤ R.1) : offR (KI L) off.reverse b0 m0 = (R.1, c, R.2.2.2) := by
 have e : KI L (l[((l.length : Int) - 1).toNat]'(by omega)) (some b1) m1 = R := hR.symm
 rw [hex, revL h, offR];simp only [e, if_pos h4, hc, Option.getD_some]
theorem ofI_next (h : 0 < (l.length : Int)) (hin : ∀ x, x ∈ l → x ∈ off) (hlen : l.length ≤ off.length) (hex : offR (KI L) off.reverse b0 m0 = offR (KI L) l.reverse b1 m1) (hb1 : 1 ≤ b1.how) (hb2 : b1.how < 4) (hle : m0.le inp m1) (hd : m1.deep = m0.deep) (hR : R = L.call (l[((l.length : Int) - 1).toNat]'(by omega)) [] (some b1) m1)
  (hto : Ms.to inp R.1 (some b1) R.2.2.1 m1 R.2.2.2) (hc : R.2.2.1 = some c) (h4 : ¬ 4 ≤ R.1) {b2 : By} (hb : b2 = if R.1 = 1 then c else ⟨R.1, if R.1 = 2 then R.2.1 else c.pan, c.exd || decide (R.1 = 3)⟩) {B1 B2 : Blk} (e1 : B1 = .box (rS pv iv most (fuH R.1 R.2.2.2) (coH R.1) R.2.2.2)) (e2 : B2 = .box (gC fn vars (l.take ((l.length : Int) - 1).toNat) res b2.how b2.pan b2.exd bp)) :
  OfI inp L off b0 m0 pv iv most fn vars res bp (l.take ((l.length : Int) - 1).toNat) B1 B2 := by
 have e : KI L (l[((l.length : Int) - 1).toNat]'(by omega)) (some b1) m1 = R := hR.symm
 have hcb := hto.byk (fun x hx => by cases hx; exact ⟨hb1, hb2⟩) c hc
 have hh1 := hto.h1
 rw [Ic (by omega), Iq (by omega)] at e1;refine ⟨b2, R.2.2.2, fun x hx => hin x (RR hx), by rw [Qo]; omega, ?_, ?_, ?_, hle.trans hto.le, (hto.deep (by omega)).trans hd, e1, e2⟩
 ·rw [hex, revL h, offR]
  simp only [e, if_neg h4, hc, Option.getD_some];subst hb
  split <;> rfl
 ·subst hb
  split
  ·exact hcb.1
  ·exact hh1
 ·subst hb
  split
  ·exact hcb.2
  ·show R.1 < 4; omega
theorem Py (h0 : ¬ 0 < (l.length : Int)) (hex : offR (KI L) off.reverse b0 m0 = offR (KI L) l.reverse b1 m1) : offR (KI L) off.reverse b0 m0 = (0, b1, m1) := by
 rw [hex, show l = [] from RD (by omega)];rfl
theorem Oh {h : Int} (e : haH h = 4) : 4 ≤ h := by unfold haH at e; split at e <;> omega
theorem PU {h : Int} (e : ¬ haH h = 4) : ¬ 4 ≤ h := by intro h'; unfold haH at e; rw [if_pos h'] at e; exact e rfl
end
theorem LY (p : Prog) (inp : List Int) (most n : Nat) (hI : ∀ k, k < n → No p inp most k (lev p inp most k) ∧ Nd p inp most k (lev p inp most k)) (hg : Au p = true) (hp : p.ok 1048576) (hi : inp.length ≤ 1048576) (hmost : most ≤ 1048576) (fn : Int) (args : List Int) (b : Option By) (m : Ms) (bm bb : Nat) (q : Kp) (pv iv : Value) (xv : List Value) (xt : List T) (h0 : 0 ≤ fn) (h1' : fn < p.funcs.length) (hal : args.length = (atI (paramsL p) fn).toNat) (hu : m.used ≤ inp.length) (hdm : m.deep ≤ most) (hn : m.fuel ≤ n) (hz : m.fuel = 0) (hn2 : m.fuel ≤ 1048576) (hti : m.trace.length + m.fuel ≤ 1048576) : Proc Try.prog 65 [.t (.v (.pointer (some ⟨bm, 0, none⟩))), .t (.int fn), .t (T.ints args), .t (.v (byP bb b))] ((pv :: iv :: xv)) ((T.Funcs p.funcs :: T.ints inp :: xt)) [byK bb q b, .obox (.pointer (some ⟨bm, 0, none⟩)) (rS pv iv most m.fuel 0 m)] (.tup [.t (.int (haH (lvC p inp most n fn args b m).1)), .t (.int (lvC p inp most n fn args b m).2.1)]) [.obox (byP bb b) (gC q.fn q.vars q.off q.res (hH (lvC p inp most n fn args b m).2.2.1) (nH (lvC p inp most n fn args b m).2.2.1) (xH (lvC p inp most n fn args b m).2.2.1) q.bp), .obox (.pointer (some ⟨bm, 0, none⟩)) (rS pv iv most (fuH (lvC p inp most n fn args b m).1 (lvC p inp most n fn args b m).2.2.2) (coH (lvC p inp most n fn args b m).1) (lvC p inp most n fn args b m).2.2.2)] := by
 obtain ⟨f, hfd⟩ : ∃ f, f = funcAt p fn := ⟨_, rfl⟩
 have hfm : f ∈ p.funcs := hfd ▸ Bz h0 h1'
 obtain ⟨g1, g2, g3, g4, hsh, g6⟩ := Cv hg hfm
 have hpa : atI (paramsL p) fn = f.params := hfd ▸ BG h0 h1'
 have hfa : p.funcs[fn.toNat]'(by omega) = f := by rw [hfd]; exact AL (by omega)
 have hget : (p.funcs.map Func.tt)[fn.toNat]? = some f.tt := by rw [EE _ _ h0 h1', hfa]
 have hal2 : args.length ≤ f.vars.toNat := by omega
 have hfo : f.ok 1048576 := hp.1.2 f hfm
 have hBu := GB bm pv iv most m (pv :: iv :: xv) (T.Funcs p.funcs :: T.ints inp :: xt) (by omega)
 obtain ⟨co, hco⟩ : ∃ co : Int, co = if m.fuel = 0 then 5 else 0 := ⟨_, rfl⟩
 rw [← hco] at hBu;refine Proc.intro tys Try.func65 Z Z (N := 157) [100, 101] 99 ([(0, .t (.v (.pointer (some ⟨bm, 0, none⟩)))), (1, .t (.int fn)), (2, .t (T.ints args)), (3, .t (.v (byP bb b)))]) ([(100, byK bb q b), (101, .obox (.pointer (some ⟨bm, 0, none⟩)) (rS pv iv most m.fuel 0 m)), (99, .ro (pv :: iv :: xv) (T.Funcs p.funcs :: T.ints inp :: xt))]) Z Z Z Z (by decide) (by decide) Z (fun w0 G F0 => ?_);refine nY Z (AU (Le.openNew (u := 101) 1101 Z Z Z Z Z) (nY Z (AU (Le.named (t := 0) (u := 101) 1101 Z Z) (nY Z (sG (eK 2 Z (nB (sQ (sQ (Ai A9 (by kernel_rfl) (evQ ?_)))))))))));refine BD rfl Z (AA Z) Z Z Z (evQ ?_);refine evQ ?_;refine AS Z (evQ ?_);refine Ef (v := false) (by simp [hz]) ?_;refine evQ ?_
 iterate 9 (refine Nh rfl rfl rfl rfl rfl (AA rfl) ?_)
 refine evQ ?_;refine BE (tN (BC Z (AE (tN (sQ (sG (eZ Z (AC (Le.close (u := 101) 1101 Z Z Z) (nZ Z ?_)))))))));refine cP [101] (hm := (hBu)) (k := ?_);refine nZ Z (AC (Le.open (u := 101) 1101 Z Z Z Z) (nZ Z (AC (Le.known (t := 38) false Z (by simp [hz])) ?_)));refine eZ Z (nB (AY Z (sG (eK 2 Z (nB (AU (Le.close (u := 101) 1101 Z Z Z) (nY Z (rT (tR ?_)))))))));refine eP [_, _] ?_ ?_
 ·exact FL (by rw [lc_0 hz] <;> rfl) (by rw [lc_0 hz] <;> rfl)
 ·(rw [if_pos hz] at hco; subst hco; rw [lc_0 hz]; rfl)
theorem LX (p : Prog) (inp : List Int) (most n : Nat) (hI : ∀ k, k < n → No p inp most k (lev p inp most k) ∧ Nd p inp most k (lev p inp most k)) (hg : Au p = true) (hp : p.ok 1048576) (hi : inp.length ≤ 1048576) (hmost : most ≤ 1048576) (fn : Int) (args : List Int) (b : Option By) (m : Ms) (bm bb : Nat) (q : Kp) (pv iv : Value) (xv : List Value) (xt : List T) (h0 : 0 ≤ fn) (h1' : fn < p.funcs.length) (hal : args.length = (atI (paramsL p) fn).toNat) (hu : m.used ≤ inp.length) (hdm : m.deep ≤ most) (hn : m.fuel ≤ n) (hfz : m.fuel ≠ 0) (hn2 : m.fuel ≤ 1048576) (hti : m.trace.length + m.fuel ≤ 1048576) : Proc Try.prog 65 [.t (.v (.pointer (some ⟨bm, 0, none⟩))), .t (.int fn), .t (T.ints args), .t (.v (byP bb b))] ((pv :: iv :: xv)) ((T.Funcs p.funcs :: T.ints inp :: xt)) [byK bb q b, .obox (.pointer (some ⟨bm, 0, none⟩)) (rS pv iv most m.fuel 0 m)] (.tup [.t (.int (haH (lvC p inp most n fn args b m).1)), .t (.int (lvC p inp most n fn args b m).2.1)]) [.obox (byP bb b) (gC q.fn q.vars q.off q.res (hH (lvC p inp most n fn args b m).2.2.1) (nH (lvC p inp most n fn args b m).2.2.1) (xH (lvC p inp most n fn args b m).2.2.1) q.bp), .obox (.pointer (some ⟨bm, 0, none⟩)) (rS pv iv most (fuH (lvC p inp most n fn args b m).1 (lvC p inp most n fn args b m).2.2.2) (coH (lvC p inp most n fn args b m).1) (lvC p inp most n fn args b m).2.2.2)] := by
 obtain ⟨f, hfd⟩ : ∃ f, f = funcAt p fn := ⟨_, rfl⟩
 have hfm : f ∈ p.funcs := hfd ▸ Bz h0 h1'
 obtain ⟨g1, g2, g3, g4, hsh, g6⟩ := Cv hg hfm
 have hpa : atI (paramsL p) fn = f.params := hfd ▸ BG h0 h1'
 have hfa : p.funcs[fn.toNat]'(by omega) = f := by rw [hfd]; exact AL (by omega)
 have hget : (p.funcs.map Func.tt)[fn.toNat]? = some f.tt := by rw [EE _ _ h0 h1', hfa]
 have hal2 : args.length ≤ f.vars.toNat := by omega
 have hfo : f.ok 1048576 := hp.1.2 f hfm
 have hBu := GB bm pv iv most m (pv :: iv :: xv) (T.Funcs p.funcs :: T.ints inp :: xt) (by omega)
 obtain ⟨co, hco⟩ : ∃ co : Int, co = if m.fuel = 0 then 5 else 0 := ⟨_, rfl⟩
 rw [← hco] at hBu;refine Proc.intro tys Try.func65 Z Z (N := 157) [100, 101] 99 ([(0, .t (.v (.pointer (some ⟨bm, 0, none⟩)))), (1, .t (.int fn)), (2, .t (T.ints args)), (3, .t (.v (byP bb b)))]) ([(100, byK bb q b), (101, .obox (.pointer (some ⟨bm, 0, none⟩)) (rS pv iv most m.fuel 0 m)), (99, .ro (pv :: iv :: xv) (T.Funcs p.funcs :: T.ints inp :: xt))]) Z Z Z Z (by decide) (by decide) Z (fun w0 G F0 => ?_);refine nY Z (AU (Le.openNew (u := 101) 1101 Z Z Z Z Z) (nY Z (AU (Le.named (t := 0) (u := 101) 1101 Z Z) (nY Z (sG (eK 2 Z (nB (sQ (sQ (Ai A9 (by kernel_rfl) (evQ ?_)))))))))));refine BD rfl Z (AA Z) Z Z Z (evQ ?_);refine evQ ?_;refine AS Z (evQ ?_);refine Ef (v := true) (by simp; omega) ?_;refine evQ ?_;refine Bo Z Z Z Z (AA Z) (evQ ?_);refine Bo Z Z Z Z (AA Z) (BD rfl Z (AA Z) Z Z Z (Bo Z Z Z Z (AA Z) (evQ ?_)));refine Bo Z Z Z Z (AA Z) (evQ ?_);refine AS Z (Bo Z Z Z Z (AA Z) (evQ ?_));refine Bo Z Z Z Z (AA Z) (BD rfl Z (AA Z) Z Z Z (Bo Z Z Z Z (AA Z) (evQ ?_)));refine Bo Z Z Z Z (AA Z) (evQ ?_);refine Bo Z Z Z Z (AA Z) (evQ ?_);refine evQ ?_;refine AS Z (BE (tN ?_));refine AD Z (fun h1 => ?_) (fun h1 => ?_)
 ·
  simp only [HS] at h1;refine sQ ?_
  obtain ⟨k, hk⟩ : ∃ k, n = k + 1 := ⟨n - 1, by omega⟩
  subst hk
  have hout : lvC p inp most (k + 1) fn args b m = (4, 0, b, Ay m) := ca_d hfz (by omega)
  refine rG (eZ Z (AK rfl Z (AA Z) Z Z Z (eK 2 Z (sT Z (nZ Z (nA (eK 2 Z (nB (AU (Le.close (u := 101) 1101 Z Z Z) (nY Z (rT (tR ?_))))))))))));refine eP [_, _] ?_ ?_
  ·first
   | exact FL (by first | (rw [hout]; done) | (rw [hout]; rfl)) (by first | (rw [hout]; done) | (rw [hout]; rfl))
  ·first
   | (rw [hout]; have hq : fuH 4 (Ay m) = m.fuel := (by show ((m.fuel - 1 : Nat) : Int) + 1 = m.fuel; omega); simp only [hq]; rfl)
 simp only [HS] at h1;refine AE (tN (sQ (sG (eZ Z (AC (Le.close (u := 101) 1101 Z Z Z) (nZ Z ?_))))));refine cP [101] (hm := (hBu)) (k := ?_);refine nZ Z (AC (Le.open (u := 101) 1101 Z Z Z Z) (nZ Z (AC (Le.known (t := 38) true Z (by simp [hfz])) ?_)));refine eZ Z (nB (BC Z (AE (tN (sQ ?_)))))
 have hdz : m.deep ≠ most := by omega
 have hbd : (Ay m).deep = m.deep := rfl
 rw [if_neg hfz] at hco;subst hco
 obtain ⟨k, hk⟩ : ∃ k, n = k + 1 := ⟨n - 1, by omega⟩
 subst hk
 have hL := E7 (inp := inp) hg most k
 obtain ⟨hIc, hIs⟩ := hI k (by omega)
 refine rG (eZ Z (AK rfl Z (AA Z) Z Z Z (eK 2 Z (evI ?_))));refine AK rfl Z (AA Z) Z Z Z (kZ [0,1,2,3,8,9,44,45] Z (eZ Z (sT Z (nZ Z (nA (eK 2 Z (AK rfl Z (AA Z) Z Z Z (eK 2 Z (Iz tys 99 0 Z Z (AA Z) Z Z Z Z (eZ Z (kZ [0,1,2,3,8,9,47,52,53] Z ?_)))))))))));refine iX (h5 := h0) (h6 := hget) (k := ?_);refine eK 2 Z ?_;refine PB tys (T.int 0) Z Z (AA Z) Z Z Z Z Z (by repeat (first | exact AbsL.nil' | refine AbsL.v' ?_ | refine AbsL.none' ?_)) Z (by omega) (by omega) (by decide) ?_;refine nZ Z (nZ Z (eZ Z (AG tys Z Z (AA Z) Z Z Z (by kernel_rfl) Z Z Z Z Z Z (Af Z Z (AA Z) Z Z (nZ Z (eZ Z (nB (sQ (AU (Le.nilBox (u := 60) (j := 3) 1 Z Z) (nY Z ?_))))))))));refine QW (u := 60) (pid := 1060) Z Z (fun bc => ?_);refine nY Z (AU (Le.eqK (id := 57) Z (k' := .L 1 ((List.replicate f.vars.toNat (0 : Int)).map T.int)) (by rw [List.map_replicate])) ?_);refine nY Z (kY [0,1,2,8,9,10] Z (rG (eZ Z (AK rfl Z (AA Z) Z Z Z (eK 3 Z (PD (e := 3) Z Z (AA Z) Z (by kernel_rfl) (by kernel_rfl) Z Z (by simp) Z (by simp; omega) ?_))))));refine nZ Z (AC (Le.gatherBox (u := 60) (j := 1) (id := 57) Z Z Z (by simp; omega) Z) ?_);refine nZ Z (AC (Le.eqK (id := 60) Z (k' := .box (gC fn (OB f.vars.toNat args) [] 0 0 0 false (byP bb b))) (by rw [Qi (by simp; omega)]; rfl)) ?_);refine nZ Z (nB (sQ ?_))
 have hso := Fd (p := p) (inp := inp) (f := f) (args := args) (b := b) (m := m) hal2 hu
 have hsf : (startS f args b m).m.fuel = m.fuel - 1 := rfl
 have hst : (startS f args b m).m.trace.length = m.trace.length := rfl
 have hsl : (startS f args b m).off.length = 0 := rfl
 have hsd : (startS f args b m).m.deep = m.deep + 1 := rfl
 have hB := Dq p inp most k (lev p inp most k) hL hIs fn f h0 h1' hfd hfo.2.1.1 f.body (FX hsh) hfo.1 (startS f args b m) hso (by omega) (by omega) (by omega) (by omega) (by omega) bm bc bb q pv iv xv xt
 have hbo := CB (hL.stmt _ hfm) (FX hsh) hso
 change Sx.to p inp f (blS (lev p inp most k) f f.body (startS f args b m)).1 _ (blS (lev p inp most k) f f.body (startS f args b m)).2.2 at hbo
 obtain ⟨R, hR⟩ : ∃ R, R = blS (lev p inp most k) f f.body (startS f args b m) := ⟨_, rfl⟩
 rw [← hR] at hB hbo
 obtain ⟨fu1, hfu1⟩ : ∃ fu1, fu1 = fuH R.1 R.2.2.m := ⟨_, rfl⟩
 obtain ⟨co1, hco1⟩ : ∃ co1, co1 = coH R.1 := ⟨_, rfl⟩
 obtain ⟨e0, he0⟩ : ∃ e0, e0 = haH R.1 := ⟨_, rfl⟩
 rw [← hfu1, ← hco1, ← he0] at hB
 have hR0 := hbo.h0
 have hR5 := hbo.h5
 have hf2 : R.2.2.m.fuel ≤ m.fuel - 1 := hbo.le.1
 have ht2 : R.2.2.m.trace.length + R.2.2.m.fuel ≤ m.trace.length + (m.fuel - 1) := hbo.le.2.1
 have ho2 : R.2.2.off.length + R.2.2.m.fuel ≤ 0 + (m.fuel - 1) := hbo.offl
 refine rG (eK 3 Z (kZ [0,1,8,9,10,68,69,70] Z (AK rfl Z (AA Z) Z Z Z (eK 2 Z (Iz tys 99 0 Z Z (AA Z) Z Z Z Z (eZ Z ?_))))));refine iX (h5 := h0) (h6 := hget) (k := ?_);refine eK 2 Z (AC (Le.close (u := 101) 1101 Z Z Z) (nZ Z (AC (Le.close (u := 60) 1060 Z Z Z) (nZ Z ?_))));refine cP [101,60,100] (hm := (hB)) (k := ?_);refine nZ Z (AC (Le.open (u := 101) 1101 Z Z Z Z) (nZ Z (AC (Le.open (u := 60) 1060 Z Z Z Z) (nZ Z (kZ [0,8,9,10,79] Z (eZ Z (WO_evF tys Z Z (AA Z) (d := .t _) Z (nZ Z (WO_evF tys Z Z (AA Z) (d := .t _) Z (nZ Z (eK 2 Z (nB (sQ (sG (eK 2 Z ?_)))))))))))))));refine nB ?_;refine AD Z (fun h2 => ?_) (fun h2 => ?_)
 ·
  simp only [HS] at h2;refine sQ (kY [0,8,9,10,11,12] Z (rG (eK 2 Z (nB (AU (Le.close (u := 101) 1101 Z Z Z) (nY Z (rT (tR ?_))))))));refine eP [_, _] ?_ ?_
  ·first
   | (subst hfu1 hco1; have hr4 := Oh (he0.symm.trans (by assumption)); have hout : lvC p inp most (k + 1) fn args b m = _ := ca_e hfz hdz hfd hR hr4; exact FL (by rw [hout]; show 4 = haH R.1; unfold haH; rw [if_pos hr4]) (by rw [hout]))
  ·first
   | (subst hfu1 hco1; have hr4 := Oh (he0.symm.trans (by assumption)); have hout : lvC p inp most (k + 1) fn args b m = _ := ca_e hfz hdz hfd hR hr4; rw [hout]; rfl)
 simp only [HS] at h2;refine AE (tN (sQ (sQ ?_)))
 have hr4 : ¬ 4 ≤ R.1 := PU (by rw [← he0]; assumption)
 rw [P4 (by omega)] at he0;rw [Ic (by omega)] at hfu1;rw [Iq (by omega)] at hco1;subst hfu1 hco1 he0
 have hd2 : R.2.2.m.deep = m.deep + 1 := hbo.deep (by omega)
 have hes := Je (v := R.2.1) hR0 (by omega)
 refine kY [0,8,9,10,11,12] Z (rG (eK 2 Z (nB ?_)));refine A1 (α := Int) [0, 8, 9, 10, 12] [60, 99, 100, 101, 1101, 1060] (fun x => [(11, .t (.int x))]) (fun x => []) (fun x => x = (endS R.1 R.2.1).how) ?_ (fun e11 hx => ?_)
 ·
  refine AD Z (fun h3 => ?_) (fun h3 => ?_)
  ·
   simp only [HS] at h3;refine rG (eZ Z (oN (jQ _ ?_)))
   simp only [endS]; split <;> omega
  simp only [HS] at h3;refine AE (jQ _ ?_)
  simp only [endS]; split <;> omega
 have he11 := hx
 refine tN (sQ ?_);subst he11
 have hEn := Kj bc (endS R.1 R.2.1).how R.2.1 fn R.2.2.vars R.2.2.off R.2.2.res 0 0 false (byP bb b) (pv :: iv :: xv) (T.Funcs p.funcs :: T.ints inp :: xt)
 rw [show (if (endS R.1 R.2.1).how = 2 then R.2.1 else 0) = (endS R.1 R.2.1).pan from by grind [endS], show (or false (decide ((endS R.1 R.2.1).how = 3))) = (endS R.1 R.2.1).exd from by grind [endS]] at hEn;refine kY [0,8,9,10,11,12] Z (rG (eK 3 Z (AC (Le.close (u := 60) 1060 Z Z Z) (nZ Z ?_))));refine cP [60] (hm := (hEn)) (k := ?_);refine nZ Z (AC (Le.open (u := 60) 1060 Z Z Z Z) (nZ Z (nB (sQ (AF ?_)))));refine lK (α := List Int × Blk × Blk) [0, 10] [99, 100, 1101, 1060] (fun x => []) (fun x => [(101, (x.2.1)), (60, (x.2.2))]) (fun x => OfI inp (lev p inp most k) R.2.2.off (endS R.1 R.2.1) R.2.2.m pv iv most fn R.2.2.vars R.2.2.res (byP bb b) (x.1) (x.2.1) (x.2.2)) (fun x => Int.toNat ((x.1).length)) (R.2.2.off, .box (rS pv iv most R.2.2.m.fuel 0 R.2.2.m), .box (gC fn R.2.2.vars R.2.2.off R.2.2.res (endS R.1 R.2.1).how (endS R.1 R.2.1).pan (endS R.1 R.2.1).exd (byP bb b))) ?_ (fun x hx => ?_)
 ·exact ⟨_, _, fun x hx => hx, Qu _, rfl, hes.1, hes.2, ⟨Qu _, Qu _, hbo.ok.used⟩, rfl, rfl, rfl⟩
 obtain ⟨l, B1, B2⟩ := x
 obtain ⟨b1, m1, hin, hlen, hex, hb1, hb2, hle, hd1, hB1, hB2⟩ := hx
 dsimp only at hin hlen hex hb1 hb2 hle hd1 hB1 hB2 ⊢;subst hB1 hB2;refine nY Z (sQ (sQ (AU (Le.adoptBoxI (u := 60) (j := 3) (id := 192) Z Z Z) (nY Z (rG (eZ Z (AK rfl Z (AA Z) Z Z Z (eK 2 Z (evE ?_)))))))));refine eZ Z (nB ?_);refine AD Z (fun h3 => ?_) (fun h3 => ?_)
 ·
  simp only [HS] at h3;refine AE (tN (AF (sQ ?_)))
  have hl0 : 0 < (l.length : Int) := by omega
  have hf3 : m1.fuel ≤ R.2.2.m.fuel := hle.1
  have ht3 : m1.trace.length + m1.fuel ≤ R.2.2.m.trace.length + R.2.2.m.fuel := hle.2.1
  obtain ⟨q0, q1, q2⟩ := hbo.ok.off (l[((l.length : Int) - 1).toNat]'(by omega)) (hin _ (Qr _))
  have hto1 := hL.call (l[((l.length : Int) - 1).toNat]'(by omega)) [] (some b1) m1 q0 q1 (by rw [q2]; rfl) hle.2.2
  have hCa := hIc (l[((l.length : Int) - 1).toNat]'(by omega)) [] (some b1) m1 bm bc ⟨fn, R.2.2.vars, l.take ((l.length : Int) - 1).toNat, R.2.2.res, byP bb b⟩ pv iv xv xt q0 q1 (by rw [q2]; rfl) hle.2.2 (by omega) (by omega) (by omega) (by omega)
  obtain ⟨R1, hR1⟩ : ∃ R1, R1 = (lev p inp most k).call (l[((l.length : Int) - 1).toNat]'(by omega)) [] (some b1) m1 := ⟨_, rfl⟩
  rw [← hR1] at hCa hto1
  obtain ⟨c1, hc1⟩ : ∃ c1, R1.2.2.1 = some c1 := by have := hto1.by'; cases h : R1.2.2.1 with | none => rw [h] at this; cases this | some c1 => exact ⟨c1, rfl⟩
  rw [hc1] at hCa
  have hh1 := hto1.h1
  have hh5 := hto1.h5
  obtain ⟨e1, he1⟩ : ∃ e1, e1 = haH R1.1 := ⟨_, rfl⟩
  rw [← he1] at hCa;refine rG (eZ Z (AK rfl Z (AA Z) Z Z Z (eZ Z (kZ [0,10,90,91,92,93,94,95,96,97,98] Z (eZ Z (evE ?_))))));refine evI ?_;refine eZ Z (nA (eZ Z (AK rfl Z (AA Z) Z Z Z (eK 3 Z (kZ [0,10,13,90,91,92,93,94,95,96,97,98,99,100,101,102,103,104,105,106] Z (Bb tys Z Z (AA Z) Z Z Z Z Z Z Z Z (by omega) (by omega) (BI tys Z Z (AA Z) Z Z Z Z (Ez _ _ (by omega) (by omega)) Z (eZ Z (nA (eK 2 Z (AK rfl Z (AA Z) Z Z Z (eK 3 Z (kZ [0,10,13,14,90,91,92,93,94,95,96,97,98,99,100,101,102,103,104,105,106,107,108,109,110,111,112,113,114] Z (Db tys Z Z (AA Z) Z Z Z Z Z Z Z Z Z (by omega) (by omega) (by omega) (AK rfl Z (AA Z) Z Z Z ?_)))))))))))))));refine eZ Z (sT Z (nZ Z (nB (sQ (AU (Le.gatherBox (u := 60) (j := 3) (id := 192) Z Z Z (by first | (simp; done) | (simp; omega)) Z) ?_)))));refine nY Z (AU (Le.eqK (id := 60) Z (k' := .box (gC fn R.2.2.vars (l.take ((l.length : Int) - 1).toNat) R.2.2.res b1.how b1.pan b1.exd (byP bb b))) (by rw [← List.map_take]; rfl)) ?_);refine nY Z (rG (eK 3 Z (AC (Le.close (u := 60) 1060 Z Z Z) (nZ Z (AC (Le.close (u := 101) 1101 Z Z Z) (nZ Z ?_))))));refine cP [60,101] (hm := (hCa)) (k := ?_);refine nZ Z (AC (Le.open (u := 60) 1060 Z Z Z Z) (nZ Z (AC (Le.open (u := 101) 1101 Z Z Z Z) (nZ Z (eZ Z (kZ [0,10,13,14,90,91,92,93,94,95,96,97,98,99,100,101,102,103,104,105,106,107,108,109,110,111,112,113,114,115,116,117,118,119,120,121,122] Z (WO_evF tys Z Z (AA Z) (d := .t _) Z (nZ Z (WO_evF tys Z Z (AA Z) (d := .t _) Z (nZ Z (eK 2 Z (nB (sQ (sG (eK 2 Z ?_)))))))))))))));refine nB ?_;refine AD Z (fun h4 => ?_) (fun h4 => ?_)
  ·
   simp only [HS] at h4;refine sG (eK 2 Z (nB (AU (Le.close (u := 101) 1101 Z Z Z) (nY Z (rT (tR (bR (AR (bR (tR ?_))))))))));refine eP [_, _] ?_ ?_
   ·first
    | (have hr5 := Oh (he1.symm.trans (by assumption)); have hout : lvC p inp most (k + 1) fn args b m = _ := ca_o hfz hdz hfd hR hr4 (KH hl0 hex hR1 hc1 hr5) hr5; exact FL (by rw [hout]; show 4 = haH R1.1; unfold haH; rw [if_pos hr5]) (by rw [hout]))
   ·first
    | (have hr5 := Oh (he1.symm.trans (by assumption)); have hout : lvC p inp most (k + 1) fn args b m = _ := ca_o hfz hdz hfd hR hr4 (KH hl0 hex hR1 hc1 hr5) hr5; rw [hout]; rfl)
  simp only [HS] at h4;refine AE (tN (sQ ?_))
  have hr5 : ¬ 4 ≤ R1.1 := PU (by rw [← he1]; assumption)
  rw [P4 (by omega)] at he1
  have hEn2 := Kj bc e1 R1.2.1 fn R.2.2.vars (l.take ((l.length : Int) - 1).toNat) R.2.2.res c1.how c1.pan c1.exd (byP bb b) (pv :: iv :: xv) (T.Funcs p.funcs :: T.ints inp :: xt)
  refine rG (eK 2 Z (nB ?_));refine AD Z (fun h5 => ?_) (fun h5 => ?_)
  ·
   simp only [HS] at h5;refine kY [0,10,13,14,15,16,90,91,92,93,94,95,96,97,98,99,100,101,102,103,104,105,106,107,108,109,110,111,112,113,114,115,116,117,118,119,120,121,122,123,124,125,126,127,128] Z (rG (eK 3 Z (AC (Le.close (u := 60) 1060 Z Z Z) (nZ Z ?_))));refine cP [60] (hm := (hEn2)) (k := ?_);refine nZ Z (AC (Le.open (u := 60) 1060 Z Z Z Z) (nZ Z (oN (bN ?_))));refine lQ ((l.take ((l.length : Int) - 1).toNat), _, _) ?_ ?_
   ·dsimp only
    subst he1; first | exact ofI_next hl0 hin hlen hex hb1 hb2 hle hd1 hR1 hto1 hc1 hr5 rfl rfl (by rw [if_pos (show R1.1 = 1 from by omega)]; rfl) | exact ofI_next hl0 hin hlen hex hb1 hb2 hle hd1 hR1 hto1 hc1 hr5 rfl rfl (by rw [if_neg (show ¬ R1.1 = 1 from by omega)]; rfl)
   ·(try dsimp only); simp only [Qo]; omega
  simp only [HS] at h5;refine AE (bN ?_);refine lQ ((l.take ((l.length : Int) - 1).toNat), _, _) ?_ ?_
  ·dsimp only
   subst he1; first | exact ofI_next hl0 hin hlen hex hb1 hb2 hle hd1 hR1 hto1 hc1 hr5 rfl rfl (by rw [if_pos (show R1.1 = 1 from by omega)]; rfl) | exact ofI_next hl0 hin hlen hex hb1 hb2 hle hd1 hR1 hto1 hc1 hr5 rfl rfl (by rw [if_neg (show ¬ R1.1 = 1 from by omega)]; rfl)
  ·(try dsimp only); simp only [Qo]; omega
 simp only [HS] at h3;refine AV (tE (AP (AO (tN (sQ ?_)))))
 have hQ := Py (by omega) hex
 have hout : lvC p inp most (k + 1) fn args b m = (b1.how, if b1.how = 2 then b1.pan else R.2.2.res, R.2.2.by', ⟨m1.used, m1.fuel, m1.deep - 1, m1.trace⟩) := ca_f hfz hdz hfd hR hr4 hQ (by show ¬ (4 : Int) ≤ 0; omega)
 have hdd : (m1.deep : Int) - 1 = ((m1.deep - 1 : Nat) : Int) := by omega
 refine rG (eZ Z (AK rfl Z (AA Z) Z Z Z (eZ Z (kZ [10,133,135] Z (eZ Z (evI ?_))))));refine AK rfl Z (AA Z) Z Z Z (eZ Z (sT Z (nZ Z (nB (sQ (sG (eZ Z (AK rfl Z (AA Z) Z Z Z (eK 2 Z (kZ [10,143] Z (eZ Z (nB ?_))))))))))));refine AD Z (fun h4 => ?_) (fun h4 => ?_)
 ·
  simp only [HS] at h4;refine sQ (Ai A9 (by kernel_rfl) (evQ ?_));refine BD rfl Z (AA Z) Z Z Z (evQ ?_);refine evQ ?_;refine evQ ?_;refine AS Z (evQ ?_);refine BE (tN (AU (Le.close (u := 101) 1101 Z Z Z) (nY Z (rT (tR ?_)))));refine eP [_, _] ?_ ?_
  ·first
   | exact FL (by rw [hout]; show 2 = haH b1.how; rw [show b1.how = 2 from by assumption]; rfl) (by rw [hout]; exact (if_pos (by assumption)).symm)
  ·first
   | (rw [hout]; simp only [Ic hb2, Iq hb2]; rw [hdd]; rfl)
 simp only [HS] at h4;refine AE (tN (sQ (Ai A9 (by kernel_rfl) (evQ ?_))));refine BD rfl Z (AA Z) Z Z Z (evQ ?_);refine evQ ?_;refine evQ ?_;refine AS Z (BD rfl Z (AA Z) Z Z Z (evQ ?_));refine evQ ?_;refine evQ ?_;refine evQ ?_;refine BE (tN (AU (Le.close (u := 101) 1101 Z Z Z) (nY Z (rT ?_))));refine eP [_, _] ?_ ?_
 ·first
  | exact FL (by rw [hout]; exact (P4 hb2).symm) (by rw [hout]; exact (if_neg (by assumption)).symm)
 ·first
  | (rw [hout]; simp only [Ic hb2, Iq hb2]; rw [hdd]; rfl)
open Go.Eng
def Co (p : Prog) (inp : List Int) (most fuel : Nat) : Int × Int × Option By × Ms := (lev p inp most fuel).call 0 [] none ⟨0, fuel, 0, []⟩
def PP (h v : Int) : Int := if h = 1 then v else if h = 2 then v else 0
theorem Bw {p : Prog} (hg : Au p = true) : (0 : Int) < p.funcs.length ∧ atI (paramsL p) 0 = 0 := by
 have h1 := B9 hg
 refine ⟨by omega, ?_⟩;unfold Au at hg;simp only [Qf, decide_eq_true_eq] at hg;exact hg.2.2.1
theorem Pq {p : Prog} {inp : List Int} (hg : Au p = true) (most fuel : Nat) : Ms.to inp (Co p inp most fuel).1 none (Co p inp most fuel).2.2.1 ⟨0, fuel, 0, []⟩ (Co p inp most fuel).2.2.2 :=
 (E7 hg most fuel).call 0 [] none ⟨0, fuel, 0, []⟩ (by omega) (Bw hg).1 (by rw [(Bw hg).2]; rfl) (RO _)
theorem retO {a a' b b' c c' : Int} {t t' : List T} (h1 : a = a') (h2 : b = b') (h3 : t = t') (h4 : c = c') : [D.agg [D.t (T.v (Value.int .i64 a)), D.t (T.v (Value.int .i64 b)), D.own (T.list 1 t), D.t (T.v (Value.int .i64 c))]] = [D.agg [D.t (T.int a'), D.t (T.int b'), D.own (T.list 1 t'), D.t (T.int c')]] := by rw [h1, h2, h3, h4]
def Cg (p : Prog) (inp : List Int) (most : Int) : Bool := Au p && (decide ((inp.length : Int) ≤ 10) && (CK inp (-2147483648) 2147483647 && decide (1 ≤ most ∧ most ≤ 12)))
open Go.Eng
theorem levI {p : Prog} {inp : List Int} {most : Nat} (hg : Au p = true) (hp : p.ok 1048576) (hi : inp.length ≤ 1048576) (hmost : most ≤ 1048576) (n : Nat) : No p inp most n (lev p inp most n) ∧ Nd p inp most n (lev p inp most n) := by
 induction n using Nat.strongRecOn with
 | _ n hI =>
  constructor
  ·intro fn args b m bm bb q pv iv xv xt h0 h1 ha hu hd hn hn2 hti
   by_cases hz : m.fuel = 0
   ·exact LY p inp most n hI hg hp hi hmost fn args b m bm bb q pv iv xv xt h0 h1 ha hu hd hn hz hn2 hti
   ·exact LX p inp most n hI hg hp hi hmost fn args b m bm bb q pv iv xv xt h0 h1 ha hu hd hn hz hn2 hti
  ·intro fn f t s bm bc bb q pv iv xv xt h0 h1 hfd ht hs hn hn2 hti hof hdm
   exact L2 p inp most n hI hg hp hi hmost fn f t s bm bc bb q pv iv xv xt h0 h1 hfd ht hs hn hn2 hti hof hdm
theorem haH_2 {h : Int} (e : haH h = 2) : h = 2 := by unfold haH at e; split at e <;> omega
theorem haH_3 {h : Int} (e : haH h = 3) : h = 3 := by unfold haH at e; split at e <;> omega
theorem PZ {h : Int} (h1 : 1 ≤ h) (a : ¬ haH h = 1) (b : ¬ haH h = 2) (c : ¬ haH h = 3) : 4 ≤ h ∧ coH h = h := by
 unfold haH at a b c
 by_cases h4 : 4 ≤ h
 ·exact ⟨h4, by unfold coH; rw [if_pos h4]⟩
 ·rw [if_neg h4] at a b c; omega
theorem K5 (p : Prog) (inp : List Int) (most fuel : Nat) (hg : Au p = true) (hp : p.ok 1048576) (hi : inp.length ≤ 1048576) (hmost : most ≤ 1048576) (hfu : fuel ≤ 1048576) : Fun Try.prog 38 [.t p.tt, .t (T.ints inp), .t (.int most), .t (.int fuel)] (A5 [.agg [.t (.int (Co p inp most fuel).1), .t (.int (PP (Co p inp most fuel).1 (Co p inp most fuel).2.1)), .own (T.ints (Co p inp most fuel).2.2.2.trace), .t (.int (Co p inp most fuel).2.2.2.used)]]) := by
 have hto := Pq (inp := inp) hg most fuel
 have hC := (levI (inp := inp) hg hp hi hmost fuel).1
 have hm := Bw hg
 obtain ⟨R, hR⟩ : ∃ R, R = Co p inp most fuel := ⟨_, rfl⟩
 rw [← hR] at hto ⊢
 have hr1 := hto.h1
 refine Fun.begin tys Try.func38 Z Z (N := 56) [(0, .t p.tt), (1, .t (T.ints inp)), (2, .t (.int most)), (3, .t (.int fuel))] Z Z (fun w0 G F0 => ?_);refine sG (Af Z Z (AA Z) Z Z (nZ Z (AH tys Z Z (AA Z) Z Z Z (nZ Z (nA (eZ Z ?_))))))
 try refine AC (Le.freeze (u := 12) rfl) ?_
 refine nZ Z (eK 3 Z (Li (pl := [(0, 1), (1, 1), (2, 1), (3, 1), (4, 1), (5, 4)]) tys Z Z (AA Z) Z Z Z (by kernel_rfl) Z Z Z Z Z (Af Z Z (AA Z) Z Z (nZ Z (eZ Z (kZ [8,9] Z (nB (sQ ?_))))))));refine Iy (u := 17) (j := 0) 99 Z Z Z (fun pv => ?_);refine nY Z ?_;refine Iy (u := 17) (j := 1) 98 Z Z Z (fun iv => ?_);refine nY Z (AU (Le.roJoin 99 98 Z Z) (nY Z (AU (Le.nilBox (u := 17) (j := 7) 1 Z Z) (nY Z ?_))));refine QW (u := 17) (pid := 1017) Z Z (fun bm => ?_);refine nY Z (AU (Le.noBox 150 (gC 0 [] [] 0 0 0 false (.pointer none)) Z) (nY Z ?_))
 have hCa := hC 0 [] none ⟨0, fuel, 0, []⟩ bm 0 ⟨0, [], [], 0, .pointer none⟩ pv iv [] [] (by omega) hm.1 (by rw [hm.2]; rfl) (RO _) (RO _) (Qu _) hfu (by simpa using hfu)
 rw [show (lev p inp most fuel).call 0 [] none ⟨0, fuel, 0, []⟩ = R from hR.symm] at hCa;refine rG (eZ Z (AC (Le.close (u := 17) 1017 Z Z Z) (nZ Z ?_)));refine cP [150,17] (hm := (hCa)) (k := ?_);refine nZ Z (AC (Le.open (u := 17) 1017 Z Z Z Z) (nZ Z (eZ Z (WO_evF tys Z Z (AA Z) (d := .t _) Z (nZ Z (WO_evF tys Z Z (AA Z) (d := .t _) Z (nZ Z (eK 2 Z (nB (sQ (sQ (kY [8,9,10,11] Z (rG (eZ Z (nB ?_)))))))))))))));refine AF (sG (eK 2 Z (nB ?_)));refine AD Z (fun h1 => ?_) (fun h1 => ?_)
 ·
  simp only [HS] at h1;refine rG (eK 3 Z (AK rfl Z (AA Z) Z Z Z (eK 2 Z (kZ [8,9,27,28,31] Z (sT Z (nZ Z (AK rfl Z (AA Z) Z Z Z (eK 2 Z (sT Z (nZ Z (oN (bN (tN (sQ (AU (Le.adoptBox (u := 17) (j := 7) (id := 195) Z Z Z) ?_)))))))))))))));refine nY Z (rG (eZ Z (AK rfl Z (AA Z) Z Z Z (eK 2 Z ?_))))
  try refine AC (Le.freeze (u := 55) rfl) ?_
  refine nZ Z (kZ [8,55] Z (sT Z (nZ Z (AC (Le.gatherBox (u := 8) (j := 2) (id := 195) Z Z Z (by simp) Z) ?_))));refine nZ Z (nZ Z (nB (rT (eR ?_))))
  ·first
   | (have e := P5 (by assumption); exact retO e.symm (by rw [PP, if_pos e]) (by simp [Qi]) rfl)
 simp only [HS] at h1;refine sG (eK 2 Z (nB ?_));refine AD Z (fun h2 => ?_) (fun h2 => ?_)
 ·
  simp only [HS] at h2;refine rG (eK 3 Z (AK rfl Z (AA Z) Z Z Z (kZ [8,9,38,39,40] Z (eK 2 Z (sT Z (nZ Z (AK rfl Z (AA Z) Z Z Z (eK 2 Z (sT Z (nZ Z (oN (bN (tN (sQ (AU (Le.adoptBox (u := 17) (j := 7) (id := 195) Z Z Z) ?_)))))))))))))));refine nY Z (kY [8,9] Z (rG (eZ Z (AK rfl Z (AA Z) Z Z Z (eK 2 Z ?_)))))
  try refine AC (Le.freeze (u := 55) rfl) ?_
  refine nZ Z (sT Z (nZ Z (AC (Le.gatherBox (u := 8) (j := 2) (id := 195) Z Z Z (by simp) Z) ?_)));refine nZ Z (nZ Z (nB (rT (eR ?_))))
  ·first
   | (have e := haH_2 (by assumption); exact retO e.symm (by rw [PP, if_neg (by omega), if_pos e]) (by simp [Qi]) rfl)
 simp only [HS] at h2;refine sG (eK 2 Z (nB ?_));refine AD Z (fun h3 => ?_) (fun h3 => ?_)
 ·
  simp only [HS] at h3;refine kY [8,9] Z (rG (eZ Z (AK rfl Z (AA Z) Z Z Z (eK 2 Z (sT Z (nZ Z (oN (bN (tN (sQ (AU (Le.adoptBox (u := 17) (j := 7) (id := 195) Z Z Z) (nY Z (rG (eZ Z (AK rfl Z (AA Z) Z Z Z ?_)))))))))))))));refine eK 2 Z ?_
  try refine AC (Le.freeze (u := 55) rfl) ?_
  refine nZ Z (kZ [8,55] Z (sT Z (nZ Z (AC (Le.gatherBox (u := 8) (j := 2) (id := 195) Z Z Z (by simp) Z) ?_))));refine nZ Z (nZ Z (nB (rT (eR ?_))))
  ·first
   | (have e := haH_3 (by assumption); exact retO e.symm (by rw [PP, if_neg (by omega), if_neg (by omega)]) (by simp [Qi]) rfl)
 simp only [HS] at h3;refine AE (bN (tN (sQ (AU (Le.adoptBox (u := 17) (j := 7) (id := 195) Z Z Z) (nY Z (kY [8,9] Z (rG (eZ Z (AK rfl Z (AA Z) Z Z Z (eK 2 Z ?_))))))))))
 try refine AC (Le.freeze (u := 55) rfl) ?_
 refine nZ Z (sT Z (nZ Z (AC (Le.gatherBox (u := 8) (j := 2) (id := 195) Z Z Z (by simp) Z) ?_)));refine nZ Z (nZ Z (nB (rT (eR ?_))))
 ·first
  | exact retO (PZ hr1 (by assumption) (by assumption) (by assumption)).2 (by have h := (PZ hr1 (by assumption) (by assumption) (by assumption)).1; rw [PP, if_neg (by omega), if_neg (by omega)]) (by simp [Qi]) rfl
theorem Jl (n : Int) : Fun Try.prog 63 [.t (.int n)] (A5 [.t (.bool (!decide (-2147483648 ≤ n ∧ n ≤ 2147483647)))]) := by
 refine Fun.begin tys Try.func63 Z Z (N := 6) [(0, .t (.int n))] Z Z (fun w0 G F0 => ?_);refine sG (eZ Z (nA (eZ Z (AQ ?_))));refine ⟨_, Fz _, rfl, ?_⟩;refine eK 2 Z (nB (rT (eR ?_)))
 ·rfl
theorem CJ {l : List Int} : (l.any fun n => !decide (-2147483648 ≤ n ∧ n ≤ 2147483647)) = !CK l (-2147483648) 2147483647 := by
 rw [CK, List.not_all_eq_any_not]
theorem Lc (p : Prog) (inp : List Int) (most : Int) (hp : p.ok 1048576) (hi : inp.length ≤ 1048576) : Fun Try.prog 36 [.t p.tt, .t (T.ints inp), .t (.int most)] (A5 [.t (.bool (Cg p inp most))]) := by
 refine Fun.begin tys Try.func36 Z Z (N := 23) [(0, .t p.tt), (1, .t (T.ints inp)), (2, .t (.int most))] Z Z (fun w0 G F0 => ?_);refine sG (Af Z Z (AA Z) Z Z (nZ Z (eZ Z (nA (eZ Z ?_)))))
 try refine AC (Le.freeze (u := 7) rfl) ?_
 refine nZ Z (AQ ?_);refine ⟨_, Dm p hp, rfl, ?_⟩;refine eZ Z ?_;refine gB (fun h1 => ?_) (fun h1 => ?_)
 ·
  simp only [HS] at h1;refine xK 4 Z (kZ [1,2,6,14] Z (xK 9 Z (kZ [6] Z (nB (rT (eR ?_))))))
  ·exact As (by first | grind [Cg] | (rw [CJ]; grind [Cg]))
 refine eZ Z (gY Z (evE ?_));refine xK 2 Z (kZ [1,2,6,13] Z (eZ Z ?_));refine gB (fun h2 => ?_) (fun h2 => ?_)
 ·
  simp only [HS] at h2;refine xK 8 Z (kZ [6] Z (nB (rT (eR ?_))))
  ·exact As (by first | grind [Cg] | (rw [CJ]; grind [Cg]))
 simp only [HS] at h2;refine eZ Z (gY Z (AQ ?_));refine ⟨_, Al _ _ _, rfl, ?_⟩;refine eK 2 Z ?_;refine gB (fun h3 => ?_) (fun h3 => ?_)
 ·
  simp only [HS] at h3;refine xK 4 Z (kZ [6] Z (nB (rT (eR ?_))))
  ·exact As (by first | grind [Cg] | (rw [CJ]; grind [Cg]))
 simp only [HS] at h3;refine eZ Z (gY Z (AQ ?_));refine ⟨_, FQ inp (fun n => !decide (-2147483648 ≤ n ∧ n ≤ 2147483647)) _ [] Z (by omega) (fun x _ => Jl x), rfl, ?_⟩;refine xK 2 Z (kZ [6,22] Z (eZ Z (nB (rT (eR ?_)))))
 ·exact As (by first | grind [Cg] | (rw [CJ]; grind [Cg]))
end Go.Proofs.Ytddfnpiikkilhaa
