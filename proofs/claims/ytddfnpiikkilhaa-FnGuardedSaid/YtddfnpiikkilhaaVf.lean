/- Walks and laws of the claim. -/
import Derived.Test.YtddfnpiikkilhaaGm
set_option linter.unusedVariables false
set_option linter.unusedSimpArgs false
set_option maxRecDepth 10000
set_option maxHeartbeats 4000000
namespace Go.Proofs.Ytddfnpiikkilhaa
open Go.Eng
open Go.Eng
theorem Kf {N : Int} {kids : Int → List Int × List Int} (hd : Ba N kids) (hk : ∀ n, kids n = ([], [])) : ∀ {b : List Int}, inB N 0 b → ord N kids b = b
 | [], _ => DT
 | n :: b, hb => by
  rw [Di hd hb, hk n, DT, Kf hd hk (fun x hx => hb x (Q6 _ hx))];rfl
theorem Ih {f : Func} {ps : List Int} (hg : BM ps f = true) (hk : ∀ t, t ∈ f.stmts → Bp t = 0) : f.body = DM f.stmts.length := by
 obtain ⟨hd, hb, ho⟩ := Em (DE hg)
 rw [← ho];refine (Kf hd (fun n => ?_) hb).symm;unfold kids
 cases h : f.stmts[n.toNat]? with
 | none => rfl
 | some t =>
  have := hk t (RE h)
  unfold Bp at this
  have h1 : t.thn = [] := RD (by omega)
  have h2 : t.els = [] := RD (by omega)
  show (t.thn, t.els) = _;rw [h1, h2]
theorem stmtG_lens {vars : Int} {ps : List Int} {t : Stmt} (h : Av vars ps t = true) (hk : t.kind = 2 ∨ t.kind = 3 ∨ t.kind = 9) : Bp t = 0 := by
 unfold Av at h;rw [Qf] at h
 have h1 := h.1
 unfold Aa at h1
 rcases hk with hk | hk | hk <;> simp [hk] at h1 <;> omega
structure Gd (q : Prog) (k : Int) (t0 t1 u : Stmt) (x y : Tok) : Prop where
 s0 : (funcAt q 0).stmts = [t0, t1]
 b0 : (funcAt q 0).body = [0, 1]
 k0 : t0.kind = 3
 n0 : t0.n = k
 k1 : t1.kind = 9
 e1 : t1.ex = [x]
 o1 : x.op = 11
 s1 : (funcAt q k).stmts = [u]
 b1 : (funcAt q k).body = [0]
 k2 : u.kind = 2
 e2 : u.ex = [y]
 o2 : y.op = 10
theorem KF {α : Type} {l : List α} (h : l.length = 1) : ∃ x, l = [x] := by
 cases l with
 | nil => simp at h
 | cons x l => cases l with
  | nil => exact ⟨x, rfl⟩
  | cons y l => simp at h
theorem two_of {α : Type} {l : List α} (h : l.length = 2) : ∃ x y, l = [x, y] := by
 cases l with
 | nil => simp at h
 | cons x l => obtain ⟨y, rfl⟩ := KF (by simpa using h : l.length = 1); exact ⟨x, y, rfl⟩
theorem gd_of {q : Prog} (h : Ap q = true) : Au q = true ∧ ∃ k t0 t1 u x y, Gd q k t0 t1 u x y := by
 unfold Ap at h;simp only [Qf] at h
 obtain ⟨hg, h1, h2⟩ := h
 refine ⟨hg, ?_⟩
 have hgl := B9 hg
 unfold Bg at h1;simp only [Qf, decide_eq_true_eq] at h1
 obtain ⟨a1, a2, a3, a4, a5⟩ := h1
 obtain ⟨t0, t1, ht⟩ := two_of (l := (funcAt q 0).stmts) (by omega)
 have g0 := IX hg (n := 0) (by omega) (by omega)
 have e0 : stmtAt (funcAt q 0) 0 = t0 := by rw [stmtAt, ht]; rfl
 have e1 : stmtAt (funcAt q 0) 1 = t1 := by rw [stmtAt, ht]; rfl
 rw [e0] at a2 h2;rw [e1] at a3 a4 a5
 have m0 : t0 ∈ (funcAt q 0).stmts := by rw [ht]; simp
 have m1 : t1 ∈ (funcAt q 0).stmts := by rw [ht]; simp
 have hst : ∀ t, t ∈ (funcAt q 0).stmts → Av (funcAt q 0).vars (paramsL q) t = true := fun t hm => by
  obtain ⟨i, hi, rfl⟩ := RC hm
  exact DF g0 hi
 have hk0 := DP (hst t0 m0) a2
 rw [Ax] at hk0
 have gk := IX hg hk0.1 hk0.2.1
 unfold Bf at h2;simp only [Qf, decide_eq_true_eq] at h2
 obtain ⟨c1, c2, c3, c4⟩ := h2
 obtain ⟨u, hu⟩ := KF (l := (funcAt q t0.n).stmts) (by omega)
 have eu : stmtAt (funcAt q t0.n) 0 = u := by rw [stmtAt, hu]; rfl
 rw [eu] at c2 c3 c4
 have mu : u ∈ (funcAt q t0.n).stmts := by rw [hu]; simp
 have gu : Av (funcAt q t0.n).vars (paramsL q) u = true := by
  obtain ⟨i, hi, he⟩ := RC mu
  have := DF gk hi
  rw [he] at this; exact this
 obtain ⟨x, hx⟩ := KF (l := t1.ex) (by omega)
 obtain ⟨y, hy⟩ := KF (l := u.ex) (by omega)
 have hb0 := Ih g0 (fun t hm => by
  have hs := hst t hm
  rw [ht] at hm
  rcases Qp.1 hm with rfl | hm
  ·exact stmtG_lens hs (.inr (.inl a2))
  ·rw [Q5] at hm; subst hm; exact stmtG_lens hs (.inr (.inr a3)))
 have hb1 := Ih gk (fun t hm => by
  rw [hu, Q5] at hm; subst hm; exact stmtG_lens gu (.inl c2))
 rw [ht] at hb0;rw [hu] at hb1;refine ⟨t0.n, t0, t1, u, x, y, ht, hb0, a2, rfl, a3, hx, ?_, hu, hb1, c2, hy, ?_⟩
 ·rw [hx] at a5; exact a5
 ·rw [hy] at c4; exact c4
section
variable {q : Prog} {k : Int} {t0 t1 u : Stmt} {x y : Tok} {inp : List Int} {most : Nat}
theorem Ia (h : Gd q k t0 t1 u x y) : stmtAt (funcAt q 0) 0 = t0 ∧ stmtAt (funcAt q 0) 1 = t1 ∧ stmtAt (funcAt q k) 0 = u := by
 unfold stmtAt;rw [h.s0, h.s1];exact ⟨rfl, rfl, rfl⟩
theorem gd_hand (h : Gd q k t0 t1 u x y) (N : Nat) (b : By) (m : Ms) :
  (4 ≤ ((lev q inp most N).call k [] (some b) m).1 ∧ (N < 2 ∨ m.fuel < 2 ∨ m.deep = most)) ∨
  (lev q inp most N).call k [] (some b) m = (1, 0, (Ep (some b)).2, ⟨m.used, m.fuel - 2, m.deep, m.trace ++ [(Ep (some b)).1]⟩) := by
 cases N with
 | zero => left; exact ⟨by show (4 : Int) ≤ 5; omega, by omega⟩
 | succ N =>
  show (4 ≤ (Ck (lev q inp most N) q most k [] (some b) m).1 ∧ (N + 1 < 2 ∨ m.fuel < 2 ∨ m.deep = most)) ∨ Ck (lev q inp most N) q most k [] (some b) m = _;unfold Ck
  by_cases hz : m.fuel = 0
  ·left; rw [if_pos hz]; exact ⟨by show (4 : Int) ≤ 5; omega, by omega⟩
  rw [if_neg hz]
  by_cases hd : m.deep = most
  ·left; rw [if_pos hd]; exact ⟨by show (4 : Int) ≤ 4; omega, by omega⟩
  rw [if_neg hd];dsimp only;rw [h.b1, blockS, (Ia h).2.2]
  cases N with
  | zero => left; exact ⟨by show (4 : Int) ≤ 5; omega, by omega⟩
  | succ N =>
   have e : (lev q inp most (N + 1)).stmt (funcAt q k) u (startS (funcAt q k) [] (some b) m) = Bj (lev q inp most N) (paramsL q) inp (funcAt q k) u (startS (funcAt q k) [] (some b) m) := rfl
   rw [e]
   by_cases hf : m.fuel - 1 = 0
   ·left
    have e2 : Bj (lev q inp most N) (paramsL q) inp (funcAt q k) u (startS (funcAt q k) [] (some b) m) = (5, 0, startS (funcAt q k) [] (some b) m) := by
     unfold Bj;rw [if_pos (show (startS (funcAt q k) [] (some b) m).m.fuel = 0 from hf)]
    rw [e2];exact ⟨by show (4 : Int) ≤ 5; omega, by omega⟩
   ·right
    have e2 : Bj (lev q inp most N) (paramsL q) inp (funcAt q k) u (startS (funcAt q k) [] (some b) m) = (0, 0, ⟨⟨m.used, m.fuel - 1 - 1, m.deep + 1, m.trace ++ [(Ep (some b)).1]⟩, OB (funcAt q k).vars.toNat [], [], 0, (Ep (some b)).2⟩) := by
     unfold Bj;rw [if_neg (show ¬ (startS (funcAt q k) [] (some b) m).m.fuel = 0 from hf), if_neg (by rw [h.k2]; decide), if_neg (by rw [h.k2]; decide), h.e2, exprS]
     have e3 : ∀ s : Sx, tokX (lev q inp most N).cal (paramsL q) inp y [] s = (0, 0, [(Ep s.by').1], { s with by' := (Ep s.by').2 }) := fun s => by
      unfold tokX;rw [h.o2];rfl
     rw [e3];dsimp only;rw [if_pos rfl, exprS];dsimp only;rw [if_pos rfl];unfold doS;rw [h.k2];rfl
    rw [e2];dsimp only;rw [if_pos rfl, blockS];dsimp only;rw [if_neg (by decide)];show (if 4 ≤ (offR _ [] _ _).1 then _ else _) = _;rw [offR];dsimp only;rw [if_neg (by decide)];show (1, _, _, (⟨m.used, m.fuel - 1 - 1, m.deep + 1 - 1, m.trace ++ [(Ep (some b)).1]⟩ : Ms)) = _;rw [show m.fuel - 1 - 1 = m.fuel - 2 from by omega, show m.deep + 1 - 1 = m.deep from by omega];rfl
theorem OK (b : By) (h4 : b.how < 4) (h1 : 1 ≤ b.how) : ∃ b', (Ep (some b)).2 = some b' ∧ ¬ b'.how = 2 ∧ b'.how < 4 := by
 unfold Ep;dsimp only;split
 ·refine ⟨_, rfl, ?_, ?_⟩
  ·dsimp only; split <;> omega
  ·dsimp only; split <;> omega
 ·exact ⟨b, rfl, by assumption, h4⟩
theorem gd_off (h : Gd q k t0 t1 u x y) (N : Nat) (s : Sx) (hs : s.off = []) (r : Int × Int × Sx) (hr : r = blockS ((lev q inp most N).stmt (funcAt q 0)) (funcAt q 0) [0, 1] s) (h4 : r.1 < 4) : r.2.2.off = [k] := by
 rw [blockS, (Ia h).1, blockS, (Ia h).2.1] at hr
 cases N with
 | zero =>
  exfalso
  rw [hr] at h4
  revert h4
  show ¬ ((5 : Int) < 4);omega
 | succ N =>
  have e : ∀ t s, (lev q inp most (N + 1)).stmt (funcAt q 0) t s = Bj (lev q inp most N) (paramsL q) inp (funcAt q 0) t s := fun _ _ => rfl
  rw [e] at hr
  by_cases hf : s.m.fuel = 0
  ·exfalso
   rw [show Bj (lev q inp most N) (paramsL q) inp (funcAt q 0) t0 s = (5, 0, s) by unfold Bj; rw [if_pos hf]] at hr;dsimp only at hr;rw [if_neg (by decide)] at hr;rw [hr] at h4
   revert h4
   show ¬ ((5 : Int) < 4);omega
  rw [show Bj (lev q inp most N) (paramsL q) inp (funcAt q 0) t0 s = (0, 0, { s with m := Ay s.m, off := s.off ++ [t0.n] }) by unfold Bj; rw [if_neg hf, if_pos h.k0]] at hr;dsimp only at hr;rw [if_pos rfl, e, hs, h.n0] at hr
  have hq : ∀ s2 : Sx, (Bj (lev q inp most N) (paramsL q) inp (funcAt q 0) t1 s2).2.2.off = s2.off := fun s2 => by
   unfold Bj
   by_cases hz : s2.m.fuel = 0
   ·rw [if_pos hz]
   rw [if_neg hz, if_neg (by rw [h.k1]; decide), if_neg (by rw [h.k1]; decide), h.e1, exprS];dsimp only
   have e3 : ∀ s : Sx, (tokX (lev q inp most N).cal (paramsL q) inp x [] s).2.2.2.off = s.off := fun s => by
    unfold tokX;rw [h.o1];dsimp only;rw [if_neg (by decide), if_neg (by decide), if_neg (by decide), if_neg (by decide), if_pos rfl]
    split <;> rfl
   have e4 := e3 { s2 with m := Ay s2.m }
   generalize tokX (lev q inp most N).cal (paramsL q) inp x [] { s2 with m := Ay s2.m } = o at e4
   obtain ⟨a, b, c, d⟩ := o
   dsimp only at e4 ⊢;split
   ·rw [exprS]
    dsimp only;rw [if_pos rfl];unfold doS;rw [h.k1];exact e4
   ·rename_i hne
    exact e4
  rw [hr];generalize hg : ({ m := Ay s.m, vars := s.vars, off := [] ++ [k], res := s.res, by' := s.by' } : Sx) = s3
  have e5 := hq s3
  split
  ·rw [blockS]
   rw [e5, ← hg]; rfl
  ·rw [e5, ← hg]; rfl
theorem gd_offR (h : Gd q k t0 t1 u x y) (N : Nat) (b : By) (m : Ms) :
  (4 ≤ (offR (fun k b m => (lev q inp most N).call k [] b m) [k] b m).1 ∧ (N < 2 ∨ m.fuel < 2 ∨ m.deep = most)) ∨
  offR (fun k b m => (lev q inp most N).call k [] b m) [k] b m = (0, (Ep (some b)).2.getD b, ⟨m.used, m.fuel - 2, m.deep, m.trace ++ [(Ep (some b)).1]⟩) := by
 rw [offR]
 rcases gd_hand (inp := inp) (most := most) h N b m with hh | hh
 ·left
  rw [if_pos hh.1];exact hh
 ·right
  rw [hh];rfl
theorem gd_no (h : Gd q k t0 t1 u x y) (hg : Au q = true) (fuel : Nat) : ¬ (Co q inp most fuel).1 = 2 := by
 unfold Co
 cases fuel with
 | zero => show ¬ (5 : Int) = 2; omega
 | succ N =>
  have hgl := B9 hg
  have hm := Bw hg
  show ¬ (Ck (lev q inp most N) q most 0 [] none ⟨0, N + 1, 0, []⟩).1 = 2;unfold Ck;rw [if_neg (show ¬ (N + 1 = 0) by omega)]
  by_cases hd : (0 : Nat) = most
  ·rw [if_pos hd]; show ¬ (4 : Int) = 2; omega
  rw [if_neg hd];dsimp only;rw [h.b0]
  have hf0 := Bz (p := q) (n := 0) (by omega) (by omega)
  have hgv := Cv hg hf0
  have hso := Fd (p := q) (inp := inp) (f := funcAt q 0) (args := []) (b := none) (m := ⟨0, N + 1, 0, []⟩) (by simp) (RO _)
  have hbo := CB ((E7 hg most N).stmt _ hf0) (b := [0, 1]) (by rw [← h.b0]; exact FX hgv.2.2.2.2.1) hso
  have ho := gd_off (inp := inp) (most := most) h N (startS (funcAt q 0) [] none ⟨0, N + 1, 0, []⟩) rfl _ rfl
  generalize blockS ((lev q inp most N).stmt (funcAt q 0)) (funcAt q 0) [0, 1] (startS (funcAt q 0) [] none ⟨0, N + 1, 0, []⟩) = r at ho hbo
  obtain ⟨c, v, s⟩ := r
  dsimp only at ho hbo ⊢
  by_cases h4 : 4 ≤ c
  ·rw [if_pos h4]; show ¬ c = 2; omega
  rw [if_neg h4]
  have ho := ho (by omega)
  rw [ho]
  have he := Je (v := v) hbo.h0 (show c < 4 by omega)
  rw [show [k].reverse = [k] from rfl]
  rcases gd_offR (inp := inp) (most := most) h N (endS c v) s.m with hh | hh
  ·rw [if_pos hh.1]
   have := hh.1
   dsimp only;omega
  ·rw [hh]
   obtain ⟨b', h1, h2, h3⟩ := OK (endS c v) he.2 he.1
   rw [h1, if_neg (show ¬ (4 : Int) ≤ 0 by omega)];exact h2
end
theorem LS {N : Int} {ps : List Int} (h0 : 0 ≤ N) (h1 : N + 1 < ps.length) (h2 : atI ps (N + 1) = 0) (h3 : atI ps 1 = 0) : BM ps (CT N) = true := by
 have hs : Ae (CT N) = true := rfl
 unfold BM;rw [hs, Bool.true_and];show (Av 0 ps ⟨3, N + 1, [], [], []⟩ && (Av 0 ps ⟨9, 0, [⟨11, 1⟩], [], []⟩ && true)) = true
 have e1 : Av 0 ps ⟨3, N + 1, [], [], []⟩ = true := by
  simp [Av, Aa, Bp, h2]
  omega
 have e2 : Av 0 ps ⟨9, 0, [⟨11, 1⟩], [], []⟩ = true := by
  have : CO 0 ps [⟨11, 1⟩] 0 0 = some (1, 1) := by
   rw [CO]
   have k1 : knownT 0 ps.length ⟨11, 1⟩ = true := by simp [knownT]; omega
   have k2 : Ah ps ⟨11, 1⟩ = 0 := by simp [Ah, h3]
   rw [k1, k2]
   simp [CO]
   rfl
  simp [Av, Aa, Bp, Bx, this]
 rw [e1, e2];rfl
theorem last_good {ps : List Int} : BM ps lastF = true := by
 have hs : Ae lastF = true := rfl
 unfold BM;rw [hs, Bool.true_and];show (Av 0 ps ⟨2, 0, [⟨10, 0⟩], [], []⟩ && true) = true
 have : CO 0 ps [⟨10, 0⟩] 0 0 = some (1, 1) := by
  rw [CO]
  have k1 : knownT 0 ps.length ⟨10, 0⟩ = true := by simp [knownT]
  have k2 : Ah ps ⟨10, 0⟩ = 0 := by simp [Ah]
  rw [k1, k2]
  simp [CO]
  rfl
 simp [Av, Aa, Bp, Bx, this]
section
variable {p : Prog}
theorem Nx {n : Int} (h0 : 0 ≤ n) (h1 : n < 3) : atI [1, 2, 3] n = n + 1 := by
 have : n = 0 ∨ n = 1 ∨ n = 2 := by omega
 rcases this with rfl | rfl | rfl <;> rfl
theorem EV (h : BA p = true) : Au p = true ∧ Au (AN p) = true ∧ Ren p (AN p) [1, 2, 3] (fun n => 0 ≤ n ∧ n < p.funcs.length) ∧ funcAt (AN p) 0 = CT p.funcs.length ∧ funcAt (AN p) (p.funcs.length + 1) = lastF := by
 have e : (AN p).funcs = CT p.funcs.length :: (p.funcs.map (movF [1, 2, 3]) ++ [lastF]) := by rw [AN, if_pos h]
 unfold BA at h;simp only [Qf, decide_eq_true_eq] at h
 obtain ⟨hg, h3⟩ := h
 have hgl := B9 hg
 have hlen : (AN p).funcs.length = p.funcs.length + 2 := by rw [e]; simp
 have hF : funcAt (AN p) 0 = CT p.funcs.length := by unfold funcAt; rw [e]; rfl
 have hL : funcAt (AN p) (p.funcs.length + 1) = lastF := by
  unfold funcAt;rw [e, show ((p.funcs.length : Int) + 1).toNat = p.funcs.length + 1 by omega, List.getElem?_cons_succ, List.getElem?_append_right (by rw [Qh]; exact Qu _), Qh, Nat.sub_self];rfl
 have hfn : ∀ n : Int, 0 ≤ n → n < p.funcs.length → funcAt (AN p) (n + 1) = movF [1, 2, 3] (funcAt p n) := fun n a b => by
  unfold funcAt;rw [e, show (n + 1).toNat = n.toNat + 1 by omega, List.getElem?_cons_succ, List.getElem?_append_left (by rw [Qh]; omega), List.getElem?_map, List.getElem?_eq_getElem (by omega)];rfl
 have hps : ∀ n : Int, 0 ≤ n → n < p.funcs.length → atI (paramsL (AN p)) (atI [1, 2, 3] n) = atI (paramsL p) n := fun n a b => by
  rw [Nx a (by omega), BG (by omega) (by rw [hlen]; omega), BG a b, hfn n a b];rfl
 have hnm : ∀ n : Int, 0 ≤ n → n < p.funcs.length → PG (paramsL p) (paramsL (AN p)) [1, 2, 3] n := fun n a b => by
  refine ⟨by rw [Nx a (by omega)]; omega, by rw [Nx a (by omega), Ax, hlen]; omega, hps n a b⟩
 have hp0 : atI (paramsL (AN p)) 0 = 0 := by rw [BG (by omega) (by rw [hlen]; omega), hF]; rfl
 have hp1 : atI (paramsL (AN p)) 1 = 0 := by
  have := hps 0 (by omega) (by omega)
  rw [show atI [1, 2, 3] 0 = 1 from rfl] at this;rw [this]; exact (Bw hg).2
 have hpl : atI (paramsL (AN p)) (p.funcs.length + 1) = 0 := by rw [BG (by omega) (by rw [hlen]; omega), hL]; rfl
 refine ⟨hg, Oj (by omega) (by omega) hp0 ?_, ⟨fun n hn => by rw [Nx hn.1 (by omega)]; exact hfn n hn.1 hn.2, fun n hn => hps n hn.1 hn.2, fun n hn t ht x hx => MF hg n x (Po ht hx)⟩, hF, hL⟩;intro f hf;rw [e] at hf
 rcases Qp.1 hf with rfl | hf
 ·exact LS (by omega) (by rw [Ax, hlen]; omega) hpl hp1
 rcases Qj.1 hf with hf | hf
 ·obtain ⟨g, hgm, rfl⟩ := RA.1 hf
  obtain ⟨i, hi, rfl⟩ := RC hgm
  refine Mu (ps := paramsL p) (fun x hx => ?_) (CG hg hi)
  have hx2 : x ∈ seqP p i := by
   have : funcAt p (i : Int) = p.funcs[i] := by rw [← AL (by simpa using hi)]; simp
   rw [seqP, this]; exact hx
  have := MF hg i x hx2
  exact hnm x this.1 this.2
 ·rw [Q5] at hf; subst hf; exact last_good
theorem Oi (h : BA p = true) : Ap (AN p) = true := by
 obtain ⟨hg, hgg, hr, hF, hL⟩ := EV h
 unfold Ap;rw [hgg, hF, Bool.true_and, show (stmtAt (CT p.funcs.length) 0).n = (p.funcs.length : Int) + 1 from rfl, hL];rfl
theorem KZ (h : BA p = true) : Gd (AN p) (p.funcs.length + 1) ⟨3, p.funcs.length + 1, [], [], []⟩ ⟨9, 0, [⟨11, 1⟩], [], []⟩ ⟨2, 0, [⟨10, 0⟩], [], []⟩ ⟨11, 1⟩ ⟨10, 0⟩ := by
 obtain ⟨hg, hgg, hr, hF, hL⟩ := EV h
 exact ⟨by rw [hF]; rfl, by rw [hF]; rfl, rfl, rfl, rfl, rfl, rfl, by rw [hL]; rfl, by rw [hL]; rfl, rfl, rfl, rfl⟩
theorem Jc (h : BA p = true) {inp : List Int} {most N n f K : Nat} (hn : n ≤ N) (hK : 2 ≤ K) (hN : 1 ≤ N) (hm : most ≠ 0) (hc : ((lev p inp most n).call 0 [] none ⟨0, f, 0, []⟩).1 < 4) :
  ((lev (AN p) inp (most + 1) (N + 2)).call 0 [] none ⟨0, f + K + 3, 0, []⟩).1 = (if ((lev p inp most n).call 0 [] none ⟨0, f, 0, []⟩).1 = 3 then 3 else 1) ∧
  ((lev (AN p) inp (most + 1) (N + 2)).call 0 [] none ⟨0, f + K + 3, 0, []⟩).2.2.2.trace = ((lev p inp most n).call 0 [] none ⟨0, f, 0, []⟩).2.2.2.trace ++ [if ((lev p inp most n).call 0 [] none ⟨0, f, 0, []⟩).1 = 2 then ((lev p inp most n).call 0 [] none ⟨0, f, 0, []⟩).2.1 else 0] := by
 obtain ⟨hg, hgg, hr, hF, hL⟩ := EV h
 have hd := KZ h
 have hgl := B9 hg
 have hmain := Bw hg
 have hp1 : atI (paramsL (AN p)) 1 = 0 := by
  have := hr.ps 0 ⟨by omega, by omega⟩
  rw [show atI [1, 2, 3] 0 = 1 from rfl] at this;rw [this]; exact hmain.2
 have hs := (Md (inp := inp) (most := most) (K := K) (e := 1) (full := False) hr (fun h => h.elim) n N hn (fun h => h.elim)).call 0 ⟨by omega, by omega⟩ [] none ⟨0, f, 0, []⟩
 have hto := (E7 (inp := inp) hg most n).call 0 [] none ⟨0, f, 0, []⟩ (by omega) (by omega) (by rw [hmain.2]; rfl) (RO _)
 rw [show atI [1, 2, 3] 0 = 1 from rfl, show upM K 1 ⟨0, f, 0, []⟩ = ⟨0, f + K, 1, []⟩ from rfl] at hs;generalize (lev p inp most n).call 0 [] none ⟨0, f, 0, []⟩ = a at hs hto hc ⊢
 obtain ⟨c, v, b0, m'⟩ := a
 obtain ⟨hs1, hs2⟩ := hs
 have h1 := hto.h1
 dsimp only at hs1 hs2 h1 hc ⊢
 have hs1 := hs1 (.inl hc)
 have hs2 := hs2 hc
 -- the block
 have hblk : blockS ((lev (AN p) inp (most + 1) (N + 1)).stmt (funcAt (AN p) 0)) (funcAt (AN p) 0) [0, 1] (startS (funcAt (AN p) 0) [] none ⟨0, f + K + 3, 0, []⟩) = (if c = 1 then 0 else c, if c = 1 then 0 else v, ⟨upM K 1 m', OB (funcAt (AN p) 0).vars.toNat [], [(p.funcs.length : Int) + 1], 0, none⟩) := by
  have e : ∀ t s, (lev (AN p) inp (most + 1) (N + 1)).stmt (funcAt (AN p) 0) t s = Bj (lev (AN p) inp (most + 1) N) (paramsL (AN p)) inp (funcAt (AN p) 0) t s := fun _ _ => rfl
  rw [blockS, (Ia hd).1, e]
  have e0 : Bj (lev (AN p) inp (most + 1) N) (paramsL (AN p)) inp (funcAt (AN p) 0) ⟨3, p.funcs.length + 1, [], [], []⟩ (startS (funcAt (AN p) 0) [] none ⟨0, f + K + 3, 0, []⟩) = (0, 0, ⟨⟨0, f + K + 1, 1, []⟩, OB (funcAt (AN p) 0).vars.toNat [], [(p.funcs.length : Int) + 1], 0, none⟩) := by
   unfold Bj;rw [if_neg (show ¬ (startS (funcAt (AN p) 0) [] none ⟨0, f + K + 3, 0, []⟩).m.fuel = 0 by show ¬ (f + K + 3 - 1 = 0); omega), if_pos rfl];rfl
  rw [e0];dsimp only;rw [if_pos rfl, blockS, (Ia hd).2.1, e]
  have hcal : (lev (AN p) inp (most + 1) N).cal 1 [] ⟨0, f + K, 1, []⟩ = (c, v, upM K 1 m') := by
   unfold Lev.cal;rw [hs1]
  have et : ∀ s : Sx, s.m = ⟨0, f + K, 1, []⟩ → tokX (lev (AN p) inp (most + 1) N).cal (paramsL (AN p)) inp ⟨11, 1⟩ [] s = if c = 1 then (0, 0, [v], { s with m := upM K 1 m' }) else (c, v, [], { s with m := upM K 1 m' }) := fun s hsm => by
   unfold tokX;dsimp only;rw [if_neg (by decide), if_neg (by decide), if_neg (by decide), if_neg (by decide), if_pos rfl, hp1];rw [show List.drop (([] : List Int).length - (0 : Int).toNat) ([] : List Int) = [] from rfl, hsm, hcal];rfl
  have e1 : Bj (lev (AN p) inp (most + 1) N) (paramsL (AN p)) inp (funcAt (AN p) 0) ⟨9, 0, [⟨11, 1⟩], [], []⟩ ⟨⟨0, f + K + 1, 1, []⟩, OB (funcAt (AN p) 0).vars.toNat [], [(p.funcs.length : Int) + 1], 0, none⟩ = (if c = 1 then 0 else c, if c = 1 then 0 else v, ⟨upM K 1 m', OB (funcAt (AN p) 0).vars.toNat [], [(p.funcs.length : Int) + 1], 0, none⟩) := by
   unfold Bj;rw [if_neg (show ¬ (f + K + 1 = 0) by omega), if_neg (by decide), if_neg (by decide), exprS];rw [et _ rfl]
   by_cases hc1 : c = 1
   ·simp only [if_pos hc1]
    rfl
   ·simp only [if_neg hc1]
    rw [if_neg (show ¬ c = 0 by omega), if_neg (show ¬ c = 0 by omega)]
  rw [e1];dsimp only
  by_cases hc1 : c = 1
  ·simp only [if_pos hc1]
   rfl
  ·simp only [if_neg hc1]
   rw [if_neg (show ¬ c = 0 by omega)]
 have hcall : (lev (AN p) inp (most + 1) (N + 2)).call 0 [] none ⟨0, f + K + 3, 0, []⟩ = Ck (lev (AN p) inp (most + 1) (N + 1)) (AN p) (most + 1) 0 [] none ⟨0, f + K + 3, 0, []⟩ := rfl
 rw [hcall];unfold Ck;rw [if_neg (show ¬ (f + K + 3 = 0) by omega), if_neg (show ¬ ((0 : Nat) = most + 1) by omega)];dsimp only;rw [hd.b0, hblk];dsimp only;rw [if_neg (show ¬ 4 ≤ (if c = 1 then 0 else c) by split <;> omega), show [(p.funcs.length : Int) + 1].reverse = [(p.funcs.length : Int) + 1] from rfl]
 have ho := gd_offR (inp := inp) (most := most + 1) hd (N + 1) (endS (if c = 1 then 0 else c) (if c = 1 then 0 else v)) (upM K 1 m')
 have hdm : (upM K 1 m').deep = 1 := by show m'.deep + 1 = 1; omega
 have hfm : (upM K 1 m').fuel = m'.fuel + K := rfl
 rcases ho with ho | ho
 ·exfalso
  have := ho.2
  rw [hdm, hfm] at this;omega
 rw [ho, if_neg (show ¬ (4 : Int) ≤ 0 by omega)]
 have hcc : c = 1 ∨ c = 2 ∨ c = 3 := by omega
 rcases hcc with rfl | rfl | rfl
 ·exact ⟨rfl, rfl⟩
 ·exact ⟨rfl, rfl⟩
 ·exact ⟨rfl, rfl⟩
end
open Go.Eng
theorem KY {p : Prog} (hp : p.ok 1048576) : (AN p).ok 1048576 := by
 by_cases h : BA p = true
 ·have hg : (p.funcs.length : Int) ≤ 3 := by unfold BA at h; simp only [Qf, decide_eq_true_eq] at h; exact h.2
  have e : (AN p).funcs = CT p.funcs.length :: (p.funcs.map (movF [1, 2, 3]) ++ [lastF]) := by rw [AN, if_pos h]
  refine ⟨⟨by rw [e]; simp; omega, fun f hf => ?_⟩, trivial⟩;rw [e] at hf
  rcases Qp.1 hf with rfl | hf
  ·refine ⟨by show 2 ≤ 1048576; decide, ⟨by show 2 ≤ 1048576; decide, fun t ht => ?_⟩, trivial⟩
   have ht : t ∈ [(⟨3, (p.funcs.length : Int) + 1, [], [], []⟩ : Stmt), ⟨9, 0, [⟨11, 1⟩], [], []⟩] := ht
   rcases Qp.1 ht with rfl | ht
   ·exact ⟨RO _, RO _, RO _, trivial⟩
   ·rw [Q5] at ht; subst ht; exact ⟨by show 1 ≤ 1048576; decide, RO _, RO _, trivial⟩
  rcases Qj.1 hf with hf | hf
  ·obtain ⟨g, hg, rfl⟩ := RA.1 hf
   exact Px _ (hp.1.2 g hg)
  ·rw [Q5] at hf; subst hf
   refine ⟨by show 1 ≤ 1048576; decide, ⟨by show 1 ≤ 1048576; decide, fun t ht => ?_⟩, trivial⟩
   have ht : t ∈ [(⟨2, 0, [⟨10, 0⟩], [], []⟩ : Stmt)] := ht
   rw [Q5] at ht; subst ht; exact ⟨by show 1 ≤ 1048576; decide, RO _, RO _, trivial⟩
 ·rw [AN, if_neg h]
  exact ⟨⟨RO _, by simp⟩, trivial⟩
theorem HG (cd : List Int) (hcd : Cc cd) : Fun Try.prog 14 [.t (T.bytes cd)] (A5 [.agg [.t (T.Funcs (pR cd).funcs)]]) := by
 refine Fun.begin tys Try.func14 Z Z (N := 5) [(0, .t (T.bytes cd))] Z Z (fun w0 G F0 => ?_);refine sG (AH tys Z Z (AA Z) Z Z Z (nZ Z (nA (eZ Z (HV Z Z (AA Z) Z Z Z Z Z (Ip cd hcd) Z (sT Z (nZ Z (nB (rT (eR ?_))))))))))
 ·rfl
def giP (cd : List Int) : Prog := if (BA (pR cd) && decide (pickV cd 2 (pC cd) = 0)) = true then AN (pR cd) else pR cd
theorem giP_ok {cd : List Int} (hcd : Cc cd) : (giP cd).ok 1048576 := by
 have hpo : (pR cd).ok 1048576 := Jm hcd (by decide) (by decide)
 unfold giP;split
 ·exact KY hpo
 ·exact hpo
theorem Jg (cd : List Int) (hcd : Cc cd) : Fun Try.prog 21 [.t (T.bytes cd)] (A5 [.agg [.t (T.Funcs (giP cd).funcs)]]) := by
 have hpo : (pR cd).ok 1048576 := Jm hcd (by decide) (by decide)
 have hpc := pC_at hcd
 refine Fun.begin tys Try.func21 Z Z (N := 24) [(0, .t (T.bytes cd))] Z Z (fun w0 G F0 => ?_);refine sG (AH tys Z Z (AA Z) Z Z Z (nZ Z (nA (eZ Z ?_))));refine GD (u := 7) 99 Z (fun pv => ?_);refine nZ Z (AG tys Z Z (AA Z) Z Z Z (by kernel_rfl) Z Z Z Z Z Z (Af Z Z (AA Z) Z Z (nZ Z (eZ Z (nA ?_)))));refine Pe (u := 9) (pid := 1009) Z Z (fun bw => ?_);refine nZ Z (eZ Z (AC (Le.close (u := 9) 1009 Z Z Z) (nZ Z ?_)));refine I7 (rid := 99) [9] Z Z (AA Z) Z Z (by repeat (first | exact ResQ.done | refine ResQ.pin0 1009 Z ?_ | refine ResQ.t ?_ | refine ResQ.nil 1 ?_)) Z (by repeat (first | exact trivial | refine ⟨rfl, rfl, ?_⟩)) (by decide) (GC cd cu0 bw pv hcd (by decide) (by decide)) Z Z Z ?_;refine nZ Z (AC (Le.open (u := 9) 1009 Z Z Z Z) (nZ Z (AC (Le.freeze (u := 11) Z) (nZ Z (AH tys Z Z (AA Z) Z Z Z (nZ Z (sT Z (nZ Z (kZ [2,3,4] Z (nB (sQ (sG (eZ Z ?_)))))))))))))
 try refine AC (Le.freeze (u := 13) rfl) ?_
 refine nZ Z (AQ ?_);refine ⟨_, EG (pR cd) hpo, rfl, ?_⟩;refine BR Z Z (AA Z) (.inr Z) Z Z (nZ Z (CL Z Z (AA Z) Z Z Z Z (AC (Le.freeze (u := 15) Z) (nZ Z (WO_evF tys Z Z (AA Z) (d := .t _) Z (nZ Z (AH tys Z Z (AA Z) Z Z Z (nZ Z (sT Z (nZ Z (eZ Z (nB (sQ ?_)))))))))))));refine A1 (α := Bool) [2, 4, 5] [2, 4, 5] (fun x => [(21, .t (.bool x))]) (fun x => []) (fun x => x = (BA (pR cd) && decide (pickV cd 2 (pC cd) = 0))) ?_ (fun bb hx => ?_)
 ·
  refine kY [2,3,4,5,6] Z (rG (eK 2 Z ?_));refine gB (fun h1 => ?_) (fun h1 => ?_)
  ·
   simp only [HS] at h1;refine xK 2 Z (oN (jQ _ ?_))
   first
   | (refine with1 (p := BA (pR cd) = false) ?_ (fun e => ?_); (focus first | assumption | (simp_all; done)); rw [e]; rfl)
  refine eZ Z (gY Z (AC (Le.close (u := 9) 1009 Z Z Z) (nZ Z ?_)));refine cP [9] (hm := (DA cd 2 (pC cd) bw pv hcd (by omega) (by omega))) (k := ?_);refine nZ Z (AC (Le.open (u := 9) 1009 Z Z Z Z) (nZ Z (eZ Z (oN (jQ _ ?_)))))
  first
  | (refine with1 (p := BA (pR cd) = true) ?_ (fun e => ?_); (focus first | assumption | (simp_all; done)); rw [e]; simp; done)
 have hbb := hx
 refine tN ?_;refine AD Z (fun h1 => ?_) (fun h1 => ?_)
 ·
  refine sQ ?_
  have hb1 : (BA (pR cd) && decide (pickV cd 2 (pC cd) = 0)) = true := hbb.symm.trans (by assumption)
  refine kY [2,4,5] Z (rG (eZ Z ?_))
  try refine AC (Le.freeze (u := 22) rfl) ?_
  refine nZ Z (sT Z (nZ Z (nB (rT (tR (eR ?_))))))
  ·unfold giP
   rw [if_pos hb1];done
 refine AE (tN (sQ ?_))
 have hb1 : ¬ (BA (pR cd) && decide (pickV cd 2 (pC cd) = 0)) = true := by rw [← hbb]; simp_all
 refine kY [2,4] Z (rG (eZ Z ?_))
 try refine AC (Le.freeze (u := 23) rfl) ?_
 refine nZ Z (sT Z (nZ Z (nB (rT (eR ?_)))))
 ·unfold giP
  rw [if_neg hb1];rfl
structure GF (p : Prog) : Prop where
 good : Au (AN p) = true
 is : Ap (AN p) = true
 ra : DR p [] 6 200 = true
 rb : DR (AN p) [] 7 600 = true
 no : ¬ (DL (AN p) [] 7 600).code = 2
 code : (DL p [] 6 200).code = 2 ∨ (DL p [] 6 200).code = 1 ∨ (DL p [] 6 200).code = 3 → (DL (AN p) [] 7 600).code = if (DL p [] 6 200).code = 3 then 3 else 1
 tr : (DL p [] 6 200).code = 2 ∨ (DL p [] 6 200).code = 1 ∨ (DL p [] 6 200).code = 3 → (DL (AN p) [] 7 600).trace = (DL p [] 6 200).trace ++ [if (DL p [] 6 200).code = 2 then (DL p [] 6 200).value else 0]
theorem gf_of {p : Prog} (h : BA p = true) : GF p := by
 obtain ⟨h1, h2, h3, h4, h5⟩ := EV h
 have a := Fl (most := 6) (fuel := 200) h1 (by decide) (by decide) (by decide)
 have b := Fl (most := 7) (fuel := 600) h2 (by decide) (by decide) (by decide)
 have ea : DL p [] 6 200 = outP p [] 6 200 := by rw [DL, if_pos a]
 have eb : DL (AN p) [] 7 600 = outP (AN p) [] 7 600 := by rw [DL, if_pos b]
 have ht := fun hc => Jc h (inp := []) (most := 6) (N := 598) (n := 200) (f := 200) (K := 397) (by decide) (by decide) (by decide) (by decide) hc
 refine ⟨h2, Oi h, a, b, ?_, ?_, ?_⟩
 ·rw [eb]; exact gd_no (KZ h) h2 600
 ·intro hc
  rw [ea] at hc ⊢;rw [eb]
  exact (ht (by
   have hc' : (Co p [] 6 200).1 = 2 ∨ (Co p [] 6 200).1 = 1 ∨ (Co p [] 6 200).1 = 3 := hc
   show (Co p [] 6 200).1 < 4
   omega)).1
 ·intro hc
  rw [ea] at hc ⊢;rw [eb]
  have e := (ht (by
   have hc' : (Co p [] 6 200).1 = 2 ∨ (Co p [] 6 200).1 = 1 ∨ (Co p [] 6 200).1 = 3 := hc
   show (Co p [] 6 200).1 < 4
   omega)).2
  have e' : (Co (AN p) [] 7 600).2.2.2.trace = (Co p [] 6 200).2.2.2.trace ++ [if (Co p [] 6 200).1 = 2 then (Co p [] 6 200).2.1 else 0] := e
  show (Co (AN p) [] 7 600).2.2.2.trace = (Co p [] 6 200).2.2.2.trace ++ [if (Co p [] 6 200).1 = 2 then PP (Co p [] 6 200).1 (Co p [] 6 200).2.1 else 0];rw [e']
  congr 2
  by_cases h2 : (Co p [] 6 200).1 = 2
  ·rw [if_pos h2, if_pos h2, h2]; rfl
  ·rw [if_neg h2, if_neg h2]
theorem LP {q : Prog} (h : Ap q = true) : Au q = true ∧ DR q [] 12 600 = true ∧ ¬ (DL q [] 12 600).code = 2 := by
 obtain ⟨hg, k, t0, t1, u, x, y, hd⟩ := gd_of h
 have a := Fl (most := 12) (fuel := 600) hg (by decide) (by decide) (by decide)
 refine ⟨hg, a, ?_⟩;rw [DL, if_pos a];exact gd_no hd hg 600
theorem Gy (a : List Int) (x : T) (h : x = T.ints a) (ha : a.length ≤ 1073741824) : Fun Try.prog 20 [.t (T.ints a), .t x] (A5 [.t (.bool true)]) := by
 rw [h];exact Cb a ha
theorem Fv (a b : List Int) (ha : a.length ≤ 9223372036854775807) (hb : b.length ≤ 9223372036854775807) (hab : ∀ x, x ∈ a → 0 ≤ x ∧ x ≤ 255) (hbb : ∀ x, x ∈ b → 0 ≤ x ∧ x ≤ 255) : Fun Try.prog 4 [.t (T.bytes a), .t (T.bytes b)] (A5 [.t (.bool true)]) := by
 refine Fun.begin tys Try.func4 Z Z (N := 168) [(0, .t (T.bytes a)), (1, .t (T.bytes b))] Z Z (fun w0 G F0 => ?_);refine sG (eZ Z (nB (sQ (sG (eK 2 Z (AQ ?_))))));refine ⟨_, QQ a b ha hb, rfl, ?_⟩;refine nB ?_;refine AD Z (fun h1 => ?_) (fun h1 => ?_)
 ·
  refine sG (eZ Z (nB (rT (tR (eR ?_)))))
  ·rfl
 refine AE (tN (sQ ?_))
 have hca : Cc a := ⟨by simp_all; omega, hab⟩
 have hcb : Cc b := ⟨by simp_all; omega, hbb⟩
 have hpo : (pR a).ok 1048576 := Jm hca (by decide) (by decide)
 have hqo := giP_ok hcb
 have hgo := KY hpo
 refine rG (eZ Z (HV Z Z (AA Z) Z Z Z Z Z (HG a hca) Z (AH tys Z Z (AA Z) Z Z Z (nZ Z (sT Z (nZ Z (nB (sQ (kY [1,4,5] Z (rG (eZ Z ?_)))))))))))
 try refine AC (Le.freeze (u := 31) rfl) ?_
 refine nZ Z (AQ ?_);refine ⟨_, G9 _ hpo, rfl, ?_⟩;refine BR Z Z (AA Z) (.inr Z) Z Z (nZ Z (CL Z Z (AA Z) Z Z Z Z (AC (Le.freeze (u := 33) Z) (nZ Z (WO_evF tys Z Z (AA Z) (d := .t _) Z (nZ Z (AH tys Z Z (AA Z) Z Z Z (nZ Z (sT Z (nZ Z (eZ Z (nB (sQ (kY [1,4,5,6,7] Z (rG ?_)))))))))))))));refine eZ Z ?_
 try refine AC (Le.freeze (u := 36) rfl) ?_
 refine nZ Z (AQ ?_);refine ⟨_, EG _ hpo, rfl, ?_⟩;refine BR Z Z (AA Z) (.inr Z) Z Z (nZ Z (CL Z Z (AA Z) Z Z Z Z (AC (Le.freeze (u := 38) Z) (nZ Z (WO_evF tys Z Z (AA Z) (d := .t _) Z (nZ Z (AH tys Z Z (AA Z) Z Z Z (nZ Z (sT Z (nZ Z (eZ Z (nB (sQ (sQ (kY [1,4,5,6,7,8,9] Z ?_)))))))))))))));refine rG (eK 3 Z (AC (Le.known (t := 42) false Z (by simp)) ?_));refine eZ Z (AC (Le.known (t := 43) false Z (by simp)) ?_);refine xZ Z ?_
 try refine AC (Le.freeze (u := 44) rfl) ?_
 refine nZ Z (xZ Z ?_)
 try refine AC (Le.freeze (u := 45) rfl) ?_
 refine nZ Z (gY Z (AQ ?_));refine ⟨_, Hq _ hgo, rfl, ?_⟩;refine xZ Z (AC (Le.known (t := 47) false Z (by simp)) ?_);refine eZ Z (AC (Le.known (t := 48) false Z (by simp)) ?_);refine kZ [1,4,5,6,7,48] Z (nB (BC Z (AE (tN (sQ (sG (eZ Z (nB ?_))))))));refine A1 (α := Bool) [1] [] (fun x => [(4, .t (.bool x))]) (fun x => []) (fun x => x = false) ?_ (fun u0 hx => ?_)
 ·
  refine AD Z (fun h2 => ?_) (fun h2 => ?_)
  ·
   refine sQ ?_
   have gf := gf_of (p := pR a) (by assumption)
   have hrun1 := EB (pR a) [] 6 200 hpo (by decide) (by decide) (by decide)
   have hrun2 := EB (AN (pR a)) [] 7 600 hgo (by decide) (by decide) (by decide)
   have ht1 := IA (p := pR a) (inp := []) (most := 6) (fuel := 200)
   have ht2 := IA (p := AN (pR a)) (inp := []) (most := 7) (fuel := 600)
   refine rG (eZ Z ?_)
   try refine AC (Le.freeze (u := 51) rfl) ?_
   refine nZ Z (AQ ?_);refine ⟨_, DX _ hgo, rfl, ?_⟩;refine BR Z Z (AA Z) (.inr Z) Z Z (WO_evF tys Z Z (AA Z) (d := .t _) Z (nZ Z (WO_evF tys Z Z (AA Z) (d := .t _) Z (nZ Z (eK 2 Z (nB (sQ (kY [1,4,5,6,10,11] Z (rG (eZ Z ?_))))))))))
   try refine AC (Le.freeze (u := 56) rfl) ?_
   refine nZ Z (CX Z Z (AA Z) Z Z (es := [.t (pR a).tt, .t (T.ints []), .t (.int 6), .t (.int 200)]) (by first | exact ResL.t (ResL.nil 1 (ResL.t (ResL.t ResL.done))) | exact ResL.aggT (ResL.t ResL.done) (ResL.nil 1 (ResL.t (ResL.t ResL.done)))) hrun1 Z ?_);refine nZ Z (BR Z Z (AA Z) (.inr Z) Z Z (nZ Z (CL Z Z (AA Z) Z Z Z Z (AC (Le.freeze (u := 58) Z) (nZ Z (WO_evF tys Z Z (AA Z) (d := .t _) Z (nZ Z (AH tys Z Z (AA Z) Z Z Z (nZ Z (sT Z (nZ Z (eZ Z (nB (sQ (kY [1,4,6,10,11,12,13] Z ?_)))))))))))))));refine rG (eZ Z ?_)
   try refine AC (Le.freeze (u := 61) rfl) ?_
   refine nZ Z (CX Z Z (AA Z) Z Z (es := [.t (AN (pR a)).tt, .t (T.ints []), .t (.int 7), .t (.int 600)]) (by first | exact ResL.t (ResL.nil 1 (ResL.t (ResL.t ResL.done))) | exact ResL.aggT (ResL.t ResL.done) (ResL.nil 1 (ResL.t (ResL.t ResL.done)))) hrun2 Z ?_);refine nZ Z (BR Z Z (AA Z) (.inr Z) Z Z (nZ Z (CL Z Z (AA Z) Z Z Z Z (AC (Le.freeze (u := 63) Z) (nZ Z (WO_evF tys Z Z (AA Z) (d := .t _) Z (nZ Z (AH tys Z Z (AA Z) Z Z Z (nZ Z (sT Z (nZ Z (eZ Z (nB (sQ (sQ ?_)))))))))))))));refine kY [1,4,6,10,11,12,13,14,15] Z (rG (eZ Z ?_))
   try refine AC (Le.freeze (u := 65) rfl) ?_
   refine nZ Z (AQ ?_);refine ⟨_, IT _ hgo, rfl, ?_⟩;refine eK 2 Z (AC (Le.known (t := 68) false Z (by simp [gf.good])) ?_);refine xK 4 Z (AC (Le.known (t := 72) false Z (by simp [gf.good])) ?_);refine xZ Z (kZ [1,4,12,13,14,15,72,73] Z (xK 3 Z (AC (Le.known (t := 76) false Z (by simp [gf.is])) ?_)));refine xK 4 Z (AC (Le.known (t := 80) false Z (by simp [gf.ra])) ?_);refine xK 2 Z (kZ [1,4,12,14,80,82] Z (eK 2 Z (AC (Le.known (t := 84) false Z (by simp [gf.rb])) ?_)));refine xK 4 Z (AC (Le.known (t := 88) false Z (by simp [gf.no])) ?_);refine nB (BC Z (AE (tN (sG ?_))));refine E2 (α := Bool) 13 Z Z [1, 4, 12, 14] [5, 12, 14] (fun (x : Bool) => [(101, .t (.bool x))]) (fun (x : Bool) => []) (fun (x : Bool) => x = decide ((DL (pR a) [] 6 200).code = 2 ∨ (DL (pR a) [] 6 200).code = 1 ∨ (DL (pR a) [] 6 200).code = 3)) ?_ (fun bb hx => ?_)
   ·
    refine eK 3 Z (kZ [1,4,12,14,91] Z (eZ Z ?_));refine gB (fun h3 => ?_) (fun h3 => ?_)
    ·
     simp only [HS] at h3;refine xK 8 Z (kZ [1,4,12,14,101] Z (oN (jQ _ ?_)))
     all_goals (first | (simp_all; done))
    simp only [HS] at h3;refine xK 5 Z ?_;refine gB (fun h4 => ?_) (fun h4 => ?_)
    ·
     simp only [HS] at h4;refine xK 3 Z (kZ [1,4,12,14,101] Z (oN (jQ _ ?_)))
     all_goals (first | (simp_all; done))
    simp only [HS] at h4;refine xK 3 Z (kZ [1,4,12,14,97,100] Z (eZ Z (oN (jQ _ ?_))))
    all_goals (first | (simp_all; done))
   have hbb := hx
   refine nZ Z (nB ?_);refine AD Z (fun h3 => ?_) (fun h3 => ?_)
   ·
    refine sG (eZ Z (nB (sQ (sQ ?_))))
    have hc3 : (DL (pR a) [] 6 200).code = 2 ∨ (DL (pR a) [] 6 200).code = 1 ∨ (DL (pR a) [] 6 200).code = 3 := by simp_all
    have gc := gf.code hc3
    have gt := gf.tr hc3
    refine rG (eK 3 Z (nB ?_));refine A1 (α := Int) [1, 4, 12, 14] [5, 12, 14] (fun x => [(16, .t (.int x))]) (fun x => []) (fun x => x = if (DL (pR a) [] 6 200).code = 2 then (DL (pR a) [] 6 200).value else 0) ?_ (fun last hx => ?_)
    ·
     refine AD Z (fun h4 => ?_) (fun h4 => ?_)
     ·
      simp only [HS] at h4;refine rG (eK 3 Z (oN (jQ _ ?_)))
      all_goals (first | rfl | (simp_all; done))
     simp only [HS] at h4;refine AE (jQ _ ?_)
     all_goals (first | rfl | (simp_all; done))
    have hlast := hx
    refine tN (sQ (kY [1,4,12,14,16] Z (rG (bZ [] ?_))));refine nZ Z (eK 2 Z (AJ tys Z Z (AA Z) Z Z Z Z Z (.own Z (by first | omega | (simp only [Qg]; omega))) Z (.read (MU _)) (by decide) (by simp; omega) (by decide) Z ?_));refine nZ Z (eZ Z (bZ [T.int last] ?_));refine nZ Z (AJ tys Z Z (AA Z) Z Z Z Z Z (.own Z (by first | omega | (simp only [Qg]; omega))) Z (.own Z (by first | decide | omega)) (by decide) (by simp; omega) (by decide) Z ?_);refine nZ Z (eZ Z (nB (sQ ?_)))
    have gc3 : (DL (AN (pR a)) [] 7 600).code ≤ 3 ∧ ((DL (AN (pR a)) [] 7 600).code = 3 ↔ (DL (pR a) [] 6 200).code = 3) := by rw [gc]; split <;> simp_all
    refine kY [1,4,12,14,17] Z (rG (eK 3 Z (AQ ?_)));refine ⟨_, Gy _ _ (by rw [gt, ← hlast]; show T.list 1 _ = T.list 1 (List.map T.int _); congr 1; simp; exact Qi (by simp)) (by omega), rfl, ?_⟩;refine eZ Z (AC (Le.known (t := 118) false Z (by simp)) ?_);refine eZ Z (AC (Le.known (t := 119) false Z (by simp)) ?_);refine xK 3 Z (kZ [1,4,12,14,119,122] Z (xK 5 Z (AC (Le.known (t := 127) false Z (by simp [gc3.2])) ?_)));refine eZ Z (AC (Le.known (t := 128) false Z (by simp [gc3.2])) ?_);refine xK 3 Z (kZ [1,4,128,131] Z (eZ Z (AC (Le.known (t := 132) false Z (by simp; omega)) ?_)));refine nB (BC Z (AE (jQ _ ?_)));dsimp only
    all_goals rfl
   refine AE (jQ _ ?_);dsimp only
   all_goals rfl
  refine AE (jQ _ ?_);dsimp only
  all_goals rfl
 have hu0 := hx
 refine tN (sQ (kY [1,4] Z (rG (eZ Z (HV Z Z (AA Z) Z Z Z Z Z (Jg b hcb) Z (AH tys Z Z (AA Z) Z Z Z (nZ Z (sT Z (nZ Z (nA (eZ Z ?_)))))))))))
 try refine AC (Le.freeze (u := 136) rfl) ?_
 refine nZ Z (AQ ?_);refine ⟨_, DX _ hqo, rfl, ?_⟩;refine BR Z Z (AA Z) (.inr Z) Z Z (WO_evF tys Z Z (AA Z) (d := .t _) Z (nZ Z (WO_evF tys Z Z (AA Z) (d := .t _) Z (nZ Z (kZ [4,18,138,139] Z (eK 2 Z (nA (eZ Z ?_))))))))
 try refine AC (Le.freeze (u := 141) rfl) ?_
 refine nZ Z (AQ ?_);refine ⟨_, Fh _ hqo, rfl, ?_⟩;refine BR Z Z (AA Z) (.inr Z) Z Z (WO_evF tys Z Z (AA Z) (d := .t _) Z (nZ Z (WO_evF tys Z Z (AA Z) (d := .t _) Z (nZ Z (eK 2 Z (kZ [4,18,19,20,21,22] Z (nB (sQ (sG (eK 3 Z (AC (Le.known (t := 147) false Z (by simp)) ?_)))))))))));refine eZ Z (AC (Le.known (t := 148) false Z (by simp)) ?_);refine xK 3 Z (AC (Le.known (t := 151) false Z (by simp)) ?_);refine eZ Z (AC (Le.known (t := 152) false Z (by simp)) ?_);refine nB (BC Z (AE (tN (sQ (sQ (kY [4,18,19,20] Z (rG (eK 2 Z ?_))))))));refine gB (fun h2 => ?_) (fun h2 => ?_)
 ·
  simp only [HS] at h2;refine eZ Z (nB (BC Z (AE (tN (sG (eZ Z (nB (rT (eR ?_)))))))))
  ·rfl
 refine eK 2 Z (nB ?_);refine AD Z (fun h3 => ?_) (fun h3 => ?_)
 ·
  refine sQ ?_
  obtain ⟨q1, q2, q3⟩ := LP (q := giP b) (by simp_all)
  have hrun3 := EB (giP b) [] 12 600 hqo (by decide) (by decide) (by decide)
  refine rG (eZ Z ?_)
  try refine AC (Le.freeze (u := 158) rfl) ?_
  refine nZ Z (CX Z Z (AA Z) Z Z (es := [.t (giP b).tt, .t (T.ints []), .t (.int 12), .t (.int 600)]) (by first | exact ResL.t (ResL.nil 1 (ResL.t (ResL.t ResL.done))) | exact ResL.aggT (ResL.t ResL.done) (ResL.nil 1 (ResL.t (ResL.t ResL.done)))) hrun3 Z ?_);refine nZ Z (BR Z Z (AA Z) (.inr Z) Z Z (nZ Z (CL Z Z (AA Z) Z Z Z Z (AC (Le.freeze (u := 160) Z) (nZ Z (WO_evF tys Z Z (AA Z) (d := .t _) Z (nZ Z (kZ [4,160,161] Z (AH tys Z Z (AA Z) Z Z Z (nZ Z (sT Z (nZ Z (eZ Z (nA (eK 2 Z ?_)))))))))))))));refine AC (Le.known (t := 163) true Z (by simp [q2])) ?_;refine xK 4 Z (kZ [4,167] Z (eZ Z (nB (rT (tR (eR ?_))))))
  ·simp_all
   done
 refine AE (tN (sG (eZ Z (nB (rT (eR ?_))))))
 ·rfl
end Go.Proofs.Ytddfnpiikkilhaa
