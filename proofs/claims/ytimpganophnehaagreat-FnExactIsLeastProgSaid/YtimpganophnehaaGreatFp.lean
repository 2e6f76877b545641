/- The types of programs: their mirrors, and the functions that size, lay anew and compare them. -/
import Derived.Test.YtimpganophnehaaGreatFs
set_option linter.unusedVariables false
set_option linter.unusedSimpArgs false
set_option maxRecDepth 10000
namespace Go.Proofs.YtimpganophnehaaGreat
open Go.Eng

structure Tok where
 op : Int
 n : Int

def Tok.tt (x : Tok) : T := .agg [T.int x.op, T.int x.n]

def eqTok (a b : Tok) : Bool := eqI a.op b.op && eqI a.n b.n && true

theorem eqTok_refl (a : Tok) : eqTok a a = true := by
 unfold eqTok; simp only [eqI_refl, Bool.and_self]

theorem toTok_fun (x : Tok) : Fun Tryz.prog 227 [.t (Tok.tt x)] (tupD [.agg [.t (T.int x.op), .t (T.int x.n)]]) := by
 refine Fun.begin tys Tryz.func227 rfl rfl (N := 11) [(0, .t (Tok.tt x))] rfl rfl (fun w0 G F0 => ?_)
 refine sQ (rG (WO_box rfl rfl (lt_of rfl) rfl rfl (nZ rfl (WO_alloc tys rfl rfl (lt_of rfl) rfl rfl rfl (nZ rfl (oN (tN (sQ (rG (WO_alloc tys rfl rfl (lt_of rfl) rfl rfl rfl (nZ rfl (oN (tN (sQ (rG ?_)))))))))))))))
 refine eK 3 rfl (sT rfl (nZ rfl (oN (tN (sQ (kY [1,2,3] rfl (rG (eK 3 rfl (sT rfl (nZ rfl (oN (tN (sQ (rG (eZ rfl ?_)))))))))))))))
 try refine WO_le (Le.freeze (u := 10) rfl) ?_
 refine nZ rfl (sT rfl (nZ rfl (oN (tN (rT (eR ?_))))))
 ·rfl

theorem eqTok_fun (a b : Tok) : Fun Tryz.prog 231 [.t (Tok.tt a), .t (Tok.tt b)] (tupD [.t (.bool (eqTok a b))]) := by
 refine Fun.begin tys Tryz.func231 rfl rfl (N := 15) [(0, .t (Tok.tt a)), (1, .t (Tok.tt b))] rfl rfl (fun w0 G F0 => ?_)
 refine sQ (rG (WO_box rfl rfl (lt_of rfl) rfl rfl (nZ rfl (WO_box rfl rfl (lt_of rfl) rfl rfl (nZ rfl (eZ rfl (oN (tN (sQ (sQ (rG (eK 5 rfl (oN (tN ?_))))))))))))))
 refine W_cond rfl (fun h1 => ?_) (fun h1 => ?_)
 ·
  simp only [HS] at h1
  refine sQ (kY [2,3,4] rfl (rG (eZ rfl (oN (tN (rT (tR (eR ?_))))))))
  ·simp_all [eqTok, eqI, eqB]
 simp only [HS] at h1
 refine W_skip (tN (sQ (sQ (kY [2,3,4] rfl (rG (eK 5 rfl (oN (tN ?_))))))))
 refine W_cond rfl (fun h2 => ?_) (fun h2 => ?_)
 ·
  simp only [HS] at h2
  refine sQ (rG (eZ rfl (oN (tN (rT (tR (eR ?_)))))))
  ·simp_all [eqTok, eqI, eqB]
 simp only [HS] at h2
 refine W_skip (tN (sQ (rG (eZ rfl (oN (tN (rT (eR ?_))))))))
 ·simp_all [eqTok, eqI, eqB]

theorem szTokS_g (l : List Tok) : SzA (szLen l) (okN 1048576 l) := szLen_g l
abbrev T.Toks (l : List Tok) : T := .list 2 (l.map Tok.tt)

theorem szTokS_fun (l : List Tok) (left : Int) (hl : okN 9223372036854775807 l) (h0 : 0 ≤ left) (hh : left ≤ 1048576) : Fun Tryz.prog 204 [.t (T.Toks l), .t (.int left)] (tupD [.t (.int (szLen l left))]) := by
 unfold okN at hl
 refine Fun.begin tys Tryz.func204 rfl rfl (N := 12) [(0, .t (T.Toks l)), (1, .t (.int left))] rfl rfl (fun w0 G F0 => ?_)
 refine sQ (rG (eZ rfl (oN (tN (sQ (rG (eK 2 rfl (evE ?_))))))))
 refine evI ?_
 refine eZ rfl (oN (tN (sQ (sQ (rG (eK 2 rfl (oN (tN ?_))))))))
 refine W_cond rfl (fun h1 => ?_) (fun h1 => ?_)
 ·
  simp only [HS] at h1
  refine sQ (kY [1,4] rfl (rG (eZ rfl (oN (tN (rT (tR (eR ?_))))))))
  ·(simp only [szLen, szN]; simp_all <;> omega)
 simp only [HS] at h1
 refine W_skip (tN (sQ (kY [1,4] rfl (rG (eK 2 rfl (oN (tN (rT (eR ?_)))))))))
 ·(simp only [szLen, szN]; simp_all <;> omega)

theorem toTokS_fun (l : List Tok) (hl : okN 1048576 l) : Fun Tryz.prog 207 [.t (T.Toks l)] (tupD [.own (T.Toks l)]) := by
 unfold okN at hl
 refine Fun.begin tys Tryz.func207 rfl rfl (N := 23) [(0, .t (T.Toks l))] rfl rfl (fun w0 G F0 => ?_)
 refine sQ (rG (eZ rfl (oN (tN (sQ (rG (eZ rfl (evE ?_))))))))
 refine WO_make tys (.agg [.v (.int .i64 0), .v (.int .i64 0)]) _ rfl rfl (lt_of rfl) rfl rfl rfl rfl rfl (by repeat (first | exact AbsL.nil' | refine AbsL.v' ?_ | refine AbsL.none' ?_)) rfl (by omega) (by decide) ?_
 refine nZ rfl (eZ rfl (oN (tN (sQ (sQ (rG (eZ rfl (oN (tN (W_block ?_))))))))))
 refine lK (α := Int × List T) [0, 3] [] (fun x => [(4, .t (.int (x.1)))]) (fun x => [(7, .L 2 (x.2))]) (fun x => 0 ≤ (x.1) ∧ (x.1) ≤ l.length ∧ (x.2).length = l.length ∧ (x.2).take (x.1).toNat = (l.take (x.1).toNat).map Tok.tt) (fun x => Int.toNat (l.length - (x.1))) (0, List.replicate l.length (.agg [.v (.int .i64 0), .v (.int .i64 0)])) ?_ (fun x hx => ?_)
 ·exact ⟨by omega, by omega, by simp, by simp⟩
 obtain ⟨k, xs⟩ := x
 obtain ⟨hk0, hk1, hk2, hk3⟩ := hx
 dsimp only at hk0 hk1 hk2 hk3 ⊢
 refine nY rfl (sQ (sQ (rG (eK 2 rfl (evE ?_)))))
 refine eZ rfl (oN (tN ?_))
 refine W_cond rfl (fun h1 => ?_) (fun h1 => ?_)
 ·
  simp only [HS] at h1
  refine W_skip (tN (sQ (W_block (rG (eK 4 rfl (WO_idxT tys rfl rfl (lt_of rfl) rfl rfl rfl rfl rfl rfl rfl (by omega) _ (getT _ _ (by omega) (by omega)) (kZ [0,3,4,8,9,10,11,14,15,16,17,18] rfl (eZ rfl ?_))))))))
  try refine WO_le (Le.freeze (u := 19) rfl) ?_
  refine nZ rfl (callB ?_)
  refine ⟨_, toTok_fun _, rfl, ?_⟩
  refine WO_idxS tys rfl rfl (lt_of rfl) rfl rfl rfl rfl rfl rfl rfl rfl (by omega) (by omega) ?_
  refine WO_storeE tys (Tok.tt _) rfl rfl rfl rfl rfl rfl (by first | exact Nat.zero_add _ | rfl) (by omega) rfl (by repeat (first | exact AbsL.nil' | refine AbsL.v' ?_ | refine AbsL.own' ?_)) rfl rfl rfl ?_
  refine nZ rfl (oN (bN (tN (rG (eZ rfl (evI ?_))))))
  refine eZ rfl (oN ?_)
  refine lQ (_, _) ?_ ?_
  ·dsimp only
   exact ⟨by omega, by omega, by simpa using hk2, fill_step hk0 (by omega) hk2 hk3⟩
  ·(show Int.toNat _ < Int.toNat _); omega
 simp only [HS] at h1
 refine W_exit (tE (loopQ_e (inBlk_y (tN (sQ (rG (eK 2 rfl (oN (tN (W_le (Le.gather (u := 2) (id := 7) rfl rfl (by omega)) (rT (eR ?_))))))))))))
 ·rw [List.take_of_length_le (by omega), fill_end (by omega) hk2 hk3]

theorem eqTokS_fun (a b : List Tok) (ha : okN 9223372036854775807 a) (hb : okN 9223372036854775807 b) : Fun Tryz.prog 215 [.t (T.Toks a), .t (T.Toks b)] (tupD [.t (.bool (eqL eqTok a b))]) := by
 unfold okN at ha hb
 refine Fun.begin tys Tryz.func215 rfl rfl (N := 27) [(0, .t (T.Toks a)), (1, .t (T.Toks b))] rfl rfl (fun w0 G F0 => ?_)
 refine sQ (rG (eZ rfl (oN (tN (sQ (sQ (rG (eZ rfl (evE ?_)))))))))
 refine eZ rfl (evE ?_)
 refine eZ rfl (oN (tN ?_))
 refine W_cond rfl (fun h1 => ?_) (fun h1 => ?_)
 ·
  simp only [HS] at h1
  refine sQ (rG (eZ rfl (oN (tN (rT (tR (eR ?_)))))))
  ·rw [eqL_len h1]
   done
 simp only [HS] at h1
 refine W_skip (tN (sQ (sQ (rG (eZ rfl (oN (tN (W_block ?_))))))))
 refine lK (α := Int) [0, 1] [] (fun x => [(5, .t (.int x))]) (fun x => []) (fun x => 0 ≤ x ∧ x ≤ a.length ∧ eqGo eqTok a b = eqGo eqTok (a.drop x.toNat) (b.drop x.toNat)) (fun x => Int.toNat (a.length - x)) 0 ?_ (fun k hx => ?_)
 ·exact ⟨by omega, by omega, rfl⟩
 obtain ⟨hk0, hk1, hk2⟩ := hx
 refine nY rfl (sQ (sQ (rG (eK 2 rfl (evE ?_)))))
 refine eZ rfl (oN (tN ?_))
 refine W_cond rfl (fun h2 => ?_) (fun h2 => ?_)
 ·
  simp only [HS] at h2
  refine W_skip (tN (sQ (W_block (sQ (W_regionD mixed (by kernel_rfl) (evQ ?_))))))
  refine evQ ?_
  refine QL_norm rfl (QL_idxT tys rfl rfl (lt_of rfl) rfl rfl rfl rfl rfl rfl rfl (by omega) _ (getT _ _ (by omega) (by omega)) (evQ ?_))
  refine evQ ?_
  refine evQ ?_
  refine QL_idxT tys rfl rfl (lt_of rfl) rfl rfl rfl rfl rfl rfl rfl (by omega) _ (getT _ _ (by omega) (by omega)) (evQ ?_)
  refine QL_norm rfl (callBQ ?_)
  refine ⟨_, eqTok_fun _ _, rfl, ?_⟩
  refine evQ ?_
  refine QL_nil (tN ?_)
  refine W_cond rfl (fun h3 => ?_) (fun h3 => ?_)
  ·
   simp only [HS] at h3
   refine sQ (rG (eZ rfl (oN (tN (rT (bR (tR (loopQ_r (bR (tR (eR ?_)))))))))))
   ·rw [eqL_eq h1, hk2, eqGo_at hk0 h2 h1]
    simp [h3]
    done
  simp only [HS] at h3
  refine W_skip (bN (tN (rG (eZ rfl (evI ?_)))))
  refine eZ rfl (oN ?_)
  refine lQ _ ?_ ?_
  ·skip
   refine ⟨by omega, by omega, ?_⟩; rw [hk2, eqGo_at hk0 h2 h1]; simp [h3]
  ·(show Int.toNat _ < Int.toNat _); omega
 simp only [HS] at h2
 refine W_exit (tE (loopQ_e (inBlk_y (tN (sQ (rG (eZ rfl (oN (tN (rT (eR ?_)))))))))))
 ·rw [eqL_eq h1, hk2, drop_end h2]
  rfl

structure Stmt where
 kind : Int
 n : Int
 ex : List (Tok)
 thn : List Int
 els : List Int

def Stmt.tt (x : Stmt) : T := .agg [T.int x.kind, T.int x.n, T.Toks x.ex, T.ints x.thn, T.ints x.els]

def Stmt.ok (B : Nat) (x : Stmt) : Prop := okN B x.ex ∧ okN B x.thn ∧ okN B x.els ∧ True

def szStmt (x : Stmt) : Int → Int := szSeq [szLen x.ex, szIntS x.thn, szIntS x.els]

theorem szStmt_g : SzG szStmt (Stmt.ok 1048576) := fun x left h0 hh => by
 have := szSeq_step (szTokS_g x.ex) (szSeq_step (szIntS_g x.thn) (szSeq_step (szIntS_g x.els) (szSeq_nil)))
 exact this left h0 hh

def eqStmt (a b : Stmt) : Bool := eqI a.kind b.kind && eqI a.n b.n && (eqL eqTok) a.ex b.ex && (eqL eqI) a.thn b.thn && (eqL eqI) a.els b.els && true

theorem eqStmt_refl (a : Stmt) : eqStmt a a = true := by
 unfold eqStmt; simp only [eqI_refl, eqL_refl eqI_refl, eqL_refl eqTok_refl, Bool.and_self]

theorem szStmt_fun (x : Stmt) (left : Int) (hx : Stmt.ok 9223372036854775807 x) (h0 : 0 ≤ left) (hh : left ≤ 1048576) : Fun Tryz.prog 166 [.t (Stmt.tt x), .t (.int left)] (tupD [.t (.int (szStmt x left))]) := by
 refine Fun.begin tys Tryz.func166 rfl rfl (N := 24) [(0, .t (Stmt.tt x)), (1, .t (.int left))] rfl rfl (fun w0 G F0 => ?_)
 refine sQ (rG (WO_box rfl rfl (lt_of rfl) rfl rfl (nZ rfl (eZ rfl (oN (tN (sQ (rG (eK 3 rfl (callB ?_))))))))))
 refine ⟨_, szTokS_fun _ _ (hx.1) (by omega) (by  omega), rfl, ?_⟩
 refine eZ rfl (oN (tN (sQ (sQ (kY [1,2,4] rfl (rG (eK 2 rfl (oN (tN ?_)))))))))
 refine W_cond rfl (fun h1 => ?_) (fun h1 => ?_)
 ·
  simp only [HS] at h1
  refine sQ (rG (eZ rfl (oN (tN (rT (tR (eR ?_)))))))
  ·(simp only [szStmt, szSeq]; repeat (first | rw [if_neg (by omega)] | rw [if_pos (by omega)]))
 simp only [HS] at h1
 refine W_skip (tN (sQ (rG (eK 3 rfl (callB ?_)))))
 refine ⟨_, szIntSo_fun _ _ (hx.2.1) (by omega) (by have g0 := szTokS_g x.ex left (by omega) (by omega); omega), rfl, ?_⟩
 refine eZ rfl (oN (tN (sQ (sQ (kY [1,2,4] rfl (rG (eK 2 rfl (oN (tN ?_)))))))))
 refine W_cond rfl (fun h2 => ?_) (fun h2 => ?_)
 ·
  simp only [HS] at h2
  refine sQ (rG (eZ rfl (oN (tN (rT (tR (eR ?_)))))))
  ·(simp only [szStmt, szSeq]; repeat (first | rw [if_neg (by omega)] | rw [if_pos (by omega)]))
 simp only [HS] at h2
 refine W_skip (tN (sQ (rG (eK 3 rfl (callB ?_)))))
 refine ⟨_, szIntSo_fun _ _ (hx.2.2.1) (by omega) (by have g0 := szTokS_g x.ex left (by omega) (by omega); have g1 := szIntS_g x.thn (szLen x.ex left) (by omega) (by omega); omega), rfl, ?_⟩
 refine eZ rfl (oN (tN (sQ (sQ (kY [1,4] rfl (rG (eK 2 rfl (oN (tN ?_)))))))))
 refine W_cond rfl (fun h3 => ?_) (fun h3 => ?_)
 ·
  simp only [HS] at h3
  refine sQ (rG (eZ rfl (oN (tN (rT (tR (eR ?_)))))))
  ·(simp only [szStmt, szSeq]; repeat (first | rw [if_neg (by omega)] | rw [if_pos (by omega)]))
 simp only [HS] at h3
 refine W_skip (tN (sQ (rG (eK 2 rfl (oN (tN (rT (eR ?_))))))))
 ·(simp only [szStmt, szSeq]; repeat (first | rw [if_neg (by omega)] | rw [if_pos (by omega)]))

theorem toStmt_fun (x : Stmt) (hx : Stmt.ok 1048576 x) : Fun Tryz.prog 168 [.t (Stmt.tt x)] (tupD [.agg [.t (T.int x.kind), .t (T.int x.n), .own (T.Toks x.ex), .own (T.ints x.thn), .own (T.ints x.els)]]) := by
 refine Fun.begin tys Tryz.func168 rfl rfl (N := 23) [(0, .t (Stmt.tt x))] rfl rfl (fun w0 G F0 => ?_)
 refine sQ (rG (WO_box rfl rfl (lt_of rfl) rfl rfl (nZ rfl (WO_alloc tys rfl rfl (lt_of rfl) rfl rfl rfl (nZ rfl (oN (tN (sQ (rG (WO_alloc tys rfl rfl (lt_of rfl) rfl rfl rfl (nZ rfl (oN (tN (sQ (rG ?_)))))))))))))))
 refine eK 3 rfl (sT rfl (nZ rfl (oN (tN (sQ (kY [1,2,3] rfl (rG (eK 3 rfl (sT rfl (nZ rfl (oN (tN (sQ (rG (eK 2 rfl ?_)))))))))))))))
 refine callB ?_
 refine ⟨_, toTokS_fun _ (by first | exact hx.1), rfl, ?_⟩
 refine eZ rfl (sT rfl (nZ rfl (kZ [1,2,3] rfl (oN (tN (sQ (rG (eK 2 rfl (callB ?_)))))))))
 refine ⟨_, toIntSo_fun _ (by first | exact hx.2.1 | exact hx.2.2.1), rfl, ?_⟩
 refine eZ rfl (sT rfl (nZ rfl (oN (tN (sQ (rG (eK 2 rfl (callB ?_))))))))
 refine ⟨_, toIntSo_fun _ (by first | exact hx.2.1 | exact hx.2.2.1), rfl, ?_⟩
 refine eZ rfl (kZ [2,3,20,21] rfl (sT rfl (nZ rfl (oN (tN (sQ (rG (WO_loadMove tys rfl rfl (lt_of rfl) rfl rfl rfl rfl rfl rfl (nZ rfl (sT rfl (nZ rfl (oN (tN (rT (eR ?_)))))))))))))))
 ·rfl

theorem eqStmt_fun (a b : Stmt) (ha : Stmt.ok 9223372036854775807 a) (hb : Stmt.ok 9223372036854775807 b) : Fun Tryz.prog 178 [.t (Stmt.tt a), .t (Stmt.tt b)] (tupD [.t (.bool (eqStmt a b))]) := by
 refine Fun.begin tys Tryz.func178 rfl rfl (N := 33) [(0, .t (Stmt.tt a)), (1, .t (Stmt.tt b))] rfl rfl (fun w0 G F0 => ?_)
 refine sQ (rG (WO_box rfl rfl (lt_of rfl) rfl rfl (nZ rfl (WO_box rfl rfl (lt_of rfl) rfl rfl (nZ rfl (eZ rfl (oN (tN (sQ (sQ (rG (eK 5 rfl (oN (tN ?_))))))))))))))
 refine W_cond rfl (fun h1 => ?_) (fun h1 => ?_)
 ·
  simp only [HS] at h1
  refine sQ (kY [2,3,4] rfl (rG (eZ rfl (oN (tN (rT (tR (eR ?_))))))))
  ·simp_all [eqStmt, eqI, eqB]
 simp only [HS] at h1
 refine W_skip (tN (sQ (sQ (kY [2,3,4] rfl (rG (eK 5 rfl (oN (tN ?_))))))))
 refine W_cond rfl (fun h2 => ?_) (fun h2 => ?_)
 ·
  simp only [HS] at h2
  refine sQ (rG (eZ rfl (oN (tN (rT (tR (eR ?_)))))))
  ·simp_all [eqStmt, eqI, eqB]
 simp only [HS] at h2
 refine W_skip (tN (sQ (sQ (rG (eK 4 rfl (kZ [2,3,4,16,18] rfl (callB ?_)))))))
 refine ⟨_, eqTokS_fun _ _ (by first | exact ha.1) (by first | exact hb.1), rfl, ?_⟩
 refine eZ rfl (oN (tN ?_))
 refine W_cond rfl (fun h3 => ?_) (fun h3 => ?_)
 ·
  simp only [HS] at h3
  refine sQ (rG (eZ rfl (oN (tN (rT (tR (eR ?_)))))))
  ·simp_all [eqStmt, eqI, eqB]
 simp only [HS] at h3
 refine W_skip (tN (sQ (sQ (rG (eK 4 rfl (callB ?_))))))
 refine ⟨_, eqIntSo_fun _ _ (by first | exact ha.2.1 | exact ha.2.2.1) (by first | exact hb.2.1 | exact hb.2.2.1), rfl, ?_⟩
 refine eZ rfl (oN (tN ?_))
 refine W_cond rfl (fun h4 => ?_) (fun h4 => ?_)
 ·
  simp only [HS] at h4
  refine sQ (kY [2,3,4] rfl (rG (eZ rfl (oN (tN (rT (tR (eR ?_))))))))
  ·simp_all [eqStmt, eqI, eqB]
 simp only [HS] at h4
 refine W_skip (tN (sQ (sQ (kY [2,3,4] rfl (rG (eK 4 rfl (callB ?_)))))))
 refine ⟨_, eqIntSo_fun _ _ (by first | exact ha.2.1 | exact ha.2.2.1) (by first | exact hb.2.1 | exact hb.2.2.1), rfl, ?_⟩
 refine eZ rfl (oN (tN ?_))
 refine W_cond rfl (fun h5 => ?_) (fun h5 => ?_)
 ·
  simp only [HS] at h5
  refine sQ (rG (eZ rfl (oN (tN (rT (tR (eR ?_)))))))
  ·simp_all [eqStmt, eqI, eqB]
 simp only [HS] at h5
 refine W_skip (tN (sQ (rG (eZ rfl (oN (tN (rT (eR ?_))))))))
 ·simp_all [eqStmt, eqI, eqB]

abbrev T.Stmts (l : List (Stmt)) : T := .list 5 (l.map Stmt.tt)
theorem szStmtS_g : SzG (szL szStmt) (okL 1048576 (Stmt.ok 1048576)) := szL_g szStmt_g

theorem szStmtS_fun (l : List (Stmt)) (left : Int) (hl : okL 9223372036854775807 (Stmt.ok 9223372036854775807) l) (h0 : 0 ≤ left) (hh : left ≤ 1048576) : Fun Tryz.prog 118 [.t (T.Stmts l), .t (.int left)] (tupD [.t (.int (szL szStmt l left))]) := by
 have hl1 := hl.1
 refine Fun.begin tys Tryz.func118 rfl rfl (N := 27) [(0, .t (T.Stmts l)), (1, .t (.int left))] rfl rfl (fun w0 G F0 => ?_)
 refine sQ (rG (eZ rfl (oN (tN (sQ (rG (eK 2 rfl (evE ?_))))))))
 refine evI ?_
 refine eZ rfl (oN (tN (sQ (sQ (rG (eK 2 rfl (oN (tN ?_))))))))
 refine W_cond rfl (fun h1 => ?_) (fun h1 => ?_)
 ·
  simp only [HS] at h1
  refine sQ (kY [0,1,4] rfl (rG (eZ rfl (oN (tN (rT (tR (eR ?_))))))))
  ·rw [szL, if_pos h1]
   done
 simp only [HS] at h1
 refine W_skip (tN (sQ (sQ (kY [0,1,4] rfl (rG (eZ rfl (oN (tN (W_block ?_)))))))))
 refine lK (α := Int × Int) [0] [] (fun x => [(5, .t (.int (x.1))), (1, .t (.int (x.2)))]) (fun x => []) (fun x => 0 ≤ (x.1) ∧ (x.1) ≤ l.length ∧ 0 ≤ (x.2) ∧ (x.2) ≤ 1048576 ∧ szGo szStmt l (left - l.length) = szGo szStmt (l.drop (x.1).toNat) (x.2)) (fun x => Int.toNat (l.length - (x.1))) (0, left - l.length) ?_ (fun x hx => ?_)
 ·exact ⟨by omega, by omega, by omega, by omega, by simp⟩
 obtain ⟨k, lf⟩ := x
 obtain ⟨hk0, hk1, hk2, hk3, hk4⟩ := hx
 dsimp only at hk0 hk1 hk2 hk3 hk4 ⊢
 refine nY rfl (sQ (sQ (rG (eK 2 rfl (evE ?_)))))
 refine eZ rfl (oN (tN ?_))
 refine W_cond rfl (fun h2 => ?_) (fun h2 => ?_)
 ·
  simp only [HS] at h2
  refine W_skip (tN (sQ (W_block (sQ (rG (eK 2 rfl (WO_idxT tys rfl rfl (lt_of rfl) rfl rfl rfl rfl rfl rfl rfl (by omega) _ (getT _ _ (by omega) (by omega)) (eZ rfl ?_))))))))
  try refine WO_le (Le.freeze (u := 21) rfl) ?_
  refine nZ rfl (eZ rfl (kZ [0,1,5,12,13,14,15,18,19,20,21,22] rfl (callB ?_)))
  refine ⟨_, szStmt_fun _ _ (hl.2 _ (List.getElem_mem _)) (by omega) (by omega), rfl, ?_⟩
  refine eZ rfl (oN (tN (sQ (rG (eK 2 rfl (oN (tN ?_)))))))
  refine W_cond rfl (fun h3 => ?_) (fun h3 => ?_)
  ·
   simp only [HS] at h3
   refine sQ (rG (eZ rfl (oN (tN (rT (bR (tR (loopQ_r (bR (tR (eR ?_)))))))))))
   ·(rw [szL, if_neg (by omega), hk4, drop_at hk0 (by omega), szGo, if_pos h3]; done)
  simp only [HS] at h3
  refine W_skip (bN (tN (rG (eZ rfl (evI ?_)))))
  refine eZ rfl (oN ?_)
  refine lQ (_, _) ?_ ?_
  ·dsimp only
   (have hb := szStmt_g (l[k.toNat]'(by omega)) lf hk2 hk3; refine ⟨by omega, by omega, by omega, by omega, ?_⟩; rw [hk4, drop_at hk0 (by omega), szGo, if_neg (by omega)])
  ·(show Int.toNat _ < Int.toNat _); omega
 simp only [HS] at h2
 refine W_exit (tE (loopQ_e (inBlk_y (tN (sQ (rG (eK 2 rfl (oN (tN (rT (eR ?_)))))))))))
 ·(rw [szL, if_neg (by omega), hk4, drop_end (by omega), szGo]; done)

theorem toStmtS_fun (l : List (Stmt)) (hl : okL 1048576 (Stmt.ok 1048576) l) : Fun Tryz.prog 124 [.t (T.Stmts l)] (tupD [.own (T.Stmts l)]) := by
 have hl1 := hl.1
 refine Fun.begin tys Tryz.func124 rfl rfl (N := 23) [(0, .t (T.Stmts l))] rfl rfl (fun w0 G F0 => ?_)
 refine sQ (rG (eZ rfl (oN (tN (sQ (rG (eZ rfl (evE ?_))))))))
 refine WO_make tys (.agg [.v (.int .i64 0), .v (.int .i64 0), .list 2 [], .list 1 [], .list 1 []]) _ rfl rfl (lt_of rfl) rfl rfl rfl rfl rfl (by repeat (first | exact AbsL.nil' | refine AbsL.v' ?_ | refine AbsL.none' ?_)) rfl (by omega) (by decide) ?_
 refine nZ rfl (eZ rfl (oN (tN (sQ (sQ (rG (eZ rfl (oN (tN (W_block ?_))))))))))
 refine lK (α := Int × List T) [0, 3] [] (fun x => [(4, .t (.int (x.1)))]) (fun x => [(7, .L 5 (x.2))]) (fun x => 0 ≤ (x.1) ∧ (x.1) ≤ l.length ∧ (x.2).length = l.length ∧ (x.2).take (x.1).toNat = (l.take (x.1).toNat).map Stmt.tt) (fun x => Int.toNat (l.length - (x.1))) (0, List.replicate l.length (.agg [.v (.int .i64 0), .v (.int .i64 0), .list 2 [], .list 1 [], .list 1 []])) ?_ (fun x hx => ?_)
 ·exact ⟨by omega, by omega, by simp, by simp⟩
 obtain ⟨k, xs⟩ := x
 obtain ⟨hk0, hk1, hk2, hk3⟩ := hx
 dsimp only at hk0 hk1 hk2 hk3 ⊢
 refine nY rfl (sQ (sQ (rG (eK 2 rfl (evE ?_)))))
 refine eZ rfl (oN (tN ?_))
 refine W_cond rfl (fun h1 => ?_) (fun h1 => ?_)
 ·
  simp only [HS] at h1
  refine W_skip (tN (sQ (W_block (rG (eK 4 rfl (WO_idxT tys rfl rfl (lt_of rfl) rfl rfl rfl rfl rfl rfl rfl (by omega) _ (getT _ _ (by omega) (by omega)) (kZ [0,3,4,8,9,10,11,14,15,16,17,18] rfl (eZ rfl ?_))))))))
  try refine WO_le (Le.freeze (u := 19) rfl) ?_
  refine nZ rfl (callB ?_)
  refine ⟨_, toStmt_fun _ (hl.2 _ (List.getElem_mem _)), rfl, ?_⟩
  refine WO_idxS tys rfl rfl (lt_of rfl) rfl rfl rfl rfl rfl rfl rfl rfl (by omega) (by omega) ?_
  refine WO_storeE tys (Stmt.tt _) rfl rfl rfl rfl rfl rfl (by first | exact Nat.zero_add _ | rfl) (by omega) rfl (by repeat (first | exact AbsL.nil' | refine AbsL.v' ?_ | refine AbsL.own' ?_)) rfl rfl rfl ?_
  refine nZ rfl (oN (bN (tN (rG (eZ rfl (evI ?_))))))
  refine eZ rfl (oN ?_)
  refine lQ (_, _) ?_ ?_
  ·dsimp only
   exact ⟨by omega, by omega, by simpa using hk2, by exact fill_step hk0 (by omega) hk2 hk3⟩
  ·(show Int.toNat _ < Int.toNat _); omega
 simp only [HS] at h1
 refine W_exit (tE (loopQ_e (inBlk_y (tN (sQ (rG (eK 2 rfl (oN (tN (W_le (Le.gather (u := 2) (id := 7) rfl rfl (by omega)) (rT (eR ?_))))))))))))
 ·rw [List.take_of_length_le (by omega), fill_end (by omega) hk2 hk3]

theorem eqStmtS_fun (a b : List (Stmt)) (ha : okL 9223372036854775807 (Stmt.ok 9223372036854775807) a) (hb : okL 9223372036854775807 (Stmt.ok 9223372036854775807) b) : Fun Tryz.prog 131 [.t (T.Stmts a), .t (T.Stmts b)] (tupD [.t (.bool (eqL eqStmt a b))]) := by
 have ha1 := ha.1
 have hb1 := hb.1
 refine Fun.begin tys Tryz.func131 rfl rfl (N := 27) [(0, .t (T.Stmts a)), (1, .t (T.Stmts b))] rfl rfl (fun w0 G F0 => ?_)
 refine sQ (rG (eZ rfl (oN (tN (sQ (sQ (rG (eZ rfl (evE ?_)))))))))
 refine eZ rfl (evE ?_)
 refine eZ rfl (oN (tN ?_))
 refine W_cond rfl (fun h1 => ?_) (fun h1 => ?_)
 ·
  simp only [HS] at h1
  refine sQ (rG (eZ rfl (oN (tN (rT (tR (eR ?_)))))))
  ·rw [eqL_len h1]
   done
 simp only [HS] at h1
 refine W_skip (tN (sQ (sQ (rG (eZ rfl (oN (tN (W_block ?_))))))))
 refine lK (α := Int) [0, 1] [] (fun x => [(5, .t (.int x))]) (fun x => []) (fun x => 0 ≤ x ∧ x ≤ a.length ∧ eqGo eqStmt a b = eqGo eqStmt (a.drop x.toNat) (b.drop x.toNat)) (fun x => Int.toNat (a.length - x)) 0 ?_ (fun k hx => ?_)
 ·exact ⟨by omega, by omega, rfl⟩
 obtain ⟨hk0, hk1, hk2⟩ := hx
 refine nY rfl (sQ (sQ (rG (eK 2 rfl (evE ?_)))))
 refine eZ rfl (oN (tN ?_))
 refine W_cond rfl (fun h2 => ?_) (fun h2 => ?_)
 ·
  simp only [HS] at h2
  refine W_skip (tN (sQ (W_block (sQ (W_regionD mixed (by kernel_rfl) (evQ ?_))))))
  refine evQ ?_
  refine QL_norm rfl (QL_idxT tys rfl rfl (lt_of rfl) rfl rfl rfl rfl rfl rfl rfl (by omega) _ (getT _ _ (by omega) (by omega)) (evQ ?_))
  refine evQ ?_
  refine evQ ?_
  refine QL_idxT tys rfl rfl (lt_of rfl) rfl rfl rfl rfl rfl rfl rfl (by omega) _ (getT _ _ (by omega) (by omega)) (evQ ?_)
  refine QL_norm rfl (callBQ ?_)
  refine ⟨_, eqStmt_fun _ _ (ha.2 _ (List.getElem_mem _)) (hb.2 _ (List.getElem_mem _)), rfl, ?_⟩
  refine evQ ?_
  refine QL_nil (tN ?_)
  refine W_cond rfl (fun h3 => ?_) (fun h3 => ?_)
  ·
   simp only [HS] at h3
   refine sQ (rG (eZ rfl (oN (tN (rT (bR (tR (loopQ_r (bR (tR (eR ?_)))))))))))
   ·rw [eqL_eq h1, hk2, eqGo_at hk0 h2 h1]
    simp [h3]
    done
  simp only [HS] at h3
  refine W_skip (bN (tN (rG (eZ rfl (evI ?_)))))
  refine eZ rfl (oN ?_)
  refine lQ _ ?_ ?_
  ·skip
   refine ⟨by omega, by omega, ?_⟩; rw [hk2, eqGo_at hk0 h2 h1]; simp [h3]
  ·(show Int.toNat _ < Int.toNat _); omega
 simp only [HS] at h2
 refine W_exit (tE (loopQ_e (inBlk_y (tN (sQ (rG (eZ rfl (oN (tN (rT (eR ?_)))))))))))
 ·rw [eqL_eq h1, hk2, drop_end h2]
  rfl

structure Func where
 params : Int
 vars : Int
 body : List Int
 stmts : List (Stmt)

def Func.tt (x : Func) : T := .agg [T.int x.params, T.int x.vars, T.ints x.body, T.Stmts x.stmts]

def Func.ok (B : Nat) (x : Func) : Prop := okN B x.body ∧ okL B (Stmt.ok B) x.stmts ∧ True

def szFunc (x : Func) : Int → Int := szSeq [szIntS x.body, (szL szStmt) x.stmts]

theorem szFunc_g : SzG szFunc (Func.ok 1048576) := fun x left h0 hh => by
 have := szSeq_step (szIntS_g x.body) (szSeq_step (szStmtS_g x.stmts) (szSeq_nil))
 exact this left h0 hh

def eqFunc (a b : Func) : Bool := eqI a.params b.params && eqI a.vars b.vars && (eqL eqI) a.body b.body && (eqL eqStmt) a.stmts b.stmts && true

theorem eqFunc_refl (a : Func) : eqFunc a a = true := by
 unfold eqFunc; simp only [eqI_refl, eqL_refl eqI_refl, eqL_refl eqStmt_refl, Bool.and_self]

theorem szFunc_fun (x : Func) (left : Int) (hx : Func.ok 9223372036854775807 x) (h0 : 0 ≤ left) (hh : left ≤ 1048576) : Fun Tryz.prog 64 [.t (Func.tt x), .t (.int left)] (tupD [.t (.int (szFunc x left))]) := by
 refine Fun.begin tys Tryz.func64 rfl rfl (N := 18) [(0, .t (Func.tt x)), (1, .t (.int left))] rfl rfl (fun w0 G F0 => ?_)
 refine sQ (rG (WO_box rfl rfl (lt_of rfl) rfl rfl (nZ rfl (eZ rfl (oN (tN (sQ (rG (eK 3 rfl (callB ?_))))))))))
 refine ⟨_, szIntSo_fun _ _ (hx.1) (by omega) (by  omega), rfl, ?_⟩
 refine eZ rfl (oN (tN (sQ (sQ (kY [1,2,4] rfl (rG (eK 2 rfl (oN (tN ?_)))))))))
 refine W_cond rfl (fun h1 => ?_) (fun h1 => ?_)
 ·
  simp only [HS] at h1
  refine sQ (rG (eZ rfl (oN (tN (rT (tR (eR ?_)))))))
  ·(simp only [szFunc, szSeq]; repeat (first | rw [if_neg (by omega)] | rw [if_pos (by omega)]))
 simp only [HS] at h1
 refine W_skip (tN (sQ (rG (eK 3 rfl (callB ?_)))))
 refine ⟨_, szStmtS_fun _ _ (hx.2.1) (by omega) (by have g0 := szIntS_g x.body left (by omega) (by omega); omega), rfl, ?_⟩
 refine eZ rfl (oN (tN (sQ (sQ (kY [1,4] rfl (rG (eK 2 rfl (oN (tN ?_)))))))))
 refine W_cond rfl (fun h2 => ?_) (fun h2 => ?_)
 ·
  simp only [HS] at h2
  refine sQ (rG (eZ rfl (oN (tN (rT (tR (eR ?_)))))))
  ·(simp only [szFunc, szSeq]; repeat (first | rw [if_neg (by omega)] | rw [if_pos (by omega)]))
 simp only [HS] at h2
 refine W_skip (tN (sQ (rG (eK 2 rfl (oN (tN (rT (eR ?_))))))))
 ·(simp only [szFunc, szSeq]; repeat (first | rw [if_neg (by omega)] | rw [if_pos (by omega)]))

theorem toFunc_fun (x : Func) (hx : Func.ok 1048576 x) : Fun Tryz.prog 69 [.t (Func.tt x)] (tupD [.agg [.t (T.int x.params), .t (T.int x.vars), .own (T.ints x.body), .own (T.Stmts x.stmts)]]) := by
 refine Fun.begin tys Tryz.func69 rfl rfl (N := 19) [(0, .t (Func.tt x))] rfl rfl (fun w0 G F0 => ?_)
 refine sQ (rG (WO_box rfl rfl (lt_of rfl) rfl rfl (nZ rfl (WO_alloc tys rfl rfl (lt_of rfl) rfl rfl rfl (nZ rfl (oN (tN (sQ (rG (WO_alloc tys rfl rfl (lt_of rfl) rfl rfl rfl (nZ rfl (oN (tN (sQ (rG ?_)))))))))))))))
 refine eK 3 rfl (sT rfl (nZ rfl (oN (tN (sQ (kY [1,2,3] rfl (rG (eK 3 rfl (sT rfl (nZ rfl (oN (tN (sQ (rG (eK 2 rfl ?_)))))))))))))))
 refine callB ?_
 refine ⟨_, toIntSo_fun _ (by first | exact hx.1), rfl, ?_⟩
 refine eZ rfl (sT rfl (nZ rfl (kZ [1,2,3] rfl (oN (tN (sQ (rG (eK 2 rfl (callB ?_)))))))))
 refine ⟨_, toStmtS_fun _ (by first | exact hx.2.1), rfl, ?_⟩
 refine eZ rfl (sT rfl (nZ rfl (oN (tN (sQ (rG (WO_loadMove tys rfl rfl (lt_of rfl) rfl rfl rfl rfl rfl rfl (nZ rfl (sT rfl (nZ rfl (oN (tN (rT (eR ?_))))))))))))))
 ·rfl

theorem eqFunc_fun (a b : Func) (ha : Func.ok 9223372036854775807 a) (hb : Func.ok 9223372036854775807 b) : Fun Tryz.prog 74 [.t (Func.tt a), .t (Func.tt b)] (tupD [.t (.bool (eqFunc a b))]) := by
 refine Fun.begin tys Tryz.func74 rfl rfl (N := 27) [(0, .t (Func.tt a)), (1, .t (Func.tt b))] rfl rfl (fun w0 G F0 => ?_)
 refine sQ (rG (WO_box rfl rfl (lt_of rfl) rfl rfl (nZ rfl (WO_box rfl rfl (lt_of rfl) rfl rfl (nZ rfl (eZ rfl (oN (tN (sQ (sQ (rG (eK 5 rfl (oN (tN ?_))))))))))))))
 refine W_cond rfl (fun h1 => ?_) (fun h1 => ?_)
 ·
  simp only [HS] at h1
  refine sQ (kY [2,3,4] rfl (rG (eZ rfl (oN (tN (rT (tR (eR ?_))))))))
  ·simp_all [eqFunc, eqI, eqB]
 simp only [HS] at h1
 refine W_skip (tN (sQ (sQ (kY [2,3,4] rfl (rG (eK 5 rfl (oN (tN ?_))))))))
 refine W_cond rfl (fun h2 => ?_) (fun h2 => ?_)
 ·
  simp only [HS] at h2
  refine sQ (rG (eZ rfl (oN (tN (rT (tR (eR ?_)))))))
  ·simp_all [eqFunc, eqI, eqB]
 simp only [HS] at h2
 refine W_skip (tN (sQ (sQ (rG (eK 4 rfl (kZ [2,3,4,16,18] rfl (callB ?_)))))))
 refine ⟨_, eqIntSo_fun _ _ (by first | exact ha.1) (by first | exact hb.1), rfl, ?_⟩
 refine eZ rfl (oN (tN ?_))
 refine W_cond rfl (fun h3 => ?_) (fun h3 => ?_)
 ·
  simp only [HS] at h3
  refine sQ (rG (eZ rfl (oN (tN (rT (tR (eR ?_)))))))
  ·simp_all [eqFunc, eqI, eqB]
 simp only [HS] at h3
 refine W_skip (tN (sQ (sQ (rG (eK 4 rfl (callB ?_))))))
 refine ⟨_, eqStmtS_fun _ _ (by first | exact ha.2.1) (by first | exact hb.2.1), rfl, ?_⟩
 refine eZ rfl (oN (tN ?_))
 refine W_cond rfl (fun h4 => ?_) (fun h4 => ?_)
 ·
  simp only [HS] at h4
  refine sQ (kY [4] rfl (rG (eZ rfl (oN (tN (rT (tR (eR ?_))))))))
  ·simp_all [eqFunc, eqI, eqB]
 simp only [HS] at h4
 refine W_skip (tN (sQ (kY [4] rfl (rG (eZ rfl (oN (tN (rT (eR ?_)))))))))
 ·simp_all [eqFunc, eqI, eqB]

abbrev T.Funcs (l : List (Func)) : T := .list 4 (l.map Func.tt)
theorem szFuncS_g : SzG (szL szFunc) (okL 1048576 (Func.ok 1048576)) := szL_g szFunc_g

theorem szFuncS_fun (l : List (Func)) (left : Int) (hl : okL 9223372036854775807 (Func.ok 9223372036854775807) l) (h0 : 0 ≤ left) (hh : left ≤ 1048576) : Fun Tryz.prog 33 [.t (T.Funcs l), .t (.int left)] (tupD [.t (.int (szL szFunc l left))]) := by
 have hl1 := hl.1
 refine Fun.begin tys Tryz.func33 rfl rfl (N := 27) [(0, .t (T.Funcs l)), (1, .t (.int left))] rfl rfl (fun w0 G F0 => ?_)
 refine sQ (rG (eZ rfl (oN (tN (sQ (rG (eK 2 rfl (evE ?_))))))))
 refine evI ?_
 refine eZ rfl (oN (tN (sQ (sQ (rG (eK 2 rfl (oN (tN ?_))))))))
 refine W_cond rfl (fun h1 => ?_) (fun h1 => ?_)
 ·
  simp only [HS] at h1
  refine sQ (kY [0,1,4] rfl (rG (eZ rfl (oN (tN (rT (tR (eR ?_))))))))
  ·rw [szL, if_pos h1]
   done
 simp only [HS] at h1
 refine W_skip (tN (sQ (sQ (kY [0,1,4] rfl (rG (eZ rfl (oN (tN (W_block ?_)))))))))
 refine lK (α := Int × Int) [0] [] (fun x => [(5, .t (.int (x.1))), (1, .t (.int (x.2)))]) (fun x => []) (fun x => 0 ≤ (x.1) ∧ (x.1) ≤ l.length ∧ 0 ≤ (x.2) ∧ (x.2) ≤ 1048576 ∧ szGo szFunc l (left - l.length) = szGo szFunc (l.drop (x.1).toNat) (x.2)) (fun x => Int.toNat (l.length - (x.1))) (0, left - l.length) ?_ (fun x hx => ?_)
 ·exact ⟨by omega, by omega, by omega, by omega, by simp⟩
 obtain ⟨k, lf⟩ := x
 obtain ⟨hk0, hk1, hk2, hk3, hk4⟩ := hx
 dsimp only at hk0 hk1 hk2 hk3 hk4 ⊢
 refine nY rfl (sQ (sQ (rG (eK 2 rfl (evE ?_)))))
 refine eZ rfl (oN (tN ?_))
 refine W_cond rfl (fun h2 => ?_) (fun h2 => ?_)
 ·
  simp only [HS] at h2
  refine W_skip (tN (sQ (W_block (sQ (rG (eK 2 rfl (WO_idxT tys rfl rfl (lt_of rfl) rfl rfl rfl rfl rfl rfl rfl (by omega) _ (getT _ _ (by omega) (by omega)) (eZ rfl ?_))))))))
  try refine WO_le (Le.freeze (u := 21) rfl) ?_
  refine nZ rfl (eZ rfl (kZ [0,1,5,12,13,14,15,18,19,20,21,22] rfl (callB ?_)))
  refine ⟨_, szFunc_fun _ _ (hl.2 _ (List.getElem_mem _)) (by omega) (by omega), rfl, ?_⟩
  refine eZ rfl (oN (tN (sQ (rG (eK 2 rfl (oN (tN ?_)))))))
  refine W_cond rfl (fun h3 => ?_) (fun h3 => ?_)
  ·
   simp only [HS] at h3
   refine sQ (rG (eZ rfl (oN (tN (rT (bR (tR (loopQ_r (bR (tR (eR ?_)))))))))))
   ·(rw [szL, if_neg (by omega), hk4, drop_at hk0 (by omega), szGo, if_pos h3]; done)
  simp only [HS] at h3
  refine W_skip (bN (tN (rG (eZ rfl (evI ?_)))))
  refine eZ rfl (oN ?_)
  refine lQ (_, _) ?_ ?_
  ·dsimp only
   (have hb := szFunc_g (l[k.toNat]'(by omega)) lf hk2 hk3; refine ⟨by omega, by omega, by omega, by omega, ?_⟩; rw [hk4, drop_at hk0 (by omega), szGo, if_neg (by omega)])
  ·(show Int.toNat _ < Int.toNat _); omega
 simp only [HS] at h2
 refine W_exit (tE (loopQ_e (inBlk_y (tN (sQ (rG (eK 2 rfl (oN (tN (rT (eR ?_)))))))))))
 ·(rw [szL, if_neg (by omega), hk4, drop_end (by omega), szGo]; done)

theorem toFuncS_fun (l : List (Func)) (hl : okL 1048576 (Func.ok 1048576) l) : Fun Tryz.prog 36 [.t (T.Funcs l)] (tupD [.own (T.Funcs l)]) := by
 have hl1 := hl.1
 refine Fun.begin tys Tryz.func36 rfl rfl (N := 23) [(0, .t (T.Funcs l))] rfl rfl (fun w0 G F0 => ?_)
 refine sQ (rG (eZ rfl (oN (tN (sQ (rG (eZ rfl (evE ?_))))))))
 refine WO_make tys (.agg [.v (.int .i64 0), .v (.int .i64 0), .list 1 [], .list 5 []]) _ rfl rfl (lt_of rfl) rfl rfl rfl rfl rfl (by repeat (first | exact AbsL.nil' | refine AbsL.v' ?_ | refine AbsL.none' ?_)) rfl (by omega) (by decide) ?_
 refine nZ rfl (eZ rfl (oN (tN (sQ (sQ (rG (eZ rfl (oN (tN (W_block ?_))))))))))
 refine lK (α := Int × List T) [0, 3] [] (fun x => [(4, .t (.int (x.1)))]) (fun x => [(7, .L 4 (x.2))]) (fun x => 0 ≤ (x.1) ∧ (x.1) ≤ l.length ∧ (x.2).length = l.length ∧ (x.2).take (x.1).toNat = (l.take (x.1).toNat).map Func.tt) (fun x => Int.toNat (l.length - (x.1))) (0, List.replicate l.length (.agg [.v (.int .i64 0), .v (.int .i64 0), .list 1 [], .list 5 []])) ?_ (fun x hx => ?_)
 ·exact ⟨by omega, by omega, by simp, by simp⟩
 obtain ⟨k, xs⟩ := x
 obtain ⟨hk0, hk1, hk2, hk3⟩ := hx
 dsimp only at hk0 hk1 hk2 hk3 ⊢
 refine nY rfl (sQ (sQ (rG (eK 2 rfl (evE ?_)))))
 refine eZ rfl (oN (tN ?_))
 refine W_cond rfl (fun h1 => ?_) (fun h1 => ?_)
 ·
  simp only [HS] at h1
  refine W_skip (tN (sQ (W_block (rG (eK 4 rfl (WO_idxT tys rfl rfl (lt_of rfl) rfl rfl rfl rfl rfl rfl rfl (by omega) _ (getT _ _ (by omega) (by omega)) (kZ [0,3,4,8,9,10,11,14,15,16,17,18] rfl (eZ rfl ?_))))))))
  try refine WO_le (Le.freeze (u := 19) rfl) ?_
  refine nZ rfl (callB ?_)
  refine ⟨_, toFunc_fun _ (hl.2 _ (List.getElem_mem _)), rfl, ?_⟩
  refine WO_idxS tys rfl rfl (lt_of rfl) rfl rfl rfl rfl rfl rfl rfl rfl (by omega) (by omega) ?_
  refine WO_storeE tys (Func.tt _) rfl rfl rfl rfl rfl rfl (by first | exact Nat.zero_add _ | rfl) (by omega) rfl (by repeat (first | exact AbsL.nil' | refine AbsL.v' ?_ | refine AbsL.own' ?_)) rfl rfl rfl ?_
  refine nZ rfl (oN (bN (tN (rG (eZ rfl (evI ?_))))))
  refine eZ rfl (oN ?_)
  refine lQ (_, _) ?_ ?_
  ·dsimp only
   exact ⟨by omega, by omega, by simpa using hk2, by exact fill_step hk0 (by omega) hk2 hk3⟩
  ·(show Int.toNat _ < Int.toNat _); omega
 simp only [HS] at h1
 refine W_exit (tE (loopQ_e (inBlk_y (tN (sQ (rG (eK 2 rfl (oN (tN (W_le (Le.gather (u := 2) (id := 7) rfl rfl (by omega)) (rT (eR ?_))))))))))))
 ·rw [List.take_of_length_le (by omega), fill_end (by omega) hk2 hk3]

theorem eqFuncS_fun (a b : List (Func)) (ha : okL 9223372036854775807 (Func.ok 9223372036854775807) a) (hb : okL 9223372036854775807 (Func.ok 9223372036854775807) b) : Fun Tryz.prog 40 [.t (T.Funcs a), .t (T.Funcs b)] (tupD [.t (.bool (eqL eqFunc a b))]) := by
 have ha1 := ha.1
 have hb1 := hb.1
 refine Fun.begin tys Tryz.func40 rfl rfl (N := 27) [(0, .t (T.Funcs a)), (1, .t (T.Funcs b))] rfl rfl (fun w0 G F0 => ?_)
 refine sQ (rG (eZ rfl (oN (tN (sQ (sQ (rG (eZ rfl (evE ?_)))))))))
 refine eZ rfl (evE ?_)
 refine eZ rfl (oN (tN ?_))
 refine W_cond rfl (fun h1 => ?_) (fun h1 => ?_)
 ·
  simp only [HS] at h1
  refine sQ (rG (eZ rfl (oN (tN (rT (tR (eR ?_)))))))
  ·rw [eqL_len h1]
   done
 simp only [HS] at h1
 refine W_skip (tN (sQ (sQ (rG (eZ rfl (oN (tN (W_block ?_))))))))
 refine lK (α := Int) [0, 1] [] (fun x => [(5, .t (.int x))]) (fun x => []) (fun x => 0 ≤ x ∧ x ≤ a.length ∧ eqGo eqFunc a b = eqGo eqFunc (a.drop x.toNat) (b.drop x.toNat)) (fun x => Int.toNat (a.length - x)) 0 ?_ (fun k hx => ?_)
 ·exact ⟨by omega, by omega, rfl⟩
 obtain ⟨hk0, hk1, hk2⟩ := hx
 refine nY rfl (sQ (sQ (rG (eK 2 rfl (evE ?_)))))
 refine eZ rfl (oN (tN ?_))
 refine W_cond rfl (fun h2 => ?_) (fun h2 => ?_)
 ·
  simp only [HS] at h2
  refine W_skip (tN (sQ (W_block (sQ (W_regionD mixed (by kernel_rfl) (evQ ?_))))))
  refine evQ ?_
  refine QL_norm rfl (QL_idxT tys rfl rfl (lt_of rfl) rfl rfl rfl rfl rfl rfl rfl (by omega) _ (getT _ _ (by omega) (by omega)) (evQ ?_))
  refine evQ ?_
  refine evQ ?_
  refine QL_idxT tys rfl rfl (lt_of rfl) rfl rfl rfl rfl rfl rfl rfl (by omega) _ (getT _ _ (by omega) (by omega)) (evQ ?_)
  refine QL_norm rfl (callBQ ?_)
  refine ⟨_, eqFunc_fun _ _ (ha.2 _ (List.getElem_mem _)) (hb.2 _ (List.getElem_mem _)), rfl, ?_⟩
  refine evQ ?_
  refine QL_nil (tN ?_)
  refine W_cond rfl (fun h3 => ?_) (fun h3 => ?_)
  ·
   simp only [HS] at h3
   refine sQ (rG (eZ rfl (oN (tN (rT (bR (tR (loopQ_r (bR (tR (eR ?_)))))))))))
   ·rw [eqL_eq h1, hk2, eqGo_at hk0 h2 h1]
    simp [h3]
    done
  simp only [HS] at h3
  refine W_skip (bN (tN (rG (eZ rfl (evI ?_)))))
  refine eZ rfl (oN ?_)
  refine lQ _ ?_ ?_
  ·skip
   refine ⟨by omega, by omega, ?_⟩; rw [hk2, eqGo_at hk0 h2 h1]; simp [h3]
  ·(show Int.toNat _ < Int.toNat _); omega
 simp only [HS] at h2
 refine W_exit (tE (loopQ_e (inBlk_y (tN (sQ (rG (eZ rfl (oN (tN (rT (eR ?_)))))))))))
 ·rw [eqL_eq h1, hk2, drop_end h2]
  rfl

structure Prog where
 funcs : List (Func)

def Prog.tt (x : Prog) : T := .agg [T.Funcs x.funcs]

def Prog.ok (B : Nat) (x : Prog) : Prop := okL B (Func.ok B) x.funcs ∧ True

def szProg (x : Prog) : Int → Int := szSeq [(szL szFunc) x.funcs]

theorem szProg_g : SzG szProg (Prog.ok 1048576) := fun x left h0 hh => by
 have := szSeq_step (szFuncS_g x.funcs) (szSeq_nil)
 exact this left h0 hh

def eqProg (a b : Prog) : Bool := (eqL eqFunc) a.funcs b.funcs && true

theorem eqProg_refl (a : Prog) : eqProg a a = true := by
 unfold eqProg; simp only [eqL_refl eqFunc_refl, Bool.and_self]

theorem szProg_fun (x : Prog) (left : Int) (hx : Prog.ok 9223372036854775807 x) (h0 : 0 ≤ left) (hh : left ≤ 1048576) : Fun Tryz.prog 7 [.t (Prog.tt x), .t (.int left)] (tupD [.t (.int (szProg x left))]) := by
 refine Fun.begin tys Tryz.func7 rfl rfl (N := 12) [(0, .t (Prog.tt x)), (1, .t (.int left))] rfl rfl (fun w0 G F0 => ?_)
 refine sQ (rG (WO_box rfl rfl (lt_of rfl) rfl rfl (nZ rfl (eZ rfl (oN (tN (sQ (rG (eK 3 rfl (callB ?_))))))))))
 refine ⟨_, szFuncS_fun _ _ (hx.1) (by omega) (by  omega), rfl, ?_⟩
 refine eZ rfl (oN (tN (sQ (sQ (kY [1,4] rfl (rG (eK 2 rfl (oN (tN ?_)))))))))
 refine W_cond rfl (fun h1 => ?_) (fun h1 => ?_)
 ·
  simp only [HS] at h1
  refine sQ (rG (eZ rfl (oN (tN (rT (tR (eR ?_)))))))
  ·(simp only [szProg, szSeq]; repeat (first | rw [if_neg (by omega)] | rw [if_pos (by omega)]))
 simp only [HS] at h1
 refine W_skip (tN (sQ (rG (eK 2 rfl (oN (tN (rT (eR ?_))))))))
 ·(simp only [szProg, szSeq]; repeat (first | rw [if_neg (by omega)] | rw [if_pos (by omega)]))

theorem toProg_fun (x : Prog) (hx : Prog.ok 1048576 x) : Fun Tryz.prog 9 [.t (Prog.tt x)] (tupD [.agg [.own (T.Funcs x.funcs)]]) := by
 refine Fun.begin tys Tryz.func9 rfl rfl (N := 9) [(0, .t (Prog.tt x))] rfl rfl (fun w0 G F0 => ?_)
 refine sQ (rG (WO_box rfl rfl (lt_of rfl) rfl rfl (nZ rfl (WO_alloc tys rfl rfl (lt_of rfl) rfl rfl rfl (nZ rfl (oN (tN (sQ (rG (WO_alloc tys rfl rfl (lt_of rfl) rfl rfl rfl (nZ rfl (oN (tN (sQ (rG ?_)))))))))))))))
 refine eK 2 rfl (callB ?_)
 refine ⟨_, toFuncS_fun _ (by first | exact hx.1), rfl, ?_⟩
 refine eZ rfl (sT rfl (nZ rfl (oN (tN (sQ (kY [2,3] rfl (rG (WO_loadMove tys rfl rfl (lt_of rfl) rfl rfl rfl rfl rfl rfl (nZ rfl (sT rfl (nZ rfl (oN (tN (rT (eR ?_)))))))))))))))
 ·rfl

theorem eqProg_fun (a b : Prog) (ha : Prog.ok 9223372036854775807 a) (hb : Prog.ok 9223372036854775807 b) : Fun Tryz.prog 12 [.t (Prog.tt a), .t (Prog.tt b)] (tupD [.t (.bool (eqProg a b))]) := by
 refine Fun.begin tys Tryz.func12 rfl rfl (N := 11) [(0, .t (Prog.tt a)), (1, .t (Prog.tt b))] rfl rfl (fun w0 G F0 => ?_)
 refine sQ (rG (WO_box rfl rfl (lt_of rfl) rfl rfl (nZ rfl (WO_box rfl rfl (lt_of rfl) rfl rfl (nZ rfl (eZ rfl (oN (tN (sQ (sQ (rG (eK 4 rfl (callB ?_)))))))))))))
 refine ⟨_, eqFuncS_fun _ _ (by first | exact ha.1) (by first | exact hb.1), rfl, ?_⟩
 refine eZ rfl (kZ [4,10] rfl (oN (tN ?_)))
 refine W_cond rfl (fun h1 => ?_) (fun h1 => ?_)
 ·
  simp only [HS] at h1
  refine sQ (rG (eZ rfl (oN (tN (rT (tR (eR ?_)))))))
  ·simp_all [eqProg, eqI, eqB]
 simp only [HS] at h1
 refine W_skip (tN (sQ (rG (eZ rfl (oN (tN (rT (eR ?_))))))))
 ·simp_all [eqProg, eqI, eqB]

end Go.Proofs.YtimpganophnehaaGreat
