/- Walks and laws of the claim. -/
import Derived.Test.YtddfnpiikkilhaaFa
import Derived.Test.YtddfnpiikkilhaaMe
set_option linter.unusedVariables false
set_option linter.unusedSimpArgs false
set_option maxRecDepth 10000
set_option maxHeartbeats 4000000
namespace Go.Proofs.Ytddfnpiikkilhaa
open Go.Eng
open Go.Eng
abbrev Ns : Value := .slice none 0 0
def Stmt.ts (x : Stmt) : TS := ⟨x.kind, x.n, T.Toks x.ex, T.ints x.thn, T.ints x.els⟩
def DK (cd : List Int) (vars : Int) (params : List Int) : Nat → Bool → Nat → Nat → Cu → Dr
 | 0 => dr0
 | e + 1 => GO cd vars params e
theorem L7 (cd : List Int) (vars : Int) (params : List Int) (e : Nat) (loop : Bool) (n0 d0 : Nat) (c : Cu) : GO cd vars params e loop n0 d0 c = stmL cd vars params (DK cd vars params e) loop (decide (e = 0)) n0 d0 (1 + pickV cd 3 c).toNat [] [] (curC cd 3 c) := by
 cases e <;> rfl
abbrev fnC (p vars : Int) (l : List T) : List D := [.t (T.int p), .t (T.int vars), .nil, .own (.list 5 l)]
def StC (cd : List Int) (vars : Int) (params : List Int) (pv : Value) (e : Nat) : Prop :=
 ∀ (dd : Int) (loop : Bool) (zs : List TS) (p : Int) (c : Cu) (bw fw : Nat), dd = e → zs.length ≤ 12 → 0 ≤ c.1 → c.1 + 200 * (12 - (zs.length : Int)) ≤ 1048576 →
  Proc Try.prog 111 [.t (.v (.pointer (some ⟨bw, 0, none⟩))), .t (.v (.pointer (some ⟨fw, 0, none⟩))), .t (T.ints params), .t (.int dd), .t (.bool loop)] [pv] [T.bytes cd]
   [.obox (.pointer (some ⟨bw, 0, none⟩)) (cuC pv c), .obox (.pointer (some ⟨fw, 0, none⟩)) (fnC p vars (zs.map TS.tt))]
   (.own (T.ints (GO cd vars params e loop zs.length (Ag zs).length c).blk))
   [.obox (.pointer (some ⟨bw, 0, none⟩)) (cuC pv (GO cd vars params e loop zs.length (Ag zs).length c).cu), .obox (.pointer (some ⟨fw, 0, none⟩)) (fnC p vars ((zs ++ (GO cd vars params e loop zs.length (Ag zs).length c).news.map Stmt.ts).map TS.tt))]
theorem QA {z : Int} (h0 : 0 ≤ z) (h1 : z < 2) : exA (1 + z).toNat ≤ 100 := by
 rcases (show z = 0 ∨ z = 1 by omega) with h | h <;> rw [h] <;> decide
theorem El (zs : List TS) (l : List Stmt) : (Ag (zs ++ l.map Stmt.ts)).length = (Ag zs).length + dfs l := by
 rw [Cm, Cm, List.filter_append, Qg, dfs, List.filter_map, Qh];rfl
theorem MB (zs : List TS) (l : List Stmt) : (Ag zs).length + dfs l ≤ zs.length + l.length := by
 rw [Cm, dfs]
 have := List.length_filter_le (fun z : TS => decide (z.k = 3)) zs
 have := List.length_filter_le (fun z : Stmt => decide (z.kind = 3)) l
 omega
theorem MA {x : TS} {y : Stmt} {zs : List TS} {l : List Stmt} (h : x.k = y.kind) : (Ag (zs ++ l.map Stmt.ts ++ [x])).length = (Ag (zs ++ l.map Stmt.ts)).length + dfs [y] := by
 rw [Cm, Cm, List.filter_append, Qg, dfs]
 congr 1
 simp only [List.filter_cons, List.filter_nil, h]
 split <;> rfl
theorem OP {cd : List Int} {vars : Int} {params : List Int} (hcd : Cc cd) (hp : Hb params) : ∀ e : Nat, Lk (DK cd vars params e)
 | 0 => PY
 | e + 1 => JJ hcd hp e
def PrC (cd : List Int) (vars : Int) (params : List Int) (pv : Value) (e : Nat) (dd : Int) (p : Int) (bw fw : Nat) : Prop :=
 ∀ (lp : Bool) (ws : List TS) (n d : Nat) (c : Cu), ws.length = n → (Ag ws).length = d → n ≤ 12 → 0 ≤ c.1 → c.1 + 200 * (12 - (n : Int)) ≤ 1048576 →
  Proc Try.prog 111 [.t (.v (.pointer (some ⟨bw, 0, none⟩))), .t (.v (.pointer (some ⟨fw, 0, none⟩))), .t (T.ints params), .t (.int (dd - 1)), .t (.bool lp)] [pv] [T.bytes cd]
   [.obox (.pointer (some ⟨bw, 0, none⟩)) (cuC pv c), .obox (.pointer (some ⟨fw, 0, none⟩)) (fnC p vars (ws.map TS.tt))]
   (.own (T.ints (DK cd vars params e lp n d c).blk))
   [.obox (.pointer (some ⟨bw, 0, none⟩)) (cuC pv (DK cd vars params e lp n d c).cu), .obox (.pointer (some ⟨fw, 0, none⟩)) (fnC p vars ((ws ++ (DK cd vars params e lp n d c).news.map Stmt.ts).map TS.tt))]
theorem OO {cd : List Int} {vars : Int} {params : List Int} {pv : Value} {e : Nat} {dd p : Int} {bw fw : Nat} (hd : dd = e) (hr : ∀ e', e = e' + 1 → StC cd vars params pv e') (h0 : ¬ e = 0) : PrC cd vars params pv e dd p bw fw := by
 intro lp ws n d c h1 h2 h3 h4 h5
 obtain ⟨e', rfl⟩ := Nat.exists_eq_succ_of_ne_zero h0
 subst h1 h2;exact hr e' rfl (dd - 1) lp ws p c bw fw (by omega) h3 h4 h5
theorem Mj {cd : List Int} {loop : Bool} {vars : Int} {d : Nat} {c : Cu} : ¬ (CR cd loop true vars d c).1 = 7 ∧ ¬ (CR cd loop true vars d c).1 = 8 := by
 unfold CR LM
 repeat' split
 all_goals first | (refine ⟨?_, ?_⟩ <;> simp only <;> omega) | (simp_all; done) | (simp_all; omega)
theorem Ml {cd : List Int} {r : Bool → Nat → Nat → Cu → Dr} {loop : Bool} {k d : Nat} {s : Stmt} {c : Cu} : (kidsR cd r loop k d s c).1.kind = s.kind ∧ (kidsR cd r loop k d s c).1.n = s.n ∧ (kidsR cd r loop k d s c).1.ex = s.ex := by
 unfold kidsR
 repeat' split
 all_goals exact ⟨rfl, rfl, rfl⟩
section
variable {c0 : Ctx} {s : St}
theorem cells5 {k n : Int} {u v w : Value} {z : T} (h : z ∈ T.cells (TS.mk k n (.v u) (.v v) (.v w)).tt) : ∃ y, z = .v y := by
 simp only [TS.tt, T.cells, Qp, List.not_mem_nil, or_false] at h
 rcases h with rfl | rfl | rfl | rfl | rfl <;> exact ⟨_, rfl⟩
theorem Lv : ∀ (l : List TS) (x : T), x ∈ l.map TS.tt → (T.cells x).length = 5 := fun l x h => by
 obtain ⟨z, _, rfl⟩ := RA.1 h
 rfl
theorem Ei (P S : List TS) (z : TS) : ((P ++ z :: S).map TS.tt).flatMap T.cells = (P.map TS.tt).flatMap T.cells ++ ([T.int z.k, T.int z.n, z.a, z.b, z.c] ++ (S.map TS.tt).flatMap T.cells) := by
 rw [Q8, Q4, Ra, Q0];rfl
theorem QM {id idp : Nat} {P S : List TS} {k n : Int} {v : Value} {x b d : T} (hM : lookM s.M id = some (.L 5 ((P ++ TS.mk k n (.v v) b d :: S).map TS.tt))) (h2 : lookM s.M idp = some (.rawV [v] [x])) (hne : (id == idp) = false) :
  Le c0 s ⟨s.fr, (id, .L 5 ((P ++ TS.mk k n x b d :: S).map TS.tt)) :: dropM (some idp) s.M⟩ :=
 Le.claim1 ((P.map TS.tt).flatMap T.cells ++ [T.int k, T.int n]) ([b, d] ++ (S.map TS.tt).flatMap T.cells) hM h2 (by rw [Ei]; simp) (by rw [Ei]; simp) (by simp) (Lv _) hne
theorem QK {id idp : Nat} {P S : List TS} {k n : Int} {v : Value} {x a d : T} (hM : lookM s.M id = some (.L 5 ((P ++ TS.mk k n a (.v v) d :: S).map TS.tt))) (h2 : lookM s.M idp = some (.rawV [v] [x])) (hne : (id == idp) = false) :
  Le c0 s ⟨s.fr, (id, .L 5 ((P ++ TS.mk k n a x d :: S).map TS.tt)) :: dropM (some idp) s.M⟩ :=
 Le.claim1 ((P.map TS.tt).flatMap T.cells ++ [T.int k, T.int n, a]) ([d] ++ (S.map TS.tt).flatMap T.cells) hM h2 (by rw [Ei]; simp) (by rw [Ei]; simp) (by simp) (Lv _) hne
theorem QJ {id idp : Nat} {P S : List TS} {k n : Int} {v : Value} {x a b : T} (hM : lookM s.M id = some (.L 5 ((P ++ TS.mk k n a b (.v v) :: S).map TS.tt))) (h2 : lookM s.M idp = some (.rawV [v] [x])) (hne : (id == idp) = false) :
  Le c0 s ⟨s.fr, (id, .L 5 ((P ++ TS.mk k n a b x :: S).map TS.tt)) :: dropM (some idp) s.M⟩ :=
 Le.claim1 ((P.map TS.tt).flatMap T.cells ++ [T.int k, T.int n, a, b]) ((S.map TS.tt).flatMap T.cells) hM h2 (by rw [Ei]; simp) (by rw [Ei]; simp) (by simp) (Lv _) hne
end
theorem Ga (cd : List Int) (vars : Int) (params : List Int) (e : Nat) (dd : Int) (loop : Bool) (zs : List TS) (p : Int) (c : Cu) (bw fw : Nat) (pv : Value) (hcd : Cc cd) (hp : Hb params) (hfr : 1 ≤ (Dx params).length) (hv6 : 0 ≤ vars ∧ vars ≤ 6) (hd : dd = e) (he : e ≤ 2) (hz : zs.length ≤ 12) (h0 : 0 ≤ c.1) (h1 : c.1 + 200 * (12 - (zs.length : Int)) ≤ 1048576) (hr : ∀ e', e = e' + 1 → StC cd vars params pv e') : Proc Try.prog 111 [.t (.v (.pointer (some ⟨bw, 0, none⟩))), .t (.v (.pointer (some ⟨fw, 0, none⟩))), .t (T.ints params), .t (.int dd), .t (.bool loop)] ([pv]) ([T.bytes cd]) [.obox (.pointer (some ⟨bw, 0, none⟩)) (cuC pv c), .obox (.pointer (some ⟨fw, 0, none⟩)) (fnC p vars (zs.map TS.tt))] (.own (T.ints (GO cd vars params e loop zs.length (Ag zs).length c).blk)) [.obox (.pointer (some ⟨bw, 0, none⟩)) (cuC pv (GO cd vars params e loop zs.length (Ag zs).length c).cu), .obox (.pointer (some ⟨fw, 0, none⟩)) (fnC p vars ((zs ++ (GO cd vars params e loop zs.length (Ag zs).length c).news.map Stmt.ts).map TS.tt))] := by
 have hpl := hp.1
 have hc3 := AM (cd := cd) (n := 3) (c := c)
 have hv3 := Ac (n := 3) (c := c) hcd h0
 have hv3' := hv3.2.1 (by omega)
 refine Proc.intro tys Try.func111 Z Z (N := 210) [100, 101] 99 ([(0, .t (.v (.pointer (some ⟨bw, 0, none⟩)))), (1, .t (.v (.pointer (some ⟨fw, 0, none⟩)))), (2, .t (T.ints params)), (3, .t (.int dd)), (4, .t (.bool loop))]) ([(100, .obox (.pointer (some ⟨bw, 0, none⟩)) (cuC pv c)), (101, .obox (.pointer (some ⟨fw, 0, none⟩)) (fnC p vars (zs.map TS.tt))), (99, .ro [pv] [T.bytes cd])]) Z Z Z Z (by decide) (by decide) Z (fun w0 G F0 => ?_);refine nY Z (AU (Le.openNew (u := 101) 1101 Z Z Z Z Z) (nY Z (AU (Le.named (t := 1) (u := 101) 1101 Z Z) (nY Z (sG (eZ Z (nA (eZ Z (AC (Le.nilOwn (u := 11) 1 Z) (nZ Z (AC (Le.adoptE (u := 11) 111 Z Z) (nZ Z (nB (sQ (sQ ?_)))))))))))))));refine AU (Le.adoptBox (u := 101) (j := 3) (id := 191) Z Z Z) (nY Z (rG (eZ Z ?_)));refine cP [100] (hm := (Ab cd 3 c bw pv hcd h0 (by omega))) (k := ?_);refine nZ Z (evI ?_);refine eZ Z (nB (AF ?_));refine lK (α := Int × List Stmt × List Int × List T × Nat × List T × Nat × Cu) [0, 1, 2, 3, 4] [99, 1101] (fun x => [(12, .t (.int (x.1))), (11, .sl 111 0 (x.2.2.2.2.2.2.1))]) (fun x => [(100, .obox (.pointer (some ⟨bw, 0, none⟩)) (cuC pv (x.2.2.2.2.2.2.2))), (101, .box [.t (T.int p), .t (T.int vars), .nil, .sl 191 0 (x.2.2.2.2.1)]), (191, .L 5 (x.2.2.2.1)), (111, .L 1 (x.2.2.2.2.2.1))]) (fun x => 0 ≤ (x.1) ∧ (x.1) ≤ 3 ∧ zs.length + (x.2.1).length ≤ 12 ∧ (x.2.2.1).length + (x.1) ≤ 3 ∧ (x.2.2.2.2.1) = (x.2.2.2.1).length ∧ (x.2.2.2.1) = (zs ++ (x.2.1).map Stmt.ts).map TS.tt ∧ (x.2.2.2.2.2.2.1) = (x.2.2.2.2.2.1).length ∧ (x.2.2.2.2.2.1) = (x.2.2.1).map T.int ∧ c.1 ≤ (x.2.2.2.2.2.2.2).1 ∧ (x.2.2.2.2.2.2.2).1 ≤ c.1 + 2 + 200 * (x.2.1).length ∧ stmL cd vars params (DK cd vars params e) loop (decide (e = 0)) zs.length (Ag zs).length (x.1).toNat (x.2.2.1) (x.2.1) (x.2.2.2.2.2.2.2) = GO cd vars params e loop zs.length (Ag zs).length c) (fun x => Int.toNat ((x.1))) (1 + pickV cd 3 c, [], [], zs.map TS.tt, (zs.map TS.tt).length, [], 0, curC cd 3 c) ?_ (fun x hx => ?_)
 ·dsimp only
  exact ⟨by omega, by omega, by simpa using hz, by simp; omega, by simp, by simp, rfl, rfl, by omega, by simp; omega, (L7 cd vars params e loop zs.length (Ag zs).length c).symm⟩
 obtain ⟨n, l, b, ys, k, bs, m, c'⟩ := x
 obtain ⟨hn0, hn3, hzl, hbl, hk, hys, hm, hbs, hca, hcb, hre⟩ := hx
 dsimp only at hn0 hn3 hzl hbl hk hys hm hbs hca hcb hre ⊢
 have hkl : k = zs.length + l.length := by rw [hk, hys]; simp
 refine nY Z (sQ (sG (eK 3 Z ?_)));refine gB (fun h1 => ?_) (fun h1 => ?_)
 ·
  simp only [HS] at h1;refine xK 6 Z (kZ [0,1,2,3,4,11,12,21,22,23,24,25,26,27,28,29,30] Z (nB (BC Z (AV (tE (AP (AO (tN (sG (eK 2 Z (nB ?_)))))))))))
  (refine AU (Le.gather (u := 10) (id := 111) rfl rfl (by omega)) ?_; refine A2 rfl ?_; refine AU (Le.gatherBox (u := 101) (j := 3) (id := 191) rfl rfl rfl (by omega) rfl) ?_; refine A2 rfl ?_)
  refine AU (Le.close (u := 101) 1101 Z Z Z) (nY Z (rT ?_));refine eP [_, _] ?_ ?_
  ·have hz0 : (⟨b, l, c'⟩ : Dr) = GO cd vars params e loop zs.length (Ag zs).length c := by
    rw [← hre]
    by_cases hnz : n = 0
    ·subst hnz; rfl
    ·have hn1 : n.toNat = (n - 1).toNat + 1 := by omega
     rw [hn1, stmL, if_pos (by omega)]
   rw [← hz0, hbs, hm, hbs, Qt];rfl
  ·have hz0 : (⟨b, l, c'⟩ : Dr) = GO cd vars params e loop zs.length (Ag zs).length c := by
    rw [← hre]
    by_cases hnz : n = 0
    ·subst hnz; rfl
    ·have hn1 : n.toNat = (n - 1).toNat + 1 := by omega
     rw [hn1, stmL, if_pos (by omega)]
   rw [← hz0, hk, hys, Qt]
 simp only [HS] at h1;refine eZ Z (gY Z (AK rfl Z (AA Z) Z Z Z (xK 2 Z (gY Z (evE ?_)))));refine xZ Z (kZ [0,1,2,3,4,11,12,21,22,23,24,25,26,27,28,29] Z (eZ Z (nB ?_)));refine AD Z (fun h2 => ?_) (fun h2 => ?_)
 ·
  simp only [HS] at h2;refine AE (tN (sQ (AF (sQ ?_))))
  have hn1 : n.toNat = (n - 1).toNat + 1 := by omega
  have hlt : ¬ 12 ≤ zs.length + l.length := by omega
  rw [hn1, stmL, if_neg hlt] at hre
  have hsl := El zs l
  have hsl2 := MB zs l
  have hc11 := AM (cd := cd) (n := 11) (c := c')
  have hv11 := Ac (n := 11) (c := c') hcd (by omega)
  obtain ⟨K0, hK0⟩ : ∃ z, z = at0 0 OZ (pickV cd 11 c') := ⟨_, rfl⟩
  refine rG (eZ Z (AK rfl Z (AA Z) Z Z Z (eK 2 Z (evE ?_))));refine eZ Z (nB (sQ (kY [0,1,2,3,4,11,12,13,21,22,23,24,25,26,27,28,29,30,33,34,35,36,37] Z (rG (eZ Z (bZ [T.int 1, T.int 2, T.int 2, T.int 3, T.int 3, T.int 4, T.int 5, T.int 6, T.int 7, T.int 8, T.int 9] ?_))))));refine nZ Z (AC (Le.gather (u := 39) (id := 39) Z Z (by first | (simp; done) | (simp; omega) | omega)) ?_);refine nZ Z ?_;refine cP [100] (hm := (hK0 ▸ Da cd OZ c' bw pv hcd (by omega) (by omega) (by decide) (by decide))) (k := ?_);refine nZ Z (AG tys Z Z (AA Z) Z Z Z (by kernel_rfl) Z Z Z Z Z Z (AH tys Z Z (AA Z) Z Z Z (nZ Z (sT Z (nZ Z (nB (sQ (sG ?_))))))));refine E2 (α := Bool) 6 Z Z [0, 1, 2, 3, 4, 11, 12, 13, 14, 21, 22, 23, 24, 25, 26, 27, 28, 29, 30, 33, 34, 35, 36, 37, 38, 39, 40, 41] [99, 1101, 100, 101, 191, 111, 14] (fun (x : Bool) => [(47, .t (.bool x))]) (fun (x : Bool) => []) (fun (x : Bool) => x = decide (loop = true ∧ K0 = 3)) ?_ (fun b1 hx => ?_)
  ·
   refine eK 2 Z ?_;refine gB (fun h3 => ?_) (fun h3 => ?_)
   ·
    simp only [HS] at h3;refine xZ Z (kZ [0,1,2,3,4,11,12,13,14,21,22,23,24,25,26,27,28,29,30,33,34,35,36,37,38,39,40,41,42,43,44,45] Z (xK 2 Z (oN (jQ _ ?_))));clear hre hr hys hbs hK0 hv11 hc11 hc3 hv3 hv3' hp hcd
    simp_all
    done
   refine xK 2 Z (kZ [0,1,2,3,4,11,12,13,14,21,22,23,24,25,26,27,28,29,30,33,34,35,36,37,38,39,40,41,42,43,44,45] Z (xK 2 Z (oN (jQ _ ?_))));clear hre hr hys hbs hK0 hv11 hc11 hc3 hv3 hv3' hp hcd
   simp_all
   done
  have hb1 := hx
  refine nZ Z ?_;refine E2 (α := Bool) 9 Z Z [0, 1, 2, 3, 4, 11, 12, 13, 14, 21, 22, 23, 24, 25, 26, 27, 28, 29, 30, 33, 34, 35, 36, 37, 38, 39, 40, 41, 47] [99, 1101, 100, 101, 191, 111, 14] (fun (x : Bool) => [(56, .t (.bool x))]) (fun (x : Bool) => []) (fun (x : Bool) => x = (b1 || decide (e = 0 ∧ K0 = 7))) ?_ (fun b2 hx => ?_)
  ·
   refine eZ Z ?_;refine gB (fun h3 => ?_) (fun h3 => ?_)
   ·
    simp only [HS] at h3;refine xK 7 Z (oN (jQ _ ?_));clear hre hr hys hbs hK0 hv11 hc11 hc3 hv3 hv3' hp hcd
    simp_all
    done
   refine xK 3 Z ?_;refine gB (fun h4 => ?_) (fun h4 => ?_)
   ·
    simp only [HS] at h4;refine xK 4 Z (oN (jQ _ ?_));clear hre hr hys hbs hK0 hv11 hc11 hc3 hv3 hv3' hp hcd
    simp_all
    done
   simp only [HS] at h4;refine xK 5 Z (kZ [0,1,2,3,4,11,12,13,14,21,22,23,24,25,26,27,28,29,30,33,34,35,36,37,38,39,40,41,47,48,49,50,51,52,53,54,55,56] Z (oN (jQ _ ?_)));clear hre hr hys hbs hK0 hv11 hc11 hc3 hv3 hv3' hp hcd
   simp_all
   omega
  have hb2 := hx
  refine nZ Z ?_;refine E2 (α := Bool) 9 Z Z [0, 1, 2, 3, 4, 11, 12, 13, 14, 21, 22, 23, 24, 25, 26, 27, 28, 29, 30, 33, 34, 35, 36, 37, 38, 39, 40, 41, 47, 56] [99, 1101, 100, 101, 191, 111, 14] (fun (x : Bool) => [(65, .t (.bool x))]) (fun (x : Bool) => []) (fun (x : Bool) => x = (b2 || decide (e = 0 ∧ K0 = 8))) ?_ (fun b3 hx => ?_)
  ·
   refine eZ Z ?_;refine gB (fun h3 => ?_) (fun h3 => ?_)
   ·
    simp only [HS] at h3;refine xK 7 Z (oN (jQ _ ?_));clear hre hr hys hbs hK0 hv11 hc11 hc3 hv3 hv3' hp hcd
    simp_all
    done
   refine xK 3 Z ?_;refine gB (fun h4 => ?_) (fun h4 => ?_)
   ·
    simp only [HS] at h4;refine xK 4 Z (oN (jQ _ ?_));clear hre hr hys hbs hK0 hv11 hc11 hc3 hv3 hv3' hp hcd
    simp_all
    done
   simp only [HS] at h4;refine xK 5 Z (kZ [0,1,2,3,4,11,12,13,14,21,22,23,24,25,26,27,28,29,30,33,34,35,36,37,38,39,40,41,47,56,57,58,59,60,61,62,63,64,65] Z (oN (jQ _ ?_)));clear hre hr hys hbs hK0 hv11 hc11 hc3 hv3 hv3' hp hcd
   simp_all
   omega
  have hb3 := hx
  refine nZ Z ?_;refine E2 (α := Bool) 12 Z Z [0, 1, 2, 3, 4, 11, 12, 13, 14, 21, 22, 23, 24, 25, 26, 27, 28, 29, 30, 33, 34, 35, 36, 37, 38, 39, 40, 41, 47, 56, 65] [99, 1101, 100, 101, 191, 111, 14] (fun (x : Bool) => [(77, .t (.bool x))]) (fun (x : Bool) => []) (fun (x : Bool) => x = (b3 || decide (K0 = 1 ∧ vars = 0))) ?_ (fun b4 hx => ?_)
  ·
   refine eZ Z ?_;refine gB (fun h3 => ?_) (fun h3 => ?_)
   ·
    simp only [HS] at h3;refine xK 8 Z (kZ [0,1,2,3,4,11,12,13,14,21,22,23,24,25,26,27,28,29,30,33,34,35,36,37,38,39,40,41,47,56,65,66,67,68,69,70,71,72,73,74,75] Z (xK 2 Z (oN (jQ _ ?_))));clear hre hr hys hbs hK0 hv11 hc11 hc3 hv3 hv3' hp hcd
    simp_all
    done
   refine xK 4 Z ?_;refine gB (fun h4 => ?_) (fun h4 => ?_)
   ·
    simp only [HS] at h4;refine xK 4 Z (kZ [0,1,2,3,4,11,12,13,14,21,22,23,24,25,26,27,28,29,30,33,34,35,36,37,38,39,40,41,47,56,65,66,67,68,69,70,71,72,73,74,75] Z (xK 2 Z (oN (jQ _ ?_))));clear hre hr hys hbs hK0 hv11 hc11 hc3 hv3 hv3' hp hcd
    simp_all
    done
   simp only [HS] at h4;refine eZ Z (gY Z (AK rfl Z (AA Z) Z Z Z (xK 2 Z (kZ [0,1,2,3,4,11,12,13,14,21,22,23,24,25,26,27,28,29,30,33,34,35,36,37,38,39,40,41,47,56,65,66,67,68,69,70,71,72,73,74] Z (xK 3 Z (oN (jQ _ ?_)))))));clear hre hr hys hbs hK0 hv11 hc11 hc3 hv3 hv3' hp hcd
   simp_all
   done
  have hb4 := hx
  refine nZ Z ?_;refine E2 (α := Bool) 13 Z Z [0, 1, 2, 3, 4, 11, 12, 13, 14, 21, 22, 23, 24, 25, 26, 27, 28, 29, 30, 33, 34, 35, 36, 37, 38, 39, 40, 41, 47, 56, 65, 77] [99, 1101, 100, 101, 191, 111, 14] (fun (x : Bool) => [(90, .t (.bool x))]) (fun (x : Bool) => []) (fun (x : Bool) => x = (b4 || decide (K0 = 3 ∧ (Ag zs).length + dfs l = 4))) ?_ (fun bb hx => ?_)
  ·
   refine eZ Z ?_;refine gB (fun h3 => ?_) (fun h3 => ?_)
   ·
    simp only [HS] at h3;refine xK 8 Z (kZ [0,1,2,3,4,11,12,13,14,21,22,23,24,25,26,27,28,29,30,33,34,35,36,37,38,39,40,41,47,56,65,77,78,79,80,81,82,83,84,85,86,87] Z (xK 3 Z (oN (jQ _ ?_))));clear hre hr hys hbs hK0 hv11 hc11 hc3 hv3 hv3' hp hcd
    simp_all
    done
   refine xK 4 Z ?_;refine gB (fun h4 => ?_) (fun h4 => ?_)
   ·
    simp only [HS] at h4;refine xK 4 Z (kZ [0,1,2,3,4,11,12,13,14,21,22,23,24,25,26,27,28,29,30,33,34,35,36,37,38,39,40,41,47,56,65,77,78,79,80,81,82,83,84,85,86,87] Z (xK 3 Z (oN (jQ _ ?_))));clear hre hr hys hbs hK0 hv11 hc11 hc3 hv3 hv3' hp hcd
    simp_all
    done
   simp only [HS] at h4;refine eZ Z (gY Z (AK rfl Z (AA Z) Z Z Z (xZ Z ?_)))
   try refine AC (Le.freeze (u := 85) rfl) ?_
   refine nZ Z (gY Z ?_)
   have hsite : Fun Try.prog 81 [.t (.agg [T.int p, T.int vars, .list 1 [], .list 5 ((ys.drop 0).take k)])] (.own (T.ints (Ag (zs ++ l.map Stmt.ts)))) := by rw [List.drop_zero, hk, Qt, hys]; exact IJ p vars _ (by rw [Qg, Qh]; omega)
   refine CX Z Z (AA Z) Z Z (by refine ResL.aggT (by refine ResL.t (ResL.t (ResL.nil 1 (ResL.sl Z (by omega) ResL.done)))) ResL.done) hsite Z ?_;refine AC (Le.adoptE (u := 86) 86 Z Z) (nZ Z (kZ [0,1,2,3,4,11,12,13,14,21,22,23,24,25,26,27,28,29,30,33,34,35,36,37,38,39,40,41,47,56,65,77,78,79,80,81,82,83,84,85,86] Z (gY Z (evE ?_))));refine xK 3 Z (oN (jQ _ ?_));clear hre hr hys hbs hK0 hv11 hc11 hc3 hv3 hv3' hp hcd
   simp_all
   omega
  have hbb0 := hx
  refine nZ Z (nB ?_);refine A1 (α := Int) [0, 1, 2, 3, 4, 11, 12, 13, 14, 21, 22, 23, 24, 25, 26, 27, 28, 29, 30, 33, 34, 35, 36, 37, 38, 39, 40, 41, 47, 56, 65, 77, 90] [99, 1101, 100, 101, 191, 111] (fun x => []) (fun x => [(14, .box [.t (T.int x), .t (T.int 0), .nil, .nil, .nil])]) (fun x => x = LM loop (decide (e = 0)) vars ((Ag zs).length + dfs l) K0) ?_ (fun K hx => ?_)
  ·
   refine AD Z (fun h3 => ?_) (fun h3 => ?_)
   ·
    refine rG (eZ Z (sT Z (nZ Z (oN (jQ _ ?_)))))
    have hbb : bb = decide ((loop = true ∧ K0 = 3) ∨ (e = 0 ∧ K0 = 7) ∨ (e = 0 ∧ K0 = 8) ∨ (K0 = 1 ∧ vars = 0) ∨ (K0 = 3 ∧ (Ag zs).length + dfs l = 4)) := by
     rw [hbb0, hb4, hb3, hb2, hb1];simp only [Bool.decide_or, Bool.or_assoc]
    unfold LM
    have hbb2 := hbb.symm
    (rw [if_pos (by simpa using of_decide_eq_true (hbb2.trans (by assumption)))]; done)
   refine AE (jQ _ ?_)
   have hbb : bb = decide ((loop = true ∧ K0 = 3) ∨ (e = 0 ∧ K0 = 7) ∨ (e = 0 ∧ K0 = 8) ∨ (K0 = 1 ∧ vars = 0) ∨ (K0 = 3 ∧ (Ag zs).length + dfs l = 4)) := by
    rw [hbb0, hb4, hb3, hb2, hb1];simp only [Bool.decide_or, Bool.or_assoc]
   unfold LM
   have hbb2 := hbb.symm
   (rw [if_neg (by simpa using of_decide_eq_false (hbb2.trans (by assumption)))]; done)
  have hK := hx
  refine tN (sQ (sQ ?_));refine A1 (α := Bool × Cu) [0, 1, 2, 3, 4, 11, 12, 13, 14, 21, 22, 23, 24, 25, 26, 27, 28, 29, 30, 33, 34, 35, 36, 37, 38, 39, 40, 41, 47, 56, 65, 77, 90] [99, 1101, 101, 191, 111, 14] (fun x => [(99, .t (.bool (x.1)))]) (fun x => [(100, .obox (.pointer (some ⟨bw, 0, none⟩)) (cuC pv (x.2)))]) (fun x => (K = 6 → (x.1) = decide (¬ pickV cd 3 (curC cd 11 c') = 0) ∧ (x.2) = curC cd 3 (curC cd 11 c')) ∧ (¬ K = 6 → (x.1) = false ∧ (x.2) = curC cd 11 c')) ?_ (fun x hx => ?_)
  ·
   refine kY [0,1,2,3,4,11,12,13,14,21,22,23,24,25,26,27,28,29,30,33,34,35,36,37,38,39,40,41,47,56,65,77,90] Z (rG (eK 4 Z ?_));refine gB (fun h3 => ?_) (fun h3 => ?_)
   ·
    simp only [HS] at h3;refine xK 3 Z (oN (jQ (_, _) ?_));dsimp only;exact ⟨fun h => absurd h (by omega), fun h => ⟨rfl, rfl⟩⟩
   simp only [HS] at h3;refine eZ Z (gY Z ?_);refine cP [100] (hm := (DA cd 3 (curC cd 11 c') bw pv hcd (by omega) (by omega))) (k := ?_);refine nZ Z (xK 2 Z (oN (jQ (_, _) ?_)));dsimp only;exact ⟨fun h => ⟨by simp, rfl⟩, fun h => absurd (show K = 6 by omega) h⟩
  obtain ⟨b6, c1⟩ := x
  obtain ⟨hb6, hb6'⟩ := hx
  dsimp only at hb6 hb6' ⊢;refine tN ?_;refine A1 (α := Int × Cu) [0, 1, 2, 3, 4, 11, 12, 13, 14, 21, 22, 23, 24, 25, 26, 27, 28, 29, 30, 33, 34, 35, 36, 37, 38, 39, 40, 41, 47, 56, 65, 77, 90, 99] [99, 1101, 101, 191, 111] (fun x => []) (fun x => [(100, .obox (.pointer (some ⟨bw, 0, none⟩)) (cuC pv (x.2))), (14, .box [.t (T.int (x.1)), .t (T.int 0), .nil, .nil, .nil])]) (fun x => ((x.1), (x.2)) = CR cd loop (decide (e = 0)) vars ((Ag zs).length + dfs l) c') ?_ (fun x hx => ?_)
  ·
   refine AD Z (fun h3 => ?_) (fun h3 => ?_)
   ·
    refine kY [0,1,2,3,4,11,12,13,14,21,22,23,24,25,26,27,28,29,30,33,34,35,36,37,38,39,40,41,47,56,65,77,90,99] Z (rG (eZ Z (sT Z (nZ Z (oN (jQ (_, _) ?_))))));dsimp only;unfold CR;rw [← hK0, ← hK]
    by_cases h6 : K = 6
    ·obtain ⟨q1, q2⟩ := hb6 h6
     subst q2
     have q3 := q1.symm
     rw [if_pos h6]
     (rw [if_neg (of_decide_eq_true (q3.trans (by assumption)))]; done)
    ·obtain ⟨q1, q2⟩ := hb6' h6
     subst q2
     (exfalso; have q3 := q1.symm.trans (by assumption : b6 = true); cases q3)
   refine AE (jQ (_, _) ?_);dsimp only;unfold CR;rw [← hK0, ← hK]
   by_cases h6 : K = 6
   ·obtain ⟨q1, q2⟩ := hb6 h6
    subst q2
    have q3 := q1.symm
    rw [if_pos h6]
    (rw [if_pos (by have q4 := of_decide_eq_false (q3.trans (by assumption)); omega), h6]; done)
   ·obtain ⟨q1, q2⟩ := hb6' h6
    subst q2;rw [if_neg h6];done
  obtain ⟨K1, c1'⟩ := x
  have hK1 := hx
  dsimp only at hK1 ⊢;refine tN (sQ (kY [0,1,2,3,4,11,12,13,14,21,22,23,24,25,26,27,28,29,30,33,34,35,36,37,38,39,40,41,47,56,65,77,90,99] Z (rG (eZ Z (AC (Le.nilOwn (u := 15) 1 Z) (nZ Z (AC (Le.adoptE (u := 15) 115 Z Z) (nZ Z (nB (sQ (sQ ?_)))))))))))
  have hkr := KO (cd := cd) (vars := vars) (loop := loop) (flat := decide (e = 0)) (d := (Ag zs).length + dfs l) (c := c')
  rw [← hK1] at hkr;dsimp only at hkr
  obtain ⟨hkr1, hkr2⟩ := hkr
  refine rG (eZ Z (evE ?_));refine eZ Z (nB (AF ?_));refine lK (α := Int × List Int × List T × Nat) [0, 1, 2, 3, 4, 11, 12, 13, 14, 101, 102] [99, 1101, 100, 101, 191, 111, 14] (fun x => [(103, .t (.int (x.1))), (15, .sl 115 0 (x.2.2.2))]) (fun x => [(115, .L 1 (x.2.2.1))]) (fun x => 0 ≤ (x.1) ∧ (x.1) ≤ params.length ∧ (x.2.2.2) = (x.2.2.1).length ∧ (x.2.2.1) = (x.2.1).map T.int ∧ (x.2.1) = Dx (params.take (x.1).toNat) ∧ ((x.2.1).length : Int) ≤ (x.1)) (fun x => Int.toNat (params.length - (x.1))) (0, [], [], 0) ?_ (fun x hx => ?_)
  ·dsimp only
   exact ⟨by omega, by omega, rfl, rfl, rfl, by simp⟩
  obtain ⟨i, fl, fs, q⟩ := x
  obtain ⟨hi0, hip, hq, hfs, hfl, hfli⟩ := hx
  dsimp only at hi0 hip hq hfs hfl hfli ⊢;refine nY Z (sG (eZ Z (nB (sQ ?_))));refine AD Z (fun h3 => ?_) (fun h3 => ?_)
  ·
   simp only [HS] at h3;refine AE (tN (sQ (AF (sG (eZ Z ?_)))));refine iY (k := ?_);refine eK 3 Z (nB (sQ ?_))
   have hfsl : fs.length = fl.length := by rw [hfs, Qh]
   refine rG (eK 2 Z (nB ?_));refine AD Z (fun h4 => ?_) (fun h4 => ?_)
   ·
    simp only [HS] at h4;refine kY [0,1,2,3,4,11,12,13,14,15,16,17,101,102,103,104,105,106,107,108,109] Z (rG (eK 2 Z (bZ [T.int i] ?_)));refine nZ Z (AJ tys Z Z (AA Z) Z Z Z Z Z (.own Z (by first | omega | (simp only [Qg]; omega))) Z (.own Z (by first | decide | omega)) (by decide) (by simp only [Qo, Qk, List.length_nil]; omega) (by decide) Z ?_);refine nZ Z (eZ Z (oN (bN (tN (rG (evI ?_))))));refine eZ Z (oN ?_);refine lQ (_, fl ++ (if params[i.toNat]'(by omega) = 0 then [i] else []), _, _) ?_ ?_
    ·dsimp only
     subst hq;refine ⟨by omega, by omega, ?_, ?_, by rw [HB hi0 (by omega), hfl], ?_⟩
     all_goals first | rfl | (rw [if_pos (by assumption), Qt, hfs, Q8]; rfl) | (rw [if_neg (by assumption), Q3]; exact hfs) | (rw [if_pos (by assumption)]; simp [hfs]; done) | (rw [if_pos (by assumption)]; simp [hfs]; omega) | (rw [if_neg (by assumption)]; simp [hfs]; done) | (rw [if_neg (by assumption)]; simp [hfs]; omega) | (simp; done)
    ·(show Int.toNat _ < Int.toNat _); omega
   simp only [HS] at h4;refine AE (bN (tN (kY [0,1,2,3,4,11,12,13,14,15,16,17,101,102,103,104,105,106,107,108,109] Z (rG (evI ?_)))));refine eZ Z (oN ?_);refine lQ (_, fl ++ (if params[i.toNat]'(by omega) = 0 then [i] else []), _, _) ?_ ?_
   ·dsimp only
    subst hq;refine ⟨by omega, by omega, ?_, ?_, by rw [HB hi0 (by omega), hfl], ?_⟩
    all_goals first | rfl | (rw [if_pos (by assumption), Qt, hfs, Q8]; rfl) | (rw [if_neg (by assumption), Q3]; exact hfs) | (rw [if_pos (by assumption)]; simp [hfs]; done) | (rw [if_pos (by assumption)]; simp [hfs]; omega) | (rw [if_neg (by assumption)]; simp [hfs]; done) | (rw [if_neg (by assumption)]; simp [hfs]; omega) | (simp; done)
   ·(show Int.toNat _ < Int.toNat _); omega
  simp only [HS] at h3;refine AV (tE (AP (AO (tN (sQ (sQ ?_))))));refine A1 (α := Bool × Nat) [0, 1, 2, 3, 4, 11, 12, 13, 14, 101, 102, 103, 104] [99, 1101, 100, 101, 191, 111] (fun x => [(122, .t (.bool (x.1))), (15, .sl 115 0 (x.2))]) (fun x => [(14, .box [.t (T.int K1), .t (T.int 0), .own (.list 2 []), .nil, .nil]), (115, .L 1 ((Dx params).map T.int))]) (fun x => (x.1) = decide (¬ (K1 = 3 ∨ K1 = 6)) ∧ (x.2) = (Dx params).length) ?_ (fun x hx => ?_)
  ·
   have hie : i.toNat = params.length := by omega
   rw [hie, Qt] at hfl;subst hq hfs hfl;rw [Qh];refine nY Z (AU (Le.nilBox (u := 14) (j := 2) 2 Z Z) (nY Z (rG (eK 4 Z ?_))));refine gB (fun h4 => ?_) (fun h4 => ?_)
   ·
    simp only [HS] at h4;refine xK 3 Z (oN (jQ (_, _) ?_));dsimp only;refine ⟨?_, rfl⟩
    symm
    apply decide_eq_false
    omega
   simp only [HS] at h4;refine xK 4 Z (kZ [0,1,2,3,4,11,12,13,14,15,101,102,103,104,115,116,117,118,119,120,121,122] Z (oN (jQ (_, _) ?_)));dsimp only;refine ⟨?_, rfl⟩
   simp
   omega
  obtain ⟨b9, nf⟩ := x
  obtain ⟨hb9, hnf⟩ := hx
  dsimp only at hb9 hnf ⊢;refine tN ?_;refine A1 (α := List T × Cu) [0, 1, 2, 3, 4, 11, 12, 13, 14, 15, 101, 102, 103, 104, 122] [99, 1101, 101, 191, 111, 115] (fun x => []) (fun x => [(100, .obox (.pointer (some ⟨bw, 0, none⟩)) (cuC pv (x.2))), (14, .box [.t (T.int K1), .t (T.int 0), .own (.list 2 (x.1)), .nil, .nil])]) (fun x => (x.1) = (exR cd vars params K1 c1').1.map Tok.tt ∧ (x.2) = (exR cd vars params K1 c1').2) ?_ (fun x hx => ?_)
  ·
   refine AD Z (fun h4 => ?_) (fun h4 => ?_)
   ·
    have hp2 := AM (cd := cd) (n := 2) (c := c1')
    have hp22 := AM (cd := cd) (n := 2) (c := curC cd 2 c1')
    have hw2 := Ac (n := 2) (c := c1') hcd (by omega)
    have hw2' := hw2.2.1 (by omega)
    have hxa := QA hw2.1 hw2'
    refine kY [0,1,2,3,4,11,12,13,14,15,101,102,103,104,122] Z (Bn [[100], [], [], [100], [100], [100], [100], [100], [100], [100], [], [], [], []] A9 (by kernel_rfl) (Dy (QG_ev tys Z Z (AA Z) Z (AI (AZ (QG_ev tys Z Z (AA Z) Z (AI ?_)))))));refine Ch (rid := 99) [100] Z Z (AA Z) Z Z (by repeat (first | exact ResP.done | refine ResP.pin0 1100 Z ?_ | refine ResP.t ?_ | refine ResP.nil 1 ?_ | refine ResP.nil' ?_ | refine ResP.own ?_ | refine ResP.sl Z Z (by first | omega | (simp; omega)) ?_ | refine ResP.aggT (by repeat (first | exact ResP.done | refine ResP.t ?_)) ?_)) Z (by repeat (first | exact trivial | refine ⟨rfl, rfl, ?_⟩)) (by decide) (Ab cd 2 c1' bw pv hcd (by omega) (by omega)) Z Z Z ?_;refine Dy (QG_int tys Z Z (AA Z) Z (D0 (by omega) (by omega)) (AI (Aq Z (Dy (QG_ev tys Z Z (AA Z) Z (AI (Dy (CF rfl Z (AA Z) Z Z Z (AI (Dy (QG_ev tys Z Z (AA Z) Z (AI (Dy (QG_ev tys Z Z (AA Z) Z (AI ?_)))))))))))))));refine Aq Z (Dy (QG_ev tys Z Z (AA Z) Z (AI (Dy (QG_ev tys Z Z (AA Z) Z (AI ?_))))));refine Ch (rid := 99) [100] Z Z (AA Z) Z Z (by repeat (first | exact ResP.done | refine ResP.pin0 1100 Z ?_ | refine ResP.t ?_ | refine ResP.nil 1 ?_ | refine ResP.nil' ?_ | refine ResP.own ?_ | refine ResP.sl Z Z (by first | omega | (simp; omega)) ?_ | refine ResP.aggT (by repeat (first | exact ResP.done | refine ResP.t ?_)) ?_)) Z (by repeat (first | exact trivial | refine ⟨rfl, rfl, ?_⟩)) (by decide) (DA cd 2 (curC cd 2 c1') bw pv hcd (by omega) (by omega)) Z Z Z ?_;refine Ch (rid := 99) [100] Z Z (AA Z) Z Z (by repeat (first | exact ResP.done | refine ResP.pin0 1100 Z ?_ | refine ResP.t ?_ | refine ResP.nil 1 ?_ | refine ResP.nil' ?_ | refine ResP.own ?_ | refine ResP.sl Z Z (by first | omega | (simp; omega)) ?_ | refine ResP.aggT (by repeat (first | exact ResP.done | refine ResP.t ?_)) ?_)) Z (by repeat (first | exact trivial | refine ⟨rfl, rfl, ?_⟩)) (by decide) (Ov cd vars params (decide (pickV cd 2 (curC cd 2 c1') = 0)) pv hcd hp (1 + pickV cd 2 c1').toNat (1 + pickV cd 2 c1') (curC cd 2 (curC cd 2 c1')) bw (by omega) (by omega) (by omega) (by omega)) Z Z Z ?_;refine Aq Z (AZ (QG_ev tys Z Z (AA Z) Z (AI (GM tys Z Z Z Z Z Z Z Z Z (RP Z) (Eg ?_)))));refine ⟨by kernel_rfl, ?_⟩;refine nZ Z (oN (jQ (_, _) ?_));dsimp only;unfold exR
    have hb92 := hb9.symm
    (rw [if_neg (of_decide_eq_true (hb92.trans (by assumption)))]; exact ⟨rfl, rfl⟩)
   refine AE (jQ (_, _) ?_);dsimp only;unfold exR
   have hb92 := hb9.symm
   (rw [if_pos (by have h99 := of_decide_eq_false (hb92.trans (by assumption)); omega)]; exact ⟨rfl, rfl⟩)
  obtain ⟨exT, c3⟩ := x
  obtain ⟨hexT, hc3x⟩ := hx
  dsimp only at hexT hc3x ⊢;refine tN (sQ (sQ ?_))
  obtain ⟨ex, hex⟩ : ∃ z, z = (exR cd vars params K1 c1').1 := ⟨_, rfl⟩
  have hxr := PW (vars := vars) (k := K1) (c := c1') hcd hp (by omega)
  rw [← hex, ← hc3x] at hxr
  obtain ⟨hx1, hx2, hx3⟩ := hxr
  rw [← hex] at hexT;subst hexT;refine kY [0,1,2,3,4,11,12,13,14,15,101,102,103,104,122] Z (rG (eK 2 Z (nB (AF (sG (eK 2 Z (nB ?_)))))));refine A1 (α := Int × Cu) [0, 1, 2, 3, 4, 11, 12, 13, 14, 15, 101, 102, 103, 104, 122, 136, 137, 138, 139] [99, 1101, 101, 191, 111, 115] (fun x => []) (fun x => [(100, .obox (.pointer (some ⟨bw, 0, none⟩)) (cuC pv (x.2))), (14, .box [.t (T.int K1), .t (T.int (x.1)), .own (.list 2 (ex.map Tok.tt)), .nil, .nil])]) (fun x => ((x.1), (x.2)) = nR cd vars params K1 c3) ?_ (fun x hx => ?_)
  ·
   refine AD Z (fun h4 => ?_) (fun h4 => ?_)
   ·
    simp only [HS] at h4;refine rG (eK 2 Z (AK rfl Z (AA Z) Z Z Z (eK 2 Z (kZ [0,1,2,3,4,11,12,13,14,15,101,102,103,104,122,136,137,138,139,140,141,142,143,144] Z ?_))));refine cP [100] (hm := (Ab cd vars c3 bw pv hcd (by omega) (by omega))) (k := ?_);refine nZ Z (eZ Z (sT Z (nZ Z (oN (jQ (_, _) ?_)))));dsimp only;unfold nR
    (rw [if_pos (by omega)]; done)
   simp only [HS] at h4;refine sG (eK 2 Z (nB ?_));refine AD Z (fun h5 => ?_) (fun h5 => ?_)
   ·
    simp only [HS] at h5
    have hwf := Ac (n := nf) (c := c3) hcd (by omega)
    have hwf' := hwf.2.1 (by omega)
    refine rG (eK 3 Z (kZ [0,1,2,3,4,11,12,13,14,15,101,102,103,104,122,136,137,138,139,147,148,149,150,151] Z (evE ?_)));refine cP [100] (hm := (Ab cd nf c3 bw pv hcd (by omega) (by omega))) (k := ?_);refine nZ Z (Bb tys Z Z (AA Z) Z Z Z Z Z Z Z Z hwf.1 (by omega) (BI tys Z Z (AA Z) Z Z Z Z (Ez _ _ hwf.1 (by rw [← hnf]; exact hwf')) Z ?_));refine eZ Z (sT Z (nZ Z (oN (jQ (_, _) ?_))));dsimp only;unfold nR
    (rw [if_neg (by omega), if_pos (by omega)]; subst hnf; rw [Dz hwf.1 hwf']; done)
   simp only [HS] at h5;refine AE (jQ (_, _) ?_);dsimp only;unfold nR
   (rw [if_neg (by omega), if_neg (by omega)]; done)
  obtain ⟨N, c4⟩ := x
  have hN := hx
  dsimp only at hN ⊢;refine bN (tN (sQ ?_))
  have hnr := nR_at (cd := cd) (vars := vars) (params := params) (k := K1) (c := c3)
  rw [← hN] at hnr;dsimp only at hnr
  obtain ⟨hn4, hn5⟩ := hnr
  have hbsl : bs.length = b.length := by rw [hbs, Qh]
  refine kY [0,1,2,3,4,11,12,13,14,15,101,102,103,104,122,136,137,138,139] Z (rG (eK 2 Z (bZ [T.int k] ?_)));refine nZ Z (AJ tys Z Z (AA Z) Z Z Z Z Z (.own Z (by first | omega | (simp only [Qg]; omega))) Z (.own Z (by first | decide | omega)) (by decide) (by simp only [Qo, Qk, List.length_nil]; omega) (by decide) Z ?_);refine nZ Z (eZ Z (nB (sQ ?_)));refine EC (u := 14) (j := 2) 214 Z Z Z (fun u => ?_);refine nY Z (AU (Le.nilTold (u := 14) (j := 3) Z Z) (AU (Le.nilTold (u := 14) (j := 4) Z Z) (nY Z (AU (Le.gatherBox (u := 101) (j := 3) (id := 191) Z Z Z (by omega) Z) (nY Z ?_)))));rw [Qi (show ys.length ≤ k by omega)];refine Bn [[101], [], [], [], [], [101], [101], [], [], [], []] A9 (by kernel_rfl) (Dy (QG_ev tys Z Z (AA Z) Z (AI (AZ (QG_ev tys Z Z (AA Z) Z (AI (AZ (CF rfl Z (AA Z) Z Z Z (AI (AZ (QG_ev tys Z Z (AA Z) Z (AI (Aq Z (Gr tys Z Z (AA Z) Z Z Z Z Z Z (Dy ?_)))))))))))))));refine QG_ev tys Z Z (AA Z) Z (AI (Dy ?_));refine Dc tys [(TS.mk K1 N (.v u) (.v Ns) (.v Ns)).tt] Z Z (AA Z) Z Z Z Z Z (AA Z) (by repeat (first | exact PartsOk.nil' | refine PartsOk.cons' rfl (by repeat (first | exact AbsL.nil' | refine AbsL.v' ?_ | refine AbsL.own' ?_ | refine AbsL.none' ?_)) Z ?_)) Z Z Z (by decide) ?_;refine AI (AZ (E3 tys Z Z (AA Z) Z Z Z Z Z Z Z Z Z ((fun x hx => by rw [Q5] at hx; subst hx; exact ⟨rfl, fun z hz => cells5 hz⟩)) (by simp only [Qo, Qk, List.length_nil]; omega) (by decide) Z ?_));refine AI (Aq Z (AZ (CF rfl Z (AA Z) Z Z Z (AI (AZ (QG_ev tys Z Z (AA Z) Z (AI (GM tys Z Z Z Z Z Z Z Z Z (RP Z) (Eg ?_)))))))));refine ⟨by kernel_rfl, ?_⟩;refine nZ Z (nB (sQ (sQ (nY Z ?_))))
  obtain ⟨ws, hws⟩ : ∃ z : List TS, z = zs ++ l.map Stmt.ts ++ [TS.mk K1 N (.v u) (.v Ns) (.v Ns)] := ⟨_, rfl⟩
  have hwl : ws.length = zs.length + l.length + 1 := by rw [hws, Qg, Qg, Qh]; rfl
  have hwd : (Ag ws).length = (Ag zs).length + dfs l + dfs [Stmt.mk K1 N ex [] []] := by rw [hws, ← El]; exact MA rfl
  have hyw : ys ++ [(TS.mk K1 N (.v u) (.v Ns) (.v Ns)).tt] = ws.map TS.tt := by rw [hys, hws, Q8 (l₁ := zs ++ l.map Stmt.ts)]; rfl
  rw [hyw];refine AU (Le.toldNil (u := 14) (j := 3) 1 Z Z) (AU (Le.toldNil (u := 14) (j := 4) 1 Z Z) (nY Z ?_))
  have hR := OO (p := p) (bw := bw) (fw := fw) hd hr
  have hpo := OP (cd := cd) (vars := vars) hcd hp e
  have hne : (K1 = 7 ∨ K1 = 8) → ¬ e = 0 := fun h7 h0 => by
   have h8 := Mj (cd := cd) (loop := loop) (vars := vars) (d := (Ag zs).length + dfs l) (c := c')
   rw [← decide_eq_true (p := e = 0) h0, ← hK1] at h8;exact h7.elim h8.1 h8.2
  obtain ⟨nn, hnn⟩ : ∃ z, z = zs.length + l.length + 1 := ⟨_, rfl⟩
  obtain ⟨dn, hdn⟩ : ∃ z, z = (Ag zs).length + dfs l + dfs [Stmt.mk K1 N ex [] []] := ⟨_, rfl⟩
  rw [← hnn] at hwl;rw [← hdn] at hwd;refine rG (eK 2 Z (nB (AF (sG (eK 2 Z (nB ?_))))));refine A1 (α := List T × List T × List T × Cu) [0, 1, 2, 3, 4, 11, 12, 13, 14, 15, 101, 102, 103, 104, 122, 136, 137, 138, 139, 157, 158, 159, 160, 161, 162, 163, 164, 165, 166, 167, 168, 169, 170, 171, 172, 173, 174] [99, 1101, 214, 111, 115] (fun x => []) (fun x => [(100, .obox (.pointer (some ⟨bw, 0, none⟩)) (cuC pv (x.2.2.2))), (101, .box [.t (T.int p), .t (T.int vars), .nil, .own (.list 5 (x.2.2.1))]), (14, .box [.t (T.int K1), .t (T.int N), .t (.v u), .own (.list 1 (x.1)), .own (.list 1 (x.2.1))])]) (fun x => (x.1) = (kidsR cd (DK cd vars params e) loop nn dn ⟨K1, N, ex, [], []⟩ c4).1.thn.map T.int ∧ (x.2.1) = (kidsR cd (DK cd vars params e) loop nn dn ⟨K1, N, ex, [], []⟩ c4).1.els.map T.int ∧ (x.2.2.1) = (ws ++ (kidsR cd (DK cd vars params e) loop nn dn ⟨K1, N, ex, [], []⟩ c4).2.1.map Stmt.ts).map TS.tt ∧ (x.2.2.2) = (kidsR cd (DK cd vars params e) loop nn dn ⟨K1, N, ex, [], []⟩ c4).2.2) ?_ (fun x hx => ?_)
  ·
   refine AD Z (fun h4 => ?_) (fun h4 => ?_)
   ·
    simp only [HS] at h4;refine sG (eK 4 Z (evI ?_));refine kZ [0,1,2,3,4,11,12,13,14,15,101,102,103,104,122,136,137,138,139,157,158,159,160,161,162,163,164,165,166,167,168,169,170,171,172,173,174,175,176,177,178,179] Z (eZ Z (AC (Le.close (u := 101) 1101 Z Z Z) (nZ Z ?_)));refine cP [100,101] (hm := (hR (hne (.inl (by assumption))) loop ws nn dn c4 hwl hwd (by omega) (by omega) (by omega))) (k := ?_);refine nZ Z (AC (Le.open (u := 101) 1101 Z Z Z Z) (nZ Z (eZ Z (sT Z (nZ Z (nB (sQ ?_)))))))
    obtain ⟨r1, hr1⟩ : ∃ z, z = DK cd vars params e loop nn dn c4 := ⟨_, rfl⟩
    rw [← hr1]
    have ho1 : DrOk nn c4 r1 := by rw [hr1]; exact hpo loop nn dn c4 (by omega) (by omega)
    obtain ⟨p1, p2, p3, p4, p5⟩ := ho1
    have hq2 := AM (cd := cd) (n := 2) (c := r1.cu)
    refine rG (eZ Z ?_);refine cP [100] (hm := (DA cd 2 r1.cu bw pv hcd (by omega) (by omega))) (k := ?_);refine nZ Z (nB ?_);refine AD Z (fun h5 => ?_) (fun h5 => ?_)
    ·
     simp only [HS] at h5;refine rG (eK 3 Z (kZ [0,1,2,3,4,11,12,13,14,15,101,102,103,104,122,136,137,138,139,157,158,159,160,161,162,163,164,165,166,167,168,169,170,171,172,173,174,175,176,177,178,179,180,181,182,183,184,185,186,187] Z (eZ Z (evI ?_))));refine eZ Z (AC (Le.close (u := 101) 1101 Z Z Z) (nZ Z ?_));refine cP [100,101] (hm := (hR (hne (.inl (by assumption))) loop (ws ++ r1.news.map Stmt.ts) (nn + r1.news.length) (dn + dfs r1.news) (curC cd 2 r1.cu) (by rw [Qg, Qh, hwl]) (by rw [El, hwd]) (by omega) (by omega) (by omega))) (k := ?_);refine nZ Z (AC (Le.open (u := 101) 1101 Z Z Z Z) (nZ Z (eZ Z (sT Z (nZ Z (oN (jQ (_, _, _, _) ?_)))))));dsimp only
     by_cases hk7 : K1 = 7
     ·first
      | (rw [kidsR, if_pos hk7, ← hr1]; split; all_goals first | (exfalso; omega) | (refine ⟨rfl, rfl, ?_, rfl⟩; simp only [Q8, Qz]; done) | exact ⟨rfl, rfl, rfl, rfl⟩)
     ·by_cases hk8 : K1 = 8
      ·rw [kidsR, if_neg hk7, if_pos hk8]
       exfalso
       omega
      ·rw [kidsR, if_neg hk7, if_neg hk8]
       exfalso
       omega
    simp only [HS] at h5;refine AE (jQ (_, _, _, _) ?_);dsimp only
    by_cases hk7 : K1 = 7
    ·first
     | (rw [kidsR, if_pos hk7, ← hr1]; split; all_goals first | (exfalso; omega) | (refine ⟨rfl, rfl, ?_, rfl⟩; simp only [Q8, Qz]; done) | exact ⟨rfl, rfl, rfl, rfl⟩)
    ·by_cases hk8 : K1 = 8
     ·rw [kidsR, if_neg hk7, if_pos hk8]
      exfalso
      omega
     ·rw [kidsR, if_neg hk7, if_neg hk8]
      exfalso
      omega
   simp only [HS] at h4;refine sG (eK 2 Z (nB ?_));refine AD Z (fun h5 => ?_) (fun h5 => ?_)
   ·
    simp only [HS] at h5;refine rG (eK 3 Z (kZ [0,1,2,3,4,11,12,13,14,15,101,102,103,104,122,136,137,138,139,157,158,159,160,161,162,163,164,165,166,167,168,169,170,171,172,173,174,193,194,195,196,197] Z (eZ Z (evI ?_))));refine AC (Le.close (u := 101) 1101 Z Z Z) (nZ Z ?_);refine cP [100,101] (hm := (hR (hne (.inr (by assumption))) true ws nn dn c4 hwl hwd (by omega) (by omega) (by omega))) (k := ?_);refine nZ Z (AC (Le.open (u := 101) 1101 Z Z Z Z) (nZ Z (eZ Z (sT Z (nZ Z (oN (jQ (_, _, _, _) ?_)))))));dsimp only
    by_cases hk7 : K1 = 7
    ·first
     | (exfalso; omega)
    ·by_cases hk8 : K1 = 8
     ·rw [kidsR, if_neg hk7, if_pos hk8]
      exact ⟨rfl, rfl, rfl, rfl⟩
     ·rw [kidsR, if_neg hk7, if_neg hk8]
      exfalso
      omega
   simp only [HS] at h5;refine AE (jQ (_, _, _, _) ?_);dsimp only
   by_cases hk7 : K1 = 7
   ·first
    | (exfalso; omega)
   ·by_cases hk8 : K1 = 8
    ·rw [kidsR, if_neg hk7, if_pos hk8]
     exfalso
     omega
    ·rw [kidsR, if_neg hk7, if_neg hk8]
     refine ⟨rfl, rfl, ?_, rfl⟩;rw [List.map_nil, Q3]
  obtain ⟨thT, elT, wl, c5⟩ := x
  obtain ⟨hth, hel, hwl2, hc5⟩ := hx
  dsimp only at hth hel hwl2 hc5 ⊢;refine bN (tN ?_)
  have hka := KT (cd := cd) hpo (loop := loop) (k := nn) (d := dn) (s := ⟨K1, N, ex, [], []⟩) (c := c4) ⟨hx3, by simp, by simp⟩ (by omega) (by omega)
  have hks := Ml (cd := cd) (r := DK cd vars params e) (loop := loop) (k := nn) (d := dn) (s := ⟨K1, N, ex, [], []⟩) (c := c4)
  obtain ⟨kk, hkk⟩ : ∃ z, z = kidsR cd (DK cd vars params e) loop nn dn ⟨K1, N, ex, [], []⟩ c4 := ⟨_, rfl⟩
  rw [← hkk] at hth hel hwl2 hc5 hka hks
  obtain ⟨⟨k1, n1, x1, th, el⟩, nw, c6⟩ := kk
  dsimp only at hth hel hwl2 hc5 hka hks
  obtain ⟨e1, e2, e3⟩ := hks
  subst e1 e2 e3 hth hel hwl2 hc5
  obtain ⟨ka1, ka2, ka3, ka4, ka5⟩ := hka
  obtain ⟨P, hP⟩ : ∃ z : List TS, z = zs ++ l.map Stmt.ts := ⟨_, rfl⟩
  obtain ⟨S, hS⟩ : ∃ z : List TS, z = nw.map Stmt.ts := ⟨_, rfl⟩
  have hPl : P.length = k := by rw [hP, hkl, Qg, Qh]
  have hwPS : ws ++ nw.map Stmt.ts = P ++ (TS.mk k1 n1 (.v u) (.v Ns) (.v Ns) :: S) := by rw [hws, hP, hS, Qz]; rfl
  rw [hwPS];refine EC (u := 14) (j := 3) 215 Z Z Z (fun u3 => ?_);refine nY Z ?_;refine EC (u := 14) (j := 4) 216 Z Z Z (fun u4 => ?_);refine nY Z (kY [0,1,2,3,4,11,12,13,14] Z (AU (Le.adoptBox (u := 101) (j := 3) (id := 191) Z Z Z) (nY Z (kY [0,1,2,3,4,11,12,13,14,15,101,102,103,104,122,136,137,138,139,157,158,159,160,161,162,163,164,165,166,167,168,169,170,171,172,173,174] Z (B4 7 A9 Z (by kernel_rfl) (by kernel_rfl) (evQ ?_))))));refine BD rfl Z (AA Z) Z Z Z (evQ ?_);refine evQ ?_;refine evQ ?_;refine evQ ?_;refine AS Z (HX tys Z Z (AA Z) Z Z Z Z Z Z Z Z (Int.natCast_nonneg k) (by rw [Qh, Qg, Qk]; omega) ?_);refine BE ?_;refine Ec tys ((TS.mk k1 n1 (.v u) (.v u3) (.v u4)).tt) Z Z Z Z Z Z (Q9 _) (by rw [Qh, Qg, Qk]; omega) Z (by repeat (first | exact AbsL.nil' | refine AbsL.v' ?_)) Z Z Z ?_;refine nZ Z (oN (bN (tN ?_)))
  have hset : (List.map TS.tt (P ++ TS.mk k1 n1 (.v u) (.v Ns) (.v Ns) :: S)).set (Int.toNat (k : Int)) (TS.mk k1 n1 (.v u) (.v u3) (.v u4)).tt = List.map TS.tt (P ++ TS.mk k1 n1 (.v u) (.v u3) (.v u4) :: S) := by
   rw [← List.map_set, Int.toNat_natCast, ← hPl, List.set_append_right _ _ (Qu _), Nat.sub_self]; rfl
  rw [hset];refine AU (QM (id := 191) (idp := 214) Z Z Z) (nY Z (AU (QK (id := 191) (idp := 215) Z Z Z) (nY Z (AU (QJ (id := 191) (idp := 216) Z Z Z) (nY Z ?_)))))
  have hPS2 : P ++ TS.mk k1 n1 (.list 2 (x1.map Tok.tt)) (.list 1 (th.map T.int)) (.list 1 (el.map T.int)) :: S = zs ++ (l ++ Stmt.mk k1 n1 x1 th el :: nw).map Stmt.ts := by rw [hP, hS, Q8, Q4, Qz]; rfl
  rw [hPS2]
  have hhead : headR cd vars params loop (decide (e = 0)) ((Ag zs).length + dfs l) c' = (⟨k1, n1, x1, [], []⟩, c4) := by
   rw [headR, ← hK1];dsimp only;rw [← hc3x, ← hex, ← hN]
  have hone : Lp cd vars params (DK cd vars params e) loop (decide (e = 0)) (zs.length + l.length) ((Ag zs).length + dfs l) c' = (⟨k1, n1, x1, th, el⟩, nw, c5) := by
   rw [Lp, hhead];dsimp only;rw [← hdn, ← hnn];exact hkk.symm
  rw [hone] at hre;refine rG (eZ Z (evI ?_));refine eZ Z (oN ?_);refine lQ (_, l ++ Stmt.mk k1 n1 x1 th el :: nw, b ++ [((zs.length + l.length : Nat) : Int)], _, _, _, _, _) ?_ ?_
  ·dsimp only
   refine ⟨by omega, by omega, ?_, ?_, ?_, rfl, ?_, ?_, by omega, ?_, hre⟩
   ·rw [Qg, Qk]; omega
   ·rw [Qg, Qk, List.length_nil]; omega
   ·rw [← hPS2]; simp only [Qh, Qg, Qk]
   ·rw [Qg]
   ·rw [hm, Qt, hbs, hkl, Q8]; rfl
   ·rw [Qg, Qk]; omega
  ·(show Int.toNat _ < Int.toNat _); omega
 simp only [HS] at h2;refine AV (tE (AP (AO (tN (sG (eK 2 Z (nB ?_)))))))
 (refine AU (Le.gather (u := 10) (id := 111) rfl rfl (by omega)) ?_; refine A2 rfl ?_; refine AU (Le.gatherBox (u := 101) (j := 3) (id := 191) rfl rfl rfl (by omega) rfl) ?_; refine A2 rfl ?_)
 refine AU (Le.close (u := 101) 1101 Z Z Z) (nY Z (rT ?_));refine eP [_, _] ?_ ?_
 ·have hz0 : (⟨b, l, c'⟩ : Dr) = GO cd vars params e loop zs.length (Ag zs).length c := by
   rw [← hre]
   by_cases hnz : n = 0
   ·subst hnz; rfl
   ·have hn1 : n.toNat = (n - 1).toNat + 1 := by omega
    rw [hn1, stmL, if_pos (by omega)]
  rw [← hz0, hbs, hm, hbs, Qt];rfl
 ·have hz0 : (⟨b, l, c'⟩ : Dr) = GO cd vars params e loop zs.length (Ag zs).length c := by
   rw [← hre]
   by_cases hnz : n = 0
   ·subst hnz; rfl
   ·have hn1 : n.toNat = (n - 1).toNat + 1 := by omega
    rw [hn1, stmL, if_pos (by omega)]
  rw [← hz0, hk, hys, Qt]
theorem Hj (cd : List Int) (vars : Int) (params : List Int) (pv : Value) (hcd : Cc cd) (hp : Hb params) (hfr : 1 ≤ (Dx params).length) (hv6 : 0 ≤ vars ∧ vars ≤ 6) : ∀ e : Nat, e ≤ 2 → StC cd vars params pv e
 | 0, he => fun dd loop zs p c bw fw hd hz h0 h1 => Ga cd vars params 0 dd loop zs p c bw fw pv hcd hp hfr hv6 hd he hz h0 h1 fun e' h => by omega
 | e + 1, he => fun dd loop zs p c bw fw hd hz h0 h1 => Ga cd vars params (e + 1) dd loop zs p c bw fw pv hcd hp hfr hv6 hd he hz h0 h1 fun e' h => by
  obtain rfl : e = e' := by omega
  exact Hj cd vars params pv hcd hp hfr hv6 e (by omega)
open Go.Eng
theorem Mz {params : List Int} (h : [(0 : Int)] <+: params) : 1 ≤ (Dx params).length := by
 obtain ⟨t, rfl⟩ := h
 unfold Dx;rw [Qh, List.singleton_append, List.zipIdx_cons, List.filter_cons, if_pos (by simp)]
 simp
theorem OY {a b : Int} (h0 : 0 ≤ b) (ha : 0 ≤ a) : 0 ≤ ES a b ∧ ES a b ≤ a := by
 unfold ES
 split <;> omega
theorem ts_map (l : List Stmt) : (l.map Stmt.ts).map TS.tt = l.map Stmt.tt := by rw [List.map_map]; rfl
theorem ON (cd : List Int) (c : Cu) (bw : Nat) (pv : Value) (hcd : Cc cd) (h0 : 0 ≤ c.1) (h1 : c.1 ≤ 524288) : Proc Try.prog 92 [.t (.v (.pointer (some ⟨bw, 0, none⟩)))] ([pv]) ([T.bytes cd]) [.obox (.pointer (some ⟨bw, 0, none⟩)) (cuC pv c)] (.agg [.own (T.Funcs (FH cd c).1.funcs)]) [.obox (.pointer (some ⟨bw, 0, none⟩)) (cuC pv (FH cd c).2)] := by
 have hc4 := AM (cd := cd) (n := 4) (c := c)
 have hv4 := Ac (n := 4) (c := c) hcd h0
 have hv4' := hv4.2.1 (by omega)
 have hpr := Er (c := c) hcd h0
 refine Proc.intro tys Try.func92 Z Z (N := 50) [100] 99 ([(0, .t (.v (.pointer (some ⟨bw, 0, none⟩))))]) ([(100, .obox (.pointer (some ⟨bw, 0, none⟩)) (cuC pv c)), (99, .ro [pv] [T.bytes cd])]) Z Z Z Z (by decide) (by decide) Z (fun w0 G F0 => ?_);refine nY Z (sG (AH tys Z Z (AA Z) Z Z Z (nZ Z (nA (bZ [T.int 0] ?_)))));refine nZ Z (eZ Z (nB (sQ (sG (eZ Z ?_)))));refine cP [100] (hm := (Ab cd 4 c bw pv hcd h0 (by omega))) (k := ?_);refine nZ Z (eZ Z (nB (AF ?_)));refine lK (α := Int × List Int × List T × Nat × Cu) [0, 2] [99, 2] (fun x => [(4, .t (.int (x.1))), (3, .sl 9 0 (x.2.2.2.1))]) (fun x => [(100, .obox (.pointer (some ⟨bw, 0, none⟩)) (cuC pv (x.2.2.2.2))), (9, .L 1 (x.2.2.1))]) (fun x => 0 ≤ (x.1) ∧ (x.2.1).length + (x.1) ≤ 4 ∧ (x.2.2.2.1) = (x.2.2.1).length ∧ (x.2.2.1) = (x.2.1).map T.int ∧ CE cd (x.1).toNat (x.2.1) (x.2.2.2.2) = BS cd c ∧ c.1 ≤ (x.2.2.2.2).1 ∧ (x.2.2.2.2).1 + 2 * (x.1) ≤ c.1 + 10) (fun x => Int.toNat ((x.1))) (pickV cd 4 c, [0], [T.int 0], 1, curC cd 4 c) ?_ (fun x hx => ?_)
 ·dsimp only
  exact ⟨by omega, by simp; omega, rfl, rfl, rfl, by omega, by omega⟩
 obtain ⟨k, l, ys, n, c'⟩ := x
 obtain ⟨hk0, hk4, hn, hys, hre, hca, hcb⟩ := hx
 dsimp only at hk0 hk4 hn hys hre hca hcb ⊢;refine nY Z (sQ (sG (eK 2 Z (nB ?_))));refine AD Z (fun h1 => ?_) (fun h1 => ?_)
 ·
  simp only [HS] at h1;refine AE (tN (sQ (AF ?_)))
  have hk5 : k.toNat = (k - 1).toNat + 1 := by omega
  have hc5 := AM (cd := cd) (n := 5) (c := c')
  have hyl : ys.length = l.length := by rw [hys, Qh]
  refine rG (eK 2 Z (bZ [T.int 0, T.int 0, T.int 0, T.int 1, T.int 2] ?_));refine nZ Z (AC (Le.gather (u := 18) (id := 18) Z Z (by first | (simp; done) | (simp; omega) | omega)) ?_);refine nZ Z ?_;refine cP [100] (hm := (Da cd [0, 0, 0, 1, 2] c' bw pv hcd (by omega) (by omega) (by decide) (by decide))) (k := ?_);refine nZ Z (bZ [T.int (at0 0 [0, 0, 0, 1, 2] (pickV cd 5 c'))] ?_);refine nZ Z (AJ tys Z Z (AA Z) Z Z Z Z Z (.own Z (by first | omega | (simp only [Qg]; omega))) Z (.own Z (by first | decide | omega)) (by decide) (by simp only [Qo, Qk, List.length_nil]; omega) (by decide) Z ?_);refine nZ Z (eZ Z (kZ [0,2,3,4,12,13,16,17,18,19,20,21] Z (oN (bN (tN (rG (eZ Z (evI ?_))))))));refine eZ Z (oN ?_);refine lQ (_, l ++ [at0 0 [0, 0, 0, 1, 2] (pickV cd 5 c')], _, _, _) ?_ ?_
  ·dsimp only
   subst hn;rw [hk5, CE] at hre;refine ⟨by omega, by simp; omega, by simp, ?_, hre, by (show c.1 ≤ (curC cd 5 c').1); omega, by (show (curC cd 5 c').1 + 2 * (k - 1) ≤ c.1 + 10); omega⟩;rw [Qt, hys, Q8];rfl
  ·(show Int.toNat _ < Int.toNat _); omega
 simp only [HS] at h1;refine AV (tE (AP (AO (tN (sQ ?_)))))
 have hk6 : k.toNat = 0 := by omega
 rw [hk6, CE] at hre
 obtain ⟨ps, hps⟩ : ∃ z, z = l := ⟨_, rfl⟩
 have hpa : (BS cd c).1 = ps ∧ (BS cd c).2 = c' := by rw [← hre, hps]; exact ⟨rfl, rfl⟩
 have hpR : FH cd c = (⟨(Br cd ps ps [] c').1⟩, (Br cd ps ps [] c').2) := by rw [FH, hpa.1, hpa.2]
 rw [hpa.1] at hpr
 obtain ⟨hp1, hp2, hpo, hpz⟩ := hpr
 have hpl := hpo.1
 have hfz := Mz hpz
 subst hn hys;refine nY Z (AU (Le.gather (u := 3) (id := 9) Z Z (by omega)) (nY Z ?_));rw [Qt, ← hps];refine AU (Le.freeze (u := 3) Z) (nY Z (rG (AH tys Z Z (AA Z) Z Z Z (nZ Z (nB (sQ (sQ (AU (Le.nilBox (u := 5) (j := 0) 4 Z Z) (nY Z (rG (eZ Z (evE ?_))))))))))));refine eZ Z (nB (AF ?_));refine lK (α := Int × List Func × List T × Cu) [0, 2, 3, 5, 22, 23] [99, 2] (fun x => [(24, .t (.int (x.1)))]) (fun x => [(100, .obox (.pointer (some ⟨bw, 0, none⟩)) (cuC pv (x.2.2.2))), (5, .box [.own (.list 4 (x.2.2.1))])]) (fun x => 0 ≤ (x.1) ∧ (x.1) ≤ ps.length ∧ ((x.2.1).length : Int) = (x.1) ∧ (x.2.2.1) = (x.2.1).map Func.tt ∧ Br cd ps (ps.drop (x.1).toNat) (x.2.1) (x.2.2.2) = Br cd ps ps [] c' ∧ c'.1 ≤ (x.2.2.2).1 ∧ (x.2.2.2).1 ≤ c'.1 + 2500 * (x.1)) (fun x => Int.toNat (ps.length - (x.1))) (0, [], [], c') ?_ (fun x hx => ?_)
 ·dsimp only
  exact ⟨by omega, by omega, rfl, rfl, rfl, by omega, by omega⟩
 obtain ⟨i, fs, xs, c1⟩ := x
 obtain ⟨hi0, hip, hfl, hxs, hre2, hda, hdb⟩ := hx
 dsimp only at hi0 hip hfl hxs hre2 hda hdb ⊢;refine nY Z (sG (eZ Z (nB (sQ ?_))));refine AD Z (fun h2 => ?_) (fun h2 => ?_)
 ·
  simp only [HS] at h2;refine AE (tN (sQ (AF (sQ ?_))))
  have hil : i.toNat < ps.length := by omega
  have hmi := hpo.2 (ps[i.toNat]'hil) (Qr _)
  obtain ⟨m, hm⟩ : ∃ z, z = ps[i.toNat]'hil := ⟨_, rfl⟩
  rw [← hm] at hmi
  have hb3 := AM (cd := cd) (n := 3) (c := c1)
  have hw3 := Ac (n := 3) (c := c1) hcd (by omega)
  have hw3' := hw3.2.1 (by omega)
  have hb2 := AM (cd := cd) (n := 2) (c := curC cd 3 c1)
  have hw2 := Ac (n := 2) (c := curC cd 3 c1) hcd (by omega)
  have hw2' := hw2.2.1 (by omega)
  have hfr := FT (cd := cd) (m := m) (c := c1) hcd hpo (by omega)
  have hle := OY (a := 6) (b := m + pickV cd 3 c1) (by omega) (by omega)
  refine rG ?_;refine iY (k := ?_);refine eK 2 Z (nA (nZ Z ?_));rw [← hm];refine eK 3 Z ?_;refine cP [100] (hm := (Ab cd 3 c1 bw pv hcd (by omega) (by omega))) (k := ?_);refine nZ Z (evI ?_);refine kZ [0,2,3,5,7,22,23,24,25,26,27,28,29,30,31,32] Z (AQ ?_);refine ⟨_, Me 6 (m + pickV cd 3 c1), rfl, ?_⟩;refine AG tys Z Z (AA Z) Z Z Z (by kernel_rfl) Z Z Z Z Z Z (AH tys Z Z (AA Z) Z Z Z (nZ Z (sT Z (nZ Z (nB (sQ ?_))))));refine QW (u := 8) (pid := 1008) Z Z (fun fw => ?_);refine nY Z (AU (Le.nilBox (u := 8) (j := 3) 5 Z Z) (nY Z (rG (eK 3 Z ?_))));refine cP [100] (hm := (Ab cd 2 (curC cd 3 c1) bw pv hcd (by omega) (by omega))) (k := ?_);refine nZ Z (evI ?_);refine kZ [0,2,3,5,7,8,22,23,24,25,26,27,28,29,30,31,32,33,34,35,36,37,38,39] Z (AC (Le.close (u := 8) 1008 Z Z Z) (nZ Z ?_));refine cP [100,8] (hm := (Hj cd (ES 6 (m + pickV cd 3 c1)) ps pv hcd hpo hfz hle (1 + pickV cd 2 (curC cd 3 c1)).toNat (by omega) (1 + pickV cd 2 (curC cd 3 c1)) false [] m (curC cd 2 (curC cd 3 c1)) bw fw (by omega) (by decide) (by omega) (by dsimp only [List.length_nil]; omega))) (k := ?_);refine nZ Z (AC (Le.open (u := 8) 1008 Z Z Z Z) (nZ Z (eZ Z (sT Z (nZ Z (nB ?_))))));rw [List.nil_append, ts_map];refine nY Z (AU (Le.adoptBox (u := 5) (j := 0) (id := 105) Z Z Z) (nY Z (rG (eK 2 Z (Ak tys Z Z (AA Z) Z Z Z Z Z Z (nZ Z (bZ [(E0 cd ps m c1).1.tt] ?_)))))));refine nZ Z (AJ tys Z Z (AA Z) Z Z Z Z Z (.own Z (by first | omega | (simp only [Qg]; omega))) Z (.own Z (by first | decide | omega)) (by decide) (by simp only [Qo, Qk, List.length_nil]; rw [hxs, Qh]; omega) (by decide) Z ?_);refine nZ Z (eZ Z (kZ [0,2,3,5,7,8,22,23,24,25,26,27,28,29,30,31,32,33,34,35,36,37,38,39,40,41,42,43,44,45,46,47] Z (sT Z (nZ Z (oN (bN (tN (AU (Le.gatherBox (u := 5) (j := 0) (id := 105) Z Z Z (by simp) Z) ?_))))))));refine nY Z (rG (evI ?_));refine eZ Z (oN ?_);refine lQ (_, fs ++ [(E0 cd ps m c1).1], _, _) ?_ ?_
  ·dsimp only
   refine ⟨by omega, by omega, by rw [Qg, Qk, List.length_nil]; omega, ?_, ?_, by (show c'.1 ≤ (E0 cd ps m c1).2.1); omega, by (show (E0 cd ps m c1).2.1 ≤ c'.1 + 2500 * (i + 1)); omega⟩
   ·rw [Qt, Qi (by simp), Qi (by simp), hxs, Q8]; rfl
   ·rw [List.drop_eq_getElem_cons hil, ← hm, Br] at hre2
    rw [show (i + 1).toNat = i.toNat + 1 from by omega];exact hre2
  ·(show Int.toNat _ < Int.toNat _); omega
 simp only [HS] at h2;refine AV (tE (AP (AO (tN (sQ ?_)))));rw [List.drop_eq_nil_of_le (by omega), Br] at hre2;refine rG (Ak tys Z Z (AA Z) Z Z Z Z Z Z (nZ Z (sT Z (nZ Z (nB (rT ?_))))));refine eP [_] ?_ ?_
 ·rw [hpR, ← hre2, hxs]
  rfl
 ·rw [hpR, ← hre2]
open Go.Eng
def kn1 (cd : List Int) (c : Cu) : Cu := curC cd 9 c
def kn2 (cd : List Int) (c : Cu) : Cu := curC cd 2 (kn1 cd c)
def kn3 (cd : List Int) (c : Cu) : Cu := curC cd 2 (kn2 cd c)
def LD (v : Int) (b : Bool) : Func := ⟨0, 0, [0, 1, 2], [⟨3, 1, [], [], []⟩, ⟨3, 2, [], [], []⟩, if b = true then ⟨6, 0, [], [], []⟩ else ⟨4, 0, [⟨1, 40 + v⟩], [], []⟩]⟩
def oneK : Func := ⟨0, 0, [0], [⟨2, 0, [⟨10, 0⟩], [], []⟩]⟩
def Pl (v : Int) (b : Bool) : Func := ⟨0, 0, if b = true then [0, 1] else [0], if b = true then [⟨2, 0, [⟨1, v⟩], [], []⟩, ⟨4, 0, [⟨1, 50⟩], [], []⟩] else [⟨2, 0, [⟨1, v⟩], [], []⟩]⟩
def ET (cd : List Int) (c : Cu) : Prog × Cu := (⟨[LD (pickV cd 9 c) (decide (pickV cd 2 (kn1 cd c) = 0)), oneK, Pl (pickV cd 9 c) (decide (pickV cd 2 (kn2 cd c) = 0))]⟩, kn3 cd c)
theorem Mi {cd : List Int} {c : Cu} : c.1 ≤ (ET cd c).2.1 ∧ (ET cd c).2.1 ≤ c.1 + 6 := by
 have h1 := AM (cd := cd) (n := 9) (c := c)
 have h2 := AM (cd := cd) (n := 2) (c := kn1 cd c)
 have h3 := AM (cd := cd) (n := 2) (c := kn2 cd c)
 unfold ET;simp only;unfold kn3;unfold kn2 at h3 ⊢;unfold kn1 at h2 h3 ⊢;omega
def programR (cd : List Int) (c : Cu) : Prog × Cu := if pickV cd 4 c = 0 then ET cd (curC cd 4 c) else FH cd (curC cd 4 c)
theorem D5 {cd : List Int} {c : Cu} (hcd : Cc cd) (h0 : 0 ≤ c.1) : c.1 ≤ (programR cd c).2.1 ∧ (programR cd c).2.1 ≤ c.1 + 10020 := by
 have p := AM (cd := cd) (n := 4) (c := c)
 have h1 := Mi (cd := cd) (c := curC cd 4 c)
 have h2 := J9 (c := curC cd 4 c) hcd (by omega)
 unfold programR
 split <;> omega
theorem Mh (cd : List Int) (c : Cu) (bw : Nat) (pv : Value) (hcd : Cc cd) (h0 : 0 ≤ c.1) (h1 : c.1 ≤ 524288) : Proc Try.prog 91 [.t (.v (.pointer (some ⟨bw, 0, none⟩)))] ([pv]) ([T.bytes cd]) [.obox (.pointer (some ⟨bw, 0, none⟩)) (cuC pv c)] (.agg [.own (T.Funcs (ET cd c).1.funcs)]) [.obox (.pointer (some ⟨bw, 0, none⟩)) (cuC pv (ET cd c).2)] := by
 have hc9 := AM (cd := cd) (n := 9) (c := c)
 have hc1 := AM (cd := cd) (n := 2) (c := kn1 cd c)
 have hc2 := AM (cd := cd) (n := 2) (c := kn2 cd c)
 have hv9 := Ac (n := 9) (c := c) hcd h0
 have hv9' := hv9.2.1 (by omega)
 have hk1 : (kn1 cd c).1 = (curC cd 9 c).1 := rfl
 have hk2 : (kn2 cd c).1 = (curC cd 2 (kn1 cd c)).1 := rfl
 refine Proc.intro tys Try.func91 Z Z (N := 55) [100] 99 ([(0, .t (.v (.pointer (some ⟨bw, 0, none⟩))))]) ([(100, .obox (.pointer (some ⟨bw, 0, none⟩)) (cuC pv c)), (99, .ro [pv] [T.bytes cd])]) Z Z Z Z (by decide) (by decide) Z (fun w0 G F0 => ?_);refine nY Z (sG (AH tys Z Z (AA Z) Z Z Z (nZ Z (nA (eZ Z ?_)))));refine cP [100] (hm := (Ab cd 9 c bw pv hcd h0 (by omega))) (k := ?_);refine nZ Z (eZ Z (nA (AG tys Z Z (AA Z) Z Z Z (by kernel_rfl) Z Z Z Z Z Z (bZ [Tok.tt ⟨10, 0⟩] ?_))));refine nZ Z (AC (Le.gather (u := 10) (id := 10) Z Z (by first | (simp; done) | (simp; omega) | omega)) ?_);refine nZ Z (AG tys Z Z (AA Z) Z Z Z (by kernel_rfl) Z Z Z Z Z Z (bZ [Stmt.tt ⟨2, 0, [⟨10, 0⟩], [], []⟩] ?_));refine nZ Z (AC (Le.gather (u := 12) (id := 12) Z Z (by first | (simp; done) | (simp; omega) | omega)) ?_);refine nZ Z (bZ [T.int 0] ?_);refine nZ Z (AC (Le.gather (u := 13) (id := 13) Z Z (by first | (simp; done) | (simp; omega) | omega)) ?_);refine nZ Z (kZ [0,2,3,12,13] Z (AG tys Z Z (AA Z) Z Z Z (by kernel_rfl) Z Z Z Z Z Z (AH tys Z Z (AA Z) Z Z Z (nZ Z (sT Z (nZ Z (nA (eZ Z (AG tys Z Z (AA Z) Z Z Z (by kernel_rfl) Z Z Z Z Z Z (bZ [Tok.tt ⟨1, pickV cd 9 c⟩] ?_))))))))));refine nZ Z (AC (Le.gather (u := 17) (id := 17) Z Z (by first | (simp; done) | (simp; omega) | omega)) ?_);refine nZ Z (AG tys Z Z (AA Z) Z Z Z (by kernel_rfl) Z Z Z Z Z Z (bZ [Stmt.tt ⟨2, 0, [⟨1, pickV cd 9 c⟩], [], []⟩] ?_));refine nZ Z (AC (Le.gather (u := 19) (id := 19) Z Z (by first | (simp; done) | (simp; omega) | omega)) ?_);refine nZ Z (bZ [T.int 0] ?_);refine nZ Z (AC (Le.gather (u := 20) (id := 20) Z Z (by first | (simp; done) | (simp; omega) | omega)) ?_);refine nZ Z (kZ [0,2,3,4,19,20] Z (AG tys Z Z (AA Z) Z Z Z (by kernel_rfl) Z Z Z Z Z Z (AH tys Z Z (AA Z) Z Z Z (nZ Z (sT Z (nZ Z (nA (bZ [T.int 0, T.int 1, T.int 2] ?_))))))));refine nZ Z (AC (Le.gather (u := 22) (id := 22) Z Z (by first | (simp; done) | (simp; omega) | omega)) ?_);refine nZ Z (AG tys Z Z (AA Z) Z Z Z (by kernel_rfl) Z Z Z Z Z Z (AG tys Z Z (AA Z) Z Z Z (by kernel_rfl) Z Z Z Z Z Z (eZ Z (evI ?_))));refine AG tys Z Z (AA Z) Z Z Z (by kernel_rfl) Z Z Z Z Z Z (kZ [0,2,4,5,22,23,24,27] Z (bZ [Tok.tt ⟨1, 40 + pickV cd 9 c⟩] ?_));refine nZ Z (AC (Le.gather (u := 28) (id := 28) Z Z (by first | (simp; done) | (simp; omega) | omega)) ?_);refine nZ Z (AG tys Z Z (AA Z) Z Z Z (by kernel_rfl) Z Z Z Z Z Z (bZ [Stmt.tt ⟨3, 1, [], [], []⟩, Stmt.tt ⟨3, 2, [], [], []⟩, Stmt.tt ⟨4, 0, [⟨1, 40 + pickV cd 9 c⟩], [], []⟩] ?_));refine nZ Z (AC (Le.gather (u := 30) (id := 30) Z Z (by first | (simp; done) | (simp; omega) | omega)) ?_);refine nZ Z (AG tys Z Z (AA Z) Z Z Z (by kernel_rfl) Z Z Z Z Z Z (AH tys Z Z (AA Z) Z Z Z (nZ Z (sT Z (nZ Z (nB (sQ (sG (eZ Z ?_)))))))));refine cP [100] (hm := (DA cd 2 (kn1 cd c) bw pv hcd (by omega) (by omega))) (k := ?_);refine nZ Z (nB ?_);refine A1 (α := List T) [0, 2, 4, 5, 6] [99, 2, 4, 5, 100] (fun x => []) (fun x => [(6, .box [.t (T.int 0), .t (T.int 0), .own (T.ints [0, 1, 2]), .own (.list 5 x)])]) (fun x => x = (LD (pickV cd 9 c) (decide (pickV cd 2 (kn1 cd c) = 0))).stmts.map Stmt.tt) ?_ (fun xs hx => ?_)
 ·
  refine AD Z (fun h1 => ?_) (fun h1 => ?_)
  ·
   simp only [HS] at h1;refine AU (Le.adoptBox (u := 6) (j := 3) (id := 106) Z Z Z) (nY Z (kY [0,2,4,5,6] Z (rG (eK 2 Z (AG tys Z Z (AA Z) Z Z Z (by kernel_rfl) Z Z Z Z Z Z (Bb tys Z Z (AA Z) Z Z Z Z Z Z Z Z (by simp) (by simp) ?_))))));refine Ec tys (Stmt.tt ⟨6, 0, [], [], []⟩) Z Z Z Z Z Z (Q9 _) (by simp) Z (by repeat (first | exact AbsL.nil' | refine AbsL.v' ?_ | refine AbsL.own' ?_ | refine AbsL.none' ?_)) Z Z Z ?_;refine nZ Z (AC (Le.gatherBox (u := 6) (j := 3) (id := 106) Z Z Z (by simp) Z) ?_);refine nZ Z (nZ Z (oN (jQ _ ?_)));unfold LD
   (rw [if_pos (decide_eq_true (by assumption))]; rfl)
  simp only [HS] at h1;refine AE (jQ _ ?_);unfold LD
  (rw [if_neg (by simpa using ‹¬ pickV cd 2 (kn1 cd c) = 0›)]; rfl)
 have hxs := hx
 refine tN (sQ (sQ (kY [0,2,4,5,6] Z (rG (eZ Z ?_)))));refine cP [100] (hm := (DA cd 2 (kn2 cd c) bw pv hcd (by omega) (by omega))) (k := ?_);refine nZ Z (nB ?_);refine A1 (α := List T × List T) [2, 4, 5, 6] [99, 2, 4, 6, 100] (fun x => []) (fun x => [(5, .box [.t (T.int 0), .t (T.int 0), .own (.list 1 (x.1)), .own (.list 5 (x.2))])]) (fun x => (x.1) = (Pl (pickV cd 9 c) (decide (pickV cd 2 (kn2 cd c) = 0))).body.map T.int ∧ (x.2) = (Pl (pickV cd 9 c) (decide (pickV cd 2 (kn2 cd c) = 0))).stmts.map Stmt.tt) ?_ (fun x hx => ?_)
 ·
  refine AD Z (fun h1 => ?_) (fun h1 => ?_)
  ·
   simp only [HS] at h1;refine sQ (AU (Le.adoptBox (u := 5) (j := 3) (id := 105) Z Z Z) (nY Z (rG (eK 2 Z (AG tys Z Z (AA Z) Z Z Z (by kernel_rfl) Z Z Z Z Z Z (bZ [Tok.tt ⟨1, 50⟩] ?_))))));refine nZ Z (AC (Le.gather (u := 43) (id := 43) Z Z (by first | (simp; done) | (simp; omega) | omega)) ?_);refine nZ Z (AG tys Z Z (AA Z) Z Z Z (by kernel_rfl) Z Z Z Z Z Z (bZ [Stmt.tt ⟨4, 0, [⟨1, 50⟩], [], []⟩] ?_));refine nZ Z (AJ tys Z Z (AA Z) Z Z Z Z Z (.own Z (by first | omega | (simp only [Qg]; omega))) Z (.own Z (by first | decide | omega)) (by decide) (by simp) (by decide) Z ?_);refine nZ Z (kZ [2,4,5,6,46] Z (eZ Z (sT Z (nZ Z (nB (AU (Le.gatherBox (u := 5) (j := 3) (id := 105) Z Z Z (by simp) Z) ?_))))));refine nY Z (rG (bZ [T.int 0, T.int 1] ?_));refine nZ Z (AC (Le.gather (u := 48) (id := 48) Z Z (by first | (simp; done) | (simp; omega) | omega)) ?_);refine nZ Z (eZ Z (sT Z (nZ Z (oN (jQ (_, _) ?_)))));dsimp only;unfold Pl
   (rw [if_pos (decide_eq_true (by assumption)), if_pos (decide_eq_true (by assumption))]; exact ⟨rfl, rfl⟩)
  simp only [HS] at h1;refine AE (jQ (_, _) ?_);dsimp only;unfold Pl
  (rw [if_neg (by simpa using ‹¬ pickV cd 2 (kn2 cd c) = 0›), if_neg (by simpa using ‹¬ pickV cd 2 (kn2 cd c) = 0›)]; exact ⟨rfl, rfl⟩)
 obtain ⟨bs, ys⟩ := x
 obtain ⟨hbs, hys⟩ := hx
 dsimp only at hbs hys ⊢;refine tN (sQ ?_);subst hxs hbs hys;refine kY [2,4,5,6] Z (rG (Ak tys Z Z (AA Z) Z Z Z Z Z Z (nZ Z (Ak tys Z Z (AA Z) Z Z Z Z Z Z (nZ Z (Ak tys Z Z (AA Z) Z Z Z Z Z Z (nZ Z (bZ [(LD (pickV cd 9 c) (decide (pickV cd 2 (kn1 cd c) = 0))).tt, oneK.tt, (Pl (pickV cd 9 c) (decide (pickV cd 2 (kn2 cd c) = 0))).tt] ?_))))))));refine nZ Z (AC (Le.gather (u := 53) (id := 53) Z Z (by first | (simp; done) | (simp; omega) | omega)) ?_);refine nZ Z (AG tys Z Z (AA Z) Z Z Z (by kernel_rfl) Z Z Z Z Z Z (sT Z (nZ Z (nB (rT ?_)))));refine eP [_] ?_ ?_
 ·rfl
 ·rfl
theorem JO (cd : List Int) (c : Cu) (bw : Nat) (pv : Value) (hcd : Cc cd) (h0 : 0 ≤ c.1) (h1 : c.1 ≤ 524280) : Proc Try.prog 60 [.t (.v (.pointer (some ⟨bw, 0, none⟩)))] ([pv]) ([T.bytes cd]) [.obox (.pointer (some ⟨bw, 0, none⟩)) (cuC pv c)] (.agg [.own (T.Funcs (programR cd c).1.funcs)]) [.obox (.pointer (some ⟨bw, 0, none⟩)) (cuC pv (programR cd c).2)] := by
 have hc4 := AM (cd := cd) (n := 4) (c := c)
 refine Proc.intro tys Try.func60 Z Z (N := 9) [100] 99 ([(0, .t (.v (.pointer (some ⟨bw, 0, none⟩))))]) ([(100, .obox (.pointer (some ⟨bw, 0, none⟩)) (cuC pv c)), (99, .ro [pv] [T.bytes cd])]) Z Z Z Z (by decide) (by decide) Z (fun w0 G F0 => ?_);refine nY Z (sG (AH tys Z Z (AA Z) Z Z Z (nZ Z (nB (sQ (sG (eZ Z ?_)))))));refine cP [100] (hm := (DA cd 4 c bw pv hcd h0 (by omega))) (k := ?_);refine nZ Z (nB ?_);refine AD Z (fun h1 => ?_) (fun h1 => ?_)
 ·
  simp only [HS] at h1;refine sG (eZ Z ?_);refine cP [100] (hm := (Mh cd (curC cd 4 c) bw pv hcd (by omega) (by omega))) (k := ?_);refine nZ Z (sT Z (nZ Z (nB (rT (tR ?_)))));refine eP [_] ?_ ?_
  ·(rw [programR, if_pos (by assumption)]; rfl)
  ·(rw [programR, if_pos (by assumption)]; done)
 simp only [HS] at h1;refine AE (tN (sG (eZ Z ?_)));refine cP [100] (hm := (ON cd (curC cd 4 c) bw pv hcd (by omega) (by omega))) (k := ?_);refine nZ Z (sT Z (nZ Z (nB (rT ?_))));refine eP [_] ?_ ?_
 ·(rw [programR, if_neg (by assumption)]; rfl)
 ·(rw [programR, if_neg (by assumption)]; done)
open Go.Eng
abbrev stm0 : Stmt := ⟨0, 0, [], [], []⟩
abbrev fun0 : Func := ⟨0, 0, [], []⟩
def setS (f : Func) (j : Int) (s : Stmt) : Func := ⟨f.params, f.vars, f.body, f.stmts.set j.toNat s⟩
def anyT (cd : List Int) (f : Func) (j : Int) (s : Stmt) (c : Cu) : Func × Cu :=
 if pickV cd 40 c = 0 then (setS f j ⟨pickV cd 11 (curC cd 40 c), s.n, s.ex, s.thn, s.els⟩, curC cd 11 (curC cd 40 c))
 else if pickV cd 40 c = 1 then (setS f j ⟨s.kind, pickV cd 7 (curC cd 40 c) - 1, s.ex, s.thn, s.els⟩, curC cd 7 (curC cd 40 c))
 else if pickV cd 40 c = 2 then (⟨f.params, pickV cd 8 (curC cd 40 c), f.body, f.stmts⟩, curC cd 8 (curC cd 40 c))
 else if pickV cd 40 c = 3 then (⟨f.params, f.vars, f.body.drop 1, f.stmts⟩, curC cd 40 c)
 else if pickV cd 40 c = 4 then (setS f j ⟨s.kind, s.n, s.ex, s.thn ++ [pickV cd 5 (curC cd 40 c)], s.els⟩, curC cd 5 (curC cd 40 c))
 else (f, curC cd 40 c)
def anyF (cd : List Int) (f : Func) (c : Cu) : Func × Cu := anyT cd f (pickV cd f.stmts.length c) (at0 stm0 f.stmts (pickV cd f.stmts.length c)) (curC cd f.stmts.length c)
def anyQ (cd : List Int) (l : List Func) (i : Int) (c : Cu) : List Func × Cu := (l.set i.toNat (anyF cd (at0 fun0 l i) c).1, (anyF cd (at0 fun0 l i) c).2)
def Pc (cd : List Int) (l : List Func) (c : Cu) : List Func × Cu := anyQ cd l (pickV cd l.length c) (curC cd l.length c)
def Kq (cd : List Int) (c : Cu) : Prog × Cu := (⟨(Pc cd (programR cd c).1.funcs (programR cd c).2).1⟩, (Pc cd (programR cd c).1.funcs (programR cd c).2).2)
structure Dfn (f : Func) : Prop where
 b1 : 1 ≤ f.body.length
 b3 : f.body.length ≤ 3
 s1 : 1 ≤ f.stmts.length
 s12 : f.stmts.length ≤ 12
 st : ∀ s, s ∈ f.stmts → Nr s
theorem Jy {cd : List Int} {vars : Int} {params : List Int} {r : Bool → Nat → Nat → Cu → Dr} {loop flat : Bool} {n0 d0 : Nat} : ∀ (n : Nat) (b : List Int) (l : List Stmt) (c : Cu), b.length ≤ (stmL cd vars params r loop flat n0 d0 n b l c).blk.length ∧ l.length ≤ (stmL cd vars params r loop flat n0 d0 n b l c).news.length
 | 0, b, l, c => by rw [stmL]; exact ⟨Qu _, Qu _⟩
 | n + 1, b, l, c => by
  rw [stmL];split
  ·exact ⟨Qu _, Qu _⟩
  ·have h := Jy (cd := cd) (vars := vars) (params := params) (r := r) (loop := loop) (flat := flat) (n0 := n0) (d0 := d0) n (b ++ [((n0 + l.length : Nat) : Int)]) (l ++ (Lp cd vars params r loop flat (n0 + l.length) (d0 + dfs l) c).1 :: (Lp cd vars params r loop flat (n0 + l.length) (d0 + dfs l) c).2.1) (Lp cd vars params r loop flat (n0 + l.length) (d0 + dfs l) c).2.2
   rw [Qg, Qg] at h;omega
theorem N8 {cd : List Int} {vars : Int} {params : List Int} (hcd : Cc cd) {e : Nat} {loop : Bool} {d : Nat} {c : Cu} (h0 : 0 ≤ c.1) : 1 ≤ (GO cd vars params e loop 0 d c).blk.length ∧ 1 ≤ (GO cd vars params e loop 0 d c).news.length := by
 have v := Ac (n := 3) (c := c) hcd h0
 rw [L7]
 obtain ⟨m, hm⟩ : ∃ m, (1 + pickV cd 3 c).toNat = m + 1 := ⟨(pickV cd 3 c).toNat, by omega⟩
 rw [hm, stmL, if_neg (by simp)]
 have h := Jy (cd := cd) (vars := vars) (params := params) (r := DK cd vars params e) (loop := loop) (flat := decide (e = 0)) (n0 := 0) (d0 := d) m ([] ++ [((0 + ([] : List Stmt).length : Nat) : Int)]) ([] ++ (Lp cd vars params (DK cd vars params e) loop (decide (e = 0)) (0 + ([] : List Stmt).length) (d + dfs []) (curC cd 3 c)).1 :: (Lp cd vars params (DK cd vars params e) loop (decide (e = 0)) (0 + ([] : List Stmt).length) (d + dfs []) (curC cd 3 c)).2.1) (Lp cd vars params (DK cd vars params e) loop (decide (e = 0)) (0 + ([] : List Stmt).length) (d + dfs []) (curC cd 3 c)).2.2
 rw [List.nil_append, List.nil_append, Qk, Qk, List.length_nil] at h;exact ⟨by simpa using RK (Nat.le_add_left _ _) h.1, by simpa using RK (Nat.le_add_left 1 _) h.2⟩
theorem My {cd : List Int} {params : List Int} {m : Int} {c : Cu} (hcd : Cc cd) (hp : Hb params) (h0 : 0 ≤ c.1) : Dfn (E0 cd params m c).1 := by
 have h := FT (m := m) hcd hp h0
 have p1 := AM (cd := cd) (n := 3) (c := c)
 have p2 := AM (cd := cd) (n := 2) (c := curC cd 3 c)
 have h2 := N8 (cd := cd) (vars := ES 6 (m + pickV cd 3 c)) (params := params) hcd (e := (1 + pickV cd 2 (curC cd 3 c)).toNat) (loop := false) (d := 0) (c := curC cd 2 (curC cd 3 c)) (by omega)
 exact ⟨h2.1, h.2.2.1, h2.2, h.2.2.2.1, h.2.2.2.2⟩
theorem Gl {cd : List Int} {params : List Int} (hcd : Cc cd) (hp : Hb params) : ∀ (ms : List Int) (l : List Func) (c : Cu), 0 ≤ c.1 → (∀ f, f ∈ l → Dfn f) → ∀ f, f ∈ (Br cd params ms l c).1 → Dfn f
 | [], l, c, h0, hl => by rw [Br]; exact hl
 | m :: ms, l, c, h0, hl => by
  have h := FT (m := m) hcd hp h0
  have h2 := My (m := m) hcd hp h0
  rw [Br]
  refine Gl hcd hp ms _ _ (by omega) fun f hf => ?_
  rcases Qj.1 hf with hf | hf
  ·exact hl f hf
  ·rw [Q5] at hf; subst hf; exact h2
theorem E5 {cd : List Int} {c : Cu} (hcd : Cc cd) (h0 : 0 ≤ c.1) : 1 ≤ (programR cd c).1.funcs.length ∧ (programR cd c).1.funcs.length ≤ 4 ∧ ∀ f, f ∈ (programR cd c).1.funcs → Dfn f := by
 have p := AM (cd := cd) (n := 4) (c := c)
 have h2 := J9 (c := curC cd 4 c) hcd (by omega)
 obtain ⟨a, b, d, e⟩ := Er (c := curC cd 4 c) hcd (by omega)
 unfold programR;split
 ·refine ⟨by unfold ET; simp, by unfold ET; simp, fun f hf => ?_⟩
  unfold ET at hf;simp only [Qp, List.not_mem_nil, or_false] at hf
  rcases hf with rfl | rfl | rfl
  ·unfold LD
   exact ⟨by simp, by simp, by simp, by simp, fun s hs => by
    simp only [Qp, List.not_mem_nil, or_false] at hs
    rcases hs with rfl | rfl | rfl
    ·exact ⟨by simp, by simp, by simp⟩
    ·exact ⟨by simp, by simp, by simp⟩
    ·split <;> exact ⟨by simp, by simp, by simp⟩⟩
  ·unfold oneK
   exact ⟨by simp, by simp, by simp, by simp, fun s hs => by
    rw [Q5] at hs;subst hs
    exact ⟨by simp, by simp, by simp⟩⟩
  ·unfold Pl
   split
   ·exact ⟨by simp, by simp, by simp, by simp, fun s hs => by
     simp only [Qp, List.not_mem_nil, or_false] at hs
     rcases hs with rfl | rfl <;> exact ⟨by simp, by simp, by simp⟩⟩
   ·exact ⟨by simp, by simp, by simp, by simp, fun s hs => by
     rw [Q5] at hs;subst hs
     exact ⟨by simp, by simp, by simp⟩⟩
 ·refine ⟨h2.2.2.1, h2.2.2.2.1, ?_⟩
  unfold FH;exact Gl hcd d _ _ _ (by omega) (by simp)
theorem QT {cd : List Int} {f : Func} {j : Int} {s : Stmt} {c : Cu} : c.1 ≤ (anyT cd f j s c).2.1 ∧ (anyT cd f j s c).2.1 ≤ c.1 + 4 := by
 have p := AM (cd := cd) (n := 40) (c := c)
 have p1 := AM (cd := cd) (n := 11) (c := curC cd 40 c)
 have p2 := AM (cd := cd) (n := 7) (c := curC cd 40 c)
 have p3 := AM (cd := cd) (n := 8) (c := curC cd 40 c)
 have p4 := AM (cd := cd) (n := 5) (c := curC cd 40 c)
 unfold anyT
 repeat' split
 all_goals (simp only; omega)
theorem QU {cd : List Int} {c : Cu} (hcd : Cc cd) (h0 : 0 ≤ c.1) : c.1 ≤ (Kq cd c).2.1 ∧ (Kq cd c).2.1 ≤ c.1 + 10040 := by
 have h1 := D5 (c := c) hcd h0
 unfold Kq Pc anyQ anyF;simp only
 have p1 := AM (cd := cd) (n := ((programR cd c).1.funcs.length : Int)) (c := (programR cd c).2)
 generalize curC cd ((programR cd c).1.funcs.length : Int) (programR cd c).2 = c2 at *;generalize at0 fun0 (programR cd c).1.funcs (pickV cd ((programR cd c).1.funcs.length : Int) (programR cd c).2) = f
 have p2 := AM (cd := cd) (n := (f.stmts.length : Int)) (c := c2)
 have h3 := QT (cd := cd) (f := f) (j := pickV cd f.stmts.length c2) (s := at0 stm0 f.stmts (pickV cd f.stmts.length c2)) (c := curC cd f.stmts.length c2)
 omega
theorem QS {cd : List Int} {f : Func} {j : Int} {s : Stmt} {c : Cu} (hf : Dfn f) (hs : Nr s) : (anyT cd f j s c).1.body.length ≤ 3 ∧ (anyT cd f j s c).1.stmts.length ≤ 12 ∧ ∀ x, x ∈ (anyT cd f j s c).1.stmts → x.ex.length ≤ 13 ∧ x.thn.length ≤ 4 ∧ x.els.length ≤ 4 := by
 obtain ⟨b1, b3, s1, s12, st⟩ := hf
 have st' : ∀ x, x ∈ f.stmts → x.ex.length ≤ 13 ∧ x.thn.length ≤ 4 ∧ x.els.length ≤ 4 := fun x hx => by
  have := st x hx
  exact ⟨this.1, Nat.le_succ_of_le this.2.1, Nat.le_succ_of_le this.2.2⟩
 have key : ∀ y : Stmt, (y.ex.length ≤ 13 ∧ y.thn.length ≤ 4 ∧ y.els.length ≤ 4) → (setS f j y).body.length ≤ 3 ∧ (setS f j y).stmts.length ≤ 12 ∧ ∀ x, x ∈ (setS f j y).stmts → x.ex.length ≤ 13 ∧ x.thn.length ≤ 4 ∧ x.els.length ≤ 4 := fun y hy => by
  refine ⟨b3, by unfold setS; simpa using s12, fun x hx => ?_⟩
  rcases RU hx with hx | rfl
  ·exact st' x hx
  ·exact hy
 obtain ⟨e1, e2, e3⟩ := hs
 unfold anyT
 repeat' split
 ·exact key _ ⟨e1, by simp only; omega, by simp only; omega⟩
 ·exact key _ ⟨e1, by simp only; omega, by simp only; omega⟩
 ·exact ⟨b3, s12, st'⟩
 ·exact ⟨by simp only [RV]; omega, s12, st'⟩
 ·exact key _ ⟨e1, by simp only [Qg, Qk, List.length_nil]; omega, by simp only; omega⟩
 ·exact ⟨b3, s12, st'⟩
theorem O6 {cd : List Int} {c : Cu} (hcd : Cc cd) (h0 : 0 ≤ c.1) : 1 ≤ (Kq cd c).1.funcs.length ∧ (Kq cd c).1.funcs.length ≤ 4 ∧ ∀ f, f ∈ (Kq cd c).1.funcs → f.body.length ≤ 3 ∧ f.stmts.length ≤ 12 ∧ ∀ x, x ∈ f.stmts → x.ex.length ≤ 13 ∧ x.thn.length ≤ 4 ∧ x.els.length ≤ 4 := by
 obtain ⟨h1, h4, hd⟩ := E5 (c := c) hcd h0
 have ha := D5 (c := c) hcd h0
 have hv := Ac (n := (programR cd c).1.funcs.length) (c := (programR cd c).2) hcd (by omega)
 have hv' := hv.2.1 (by omega)
 unfold Kq Pc anyQ;refine ⟨by simpa using h1, by simpa using h4, fun f hf => ?_⟩
 rcases RU hf with hf | rfl
 ·have h := hd f hf
  exact ⟨h.b3, h.s12, fun x hx => by have := h.st x hx; exact ⟨this.1, Nat.le_succ_of_le this.2.1, Nat.le_succ_of_le this.2.2⟩⟩
 ·have hat := Dz (d := fun0) hv.1 hv'
  have hm : at0 fun0 (programR cd c).1.funcs (pickV cd ((programR cd c).1.funcs.length : Int) (programR cd c).2) ∈ (programR cd c).1.funcs := by rw [hat]; exact Qr _
  have h := hd _ hm
  have hp := AM (cd := cd) (n := ((programR cd c).1.funcs.length : Int)) (c := (programR cd c).2)
  unfold anyF;refine QS h ?_
  have hw := Ac (n := ((at0 fun0 (programR cd c).1.funcs (pickV cd ((programR cd c).1.funcs.length : Int) (programR cd c).2)).stmts.length : Int)) (c := curC cd ((programR cd c).1.funcs.length : Int) (programR cd c).2) hcd (by omega)
  have hw' := hw.2.1 (by have := h.s1; omega)
  rw [Dz hw.1 hw'];exact h.st _ (Qr _)
theorem Jm {cd : List Int} {c : Cu} (hcd : Cc cd) (h0 : 0 ≤ c.1) {B : Nat} (hB : 13 ≤ B) : (Kq cd c).1.ok B := by
 obtain ⟨h1, h4, hf⟩ := O6 (c := c) hcd h0
 refine ⟨⟨by omega, fun f hfm => ?_⟩, trivial⟩
 obtain ⟨a, b, d⟩ := hf f hfm
 refine ⟨RK a (by omega), ⟨by omega, fun x hx => ?_⟩, trivial⟩
 obtain ⟨e1, e2, e3⟩ := d x hx
 exact ⟨RK e1 hB, RK e2 (by omega), RK e3 (by omega), trivial⟩
open Go.Eng
theorem fns_cells : ∀ (l : List Func) (x : T), x ∈ l.map Func.tt → (T.cells x).length = 4 := fun l x h => by
 obtain ⟨z, _, rfl⟩ := RA.1 h
 rfl
theorem body_read {w : World} {F : Nat → Prop} {v u : Value} {l : List Func} {i : Nat} {b : List Int} {p n : Int} {st : List Stmt} (h : RelL w F [v] [.list 4 ((l.map Func.tt).set i (.agg [T.int p, T.int n, .v u, .list 5 (st.map Stmt.tt)]))]) (hu : RelL w F [u] [.list 1 (b.map T.int)]) : RelL w F [v] [.list 4 ((l.set i ⟨p, n, b, st⟩).map Func.tt)] := by
 by_cases hi : i < l.length
 ·have e1 : (l.map Func.tt).set i (.agg [T.int p, T.int n, .v u, .list 5 (st.map Stmt.tt)]) = (l.take i).map Func.tt ++ .agg [T.int p, T.int n, .v u, .list 5 (st.map Stmt.tt)] :: (l.drop (i + 1)).map Func.tt := by
   rw [List.set_eq_take_append_cons_drop, if_pos (by rw [Qh]; exact hi), List.map_take, List.map_drop]
  have e2 : (l.set i ⟨p, n, b, st⟩).map Func.tt = (l.take i).map Func.tt ++ (Func.tt ⟨p, n, b, st⟩) :: (l.drop (i + 1)).map Func.tt := by
   rw [List.set_eq_take_append_cons_drop, if_pos hi, Q8, Q4]
  rw [e1] at h;rw [e2]
  refine MP h (by simp) (fun x hx => ?_) fun cs hcs => ?_
  ·rw [← e2] at hx; exact fns_cells _ x hx
  ·rw [Ra, Q0] at hcs ⊢
   have := Hz (A := ((l.take i).map Func.tt).flatMap T.cells ++ [T.int p, T.int n]) (u := u) (y := .list 1 (b.map T.int)) (B := .list 5 (st.map Stmt.tt) :: ((l.drop (i + 1)).map Func.tt).flatMap T.cells) (vs := cs) (by simpa [T.cells] using hcs) hu
   simpa [T.cells, Func.tt, T.ints, T.Stmts] using this
 ·rw [List.set_eq_of_length_le (by rw [Qh]; omega)] at h
  rw [List.set_eq_of_length_le (by omega)];exact h
theorem J2 {l : List Func} {i : Nat} {ys : List T} {p v : Int} {b : List Int} {st : List Stmt} {x : T} (hy : ys = st.map Stmt.tt) : ((l.map Func.tt).set i x).set i (.agg [T.int p, T.int v, T.ints b, .list 5 ys]) = (l.set i ⟨p, v, b, st⟩).map Func.tt := by
 rw [List.set_set, List.map_set, hy]; rfl
theorem GC (cd : List Int) (c : Cu) (bw : Nat) (pv : Value) (hcd : Cc cd) (h0 : 0 ≤ c.1) (h1 : c.1 ≤ 524280) : ProcF Try.prog 32 [.t (.v (.pointer (some ⟨bw, 0, none⟩)))] ([pv]) ([T.bytes cd]) [.obox (.pointer (some ⟨bw, 0, none⟩)) (cuC pv c)] (.agg [.t (T.Funcs (Kq cd c).1.funcs)]) [.obox (.pointer (some ⟨bw, 0, none⟩)) (cuC pv (Kq cd c).2)] := by
 have hpa := D5 (c := c) hcd h0
 have hpd := E5 (c := c) hcd h0
 obtain ⟨hq1, hq4, hqd⟩ := hpd
 obtain ⟨c1, hc1⟩ : ∃ z, z = (programR cd c).2 := ⟨_, rfl⟩
 obtain ⟨fs, hfs⟩ : ∃ z, z = (programR cd c).1.funcs := ⟨_, rfl⟩
 have hprog := JO cd c bw pv hcd h0 h1
 have hR : Kq cd c = (⟨(Pc cd fs c1).1⟩, (Pc cd fs c1).2) := by rw [Kq, ← hc1, ← hfs]
 rw [← hc1, ← hfs] at hprog;rw [← hc1] at hpa;rw [← hfs] at hq1 hq4 hqd
 have hvi := Ac (n := fs.length) (c := c1) hcd (by omega)
 have hvi' := hvi.2.1 (by omega)
 have hpi := AM (cd := cd) (n := fs.length) (c := c1)
 obtain ⟨i, hi⟩ : ∃ z, z = pickV cd fs.length c1 := ⟨_, rfl⟩
 obtain ⟨c2, hc2⟩ : ∃ z, z = curC cd fs.length c1 := ⟨_, rfl⟩
 have hpk1 := Ab cd fs.length c1 bw pv hcd (by omega) (by omega)
 rw [← hi, ← hc2] at hpk1;rw [← hi] at hvi hvi';rw [← hc2] at hpi
 have hil : i.toNat < fs.length := by omega
 obtain ⟨f, hf⟩ : ∃ z, z = fs[i.toNat] := ⟨_, rfl⟩
 have hfd : Dfn f := by rw [hf]; exact hqd _ (Qr _)
 have hat : at0 fun0 fs i = f := by rw [Dz hvi.1 hvi', hf]
 obtain ⟨b1, b3, s1, s12, st⟩ := hfd
 have hvj := Ac (n := f.stmts.length) (c := c2) hcd (by omega)
 have hvj' := hvj.2.1 (by omega)
 have hpj := AM (cd := cd) (n := f.stmts.length) (c := c2)
 obtain ⟨j, hj⟩ : ∃ z, z = pickV cd f.stmts.length c2 := ⟨_, rfl⟩
 obtain ⟨c3, hc3⟩ : ∃ z, z = curC cd f.stmts.length c2 := ⟨_, rfl⟩
 have hpk2 := Ab cd f.stmts.length c2 bw pv hcd (by omega) (by omega)
 rw [← hj, ← hc3] at hpk2;rw [← hj] at hvj hvj';rw [← hc3] at hpj
 have hjl : j.toNat < f.stmts.length := by omega
 obtain ⟨s, hs⟩ : ∃ z, z = f.stmts[j.toNat] := ⟨_, rfl⟩
 have hats : at0 stm0 f.stmts j = s := by rw [Dz hvj.1 hvj', hs]
 have hL : Pc cd fs c1 = (fs.set i.toNat (anyT cd f j s c3).1, (anyT cd f j s c3).2) := by rw [Pc, anyQ, ← hi, ← hc2, hat, anyF, ← hj, ← hc3, hats]
 have hp40 := AM (cd := cd) (n := 40) (c := c3)
 have hv40 := Ac (n := 40) (c := c3) hcd (by omega)
 obtain ⟨k, hk⟩ : ∃ z, z = pickV cd 40 c3 := ⟨_, rfl⟩
 obtain ⟨c4, hc4⟩ : ∃ z, z = curC cd 40 c3 := ⟨_, rfl⟩
 have hpk3 := Ab cd 40 c3 bw pv hcd (by omega) (by omega)
 rw [← hk, ← hc4] at hpk3;rw [← hc4] at hp40
 have hzf : (fs.map Func.tt)[i.toNat]? = some f.tt := by rw [List.getElem?_map, List.getElem?_eq_getElem hil, hf]; rfl
 have hzs : (f.stmts.map Stmt.tt)[j.toNat]? = some s.tt := by rw [List.getElem?_map, List.getElem?_eq_getElem hjl, hs]; rfl
 refine ProcF.intro tys Try.func32 Z Z (N := 82) [100] 99 ([(0, .t (.v (.pointer (some ⟨bw, 0, none⟩))))]) ([(100, .obox (.pointer (some ⟨bw, 0, none⟩)) (cuC pv c)), (99, .ro [pv] [T.bytes cd])]) Z Z Z Z (by decide) (by decide) Z (fun w0 G F0 => ?_);refine nY Z (sG (AH tys Z Z (AA Z) Z Z Z (nZ Z (nA (eZ Z ?_)))));refine cP [100] (hm := (hprog)) (k := ?_);refine nZ Z (AH tys Z Z (AA Z) Z Z Z (nZ Z (sT Z (nZ Z (nB (sQ (AU (Le.adoptBox (u := 3) (j := 0) (id := 103) Z Z Z) (nY Z (Bn [[100], [100], [], [], [], [], [], [], []] A9 (by kernel_rfl) (Dy (QG_ev tys Z Z (AA Z) Z (AI (Dy (QG_ev tys Z Z (AA Z) Z (AI ?_)))))))))))))));refine AZ (QG_ev tys Z Z (AA Z) Z (AI (AZ (QG_ev tys Z Z (AA Z) Z (AI (Aq Z (AZ (QG_ev tys Z Z (AA Z) Z (AI (AZ (Pg tys Z Z (AA Z) Z (by first | exact lenM | exact Z) ?_)))))))))));refine AI ?_;refine Ch (rid := 99) [100] Z Z (AA Z) Z Z (by repeat (first | exact ResP.done | refine ResP.pin0 1100 Z ?_ | refine ResP.t ?_ | refine ResP.nil 1 ?_ | refine ResP.nil' ?_ | refine ResP.own ?_ | refine ResP.sl Z Z (by first | omega | (simp; omega)) ?_ | refine ResP.aggT (by repeat (first | exact ResP.done | refine ResP.t ?_)) ?_)) Z (by repeat (first | exact trivial | refine ⟨rfl, rfl, ?_⟩)) (by decide) (hpk1) Z Z Z ?_;refine AZ (Ju tys Z Z (AA Z) Z Z Z Z Z Z Z Z hvi.1 (by rw [Qh]; exact hvi') ?_);refine AI (Aq Z (AZ (QG_ev tys Z Z (AA Z) Z (AI (Eg ?_)))));refine ⟨by kernel_rfl, ?_⟩;refine nZ Z (nB (sQ (sQ (nY Z ?_))));refine NR (id := 103) (i := i.toNat) (off := 3) (z := f.tt) 104 1104 133 Z (fns_cells _) hzf Z (by intro h; have := congrArg List.length h; rw [Qh, List.length_nil] at this; omega) Z Z Z Z Z Z (fun b4 cap4 hcap4 => ?_);refine nY Z (rG (eZ Z (AK rfl Z (AA Z) Z Z Z (eZ Z ?_))));refine BI tys Z Z (AA Z) Z Z Z Z (by rw [Q9]; exact List.getElem?_set_self (by rw [Qh]; omega)) Z ?_;refine AC (Le.namedS (t := 19) 1104 Z Z hcap4) (nZ Z (evE ?_));refine eZ Z (AC (Le.known (t := 21) true Z (by simp; omega)) ?_);refine nB (AY Z (sQ (Bn [[100], [100], [100], [100], [], [], [], [], [], [], [], [], []] A9 (by kernel_rfl) (Dy (QG_ev tys Z Z (AA Z) Z (AI (Dy (CF rfl Z (AA Z) Z Z Z (AI (Dy (QG_ev tys Z Z (AA Z) Z (AI (Dy ?_)))))))))))));refine I9 tys 1104 Z Z (AA Z) Z Z Z Z (by rw [Q9]; exact List.getElem?_set_self (by rw [Qh]; omega)) Z Z hcap4 ?_;refine AI (Aq Z (AZ (QG_ev tys Z Z (AA Z) Z (AI (AZ (QG_ev tys Z Z (AA Z) Z (AI (AZ (CF rfl Z (AA Z) Z Z Z (AI (AZ (QG_ev tys Z Z (AA Z) Z (AI (Aq Z (AZ ?_)))))))))))))));refine I9 tys 1104 Z Z (AA Z) Z Z Z Z (by rw [Q9]; exact List.getElem?_set_self (by rw [Qh]; omega)) Z Z hcap4 ?_;refine AI (AZ (Pg tys Z Z (AA Z) Z (by first | exact lenM | exact Z) ?_));refine AI ?_;refine Ch (rid := 99) [100] Z Z (AA Z) Z Z (by repeat (first | exact ResP.done | refine ResP.pin0 1100 Z ?_ | refine ResP.t ?_ | refine ResP.nil 1 ?_ | refine ResP.nil' ?_ | refine ResP.own ?_ | refine ResP.sl Z Z (by first | omega | (simp; omega)) ?_ | refine ResP.aggT (by repeat (first | exact ResP.done | refine ResP.t ?_)) ?_)) Z (by repeat (first | exact trivial | refine ⟨rfl, rfl, ?_⟩)) (by decide) (hpk2) Z Z Z ?_;refine AZ (Ju tys Z Z (AA Z) Z Z Z Z Z Z Z Z hvj.1 (by rw [Qh]; exact hvj') ?_);refine AI (Aq Z (AZ (QG_ev tys Z Z (AA Z) Z (AI (Eg ?_)))));refine ⟨by kernel_rfl, ?_⟩;refine nZ Z (nA (eZ Z ?_));refine cP [100] (hm := (hpk3)) (k := ?_);refine nZ Z (nB (AF (sG (eK 2 Z (nB ?_)))));refine A1 (α := List T × Cu) [2, 3] [99, 2] (fun x => []) (fun x => [(3, .box [.t (.list 4 (x.1))]), (100, .obox (.pointer (some ⟨bw, 0, none⟩)) (cuC pv (x.2)))]) (fun x => (x.1) = (fs.set i.toNat (anyT cd f j s c3).1).map Func.tt ∧ (x.2) = (anyT cd f j s c3).2) ?_ (fun x hx => ?_)
 ·
  refine AD Z (fun h1 => ?_) (fun h1 => ?_)
  ·
   simp only [HS] at h1;refine rG (eK 2 Z ?_);refine cP [100] (hm := (Ab cd 11 c4 bw pv hcd (by omega) (by omega))) (k := ?_);refine nZ Z (AK rfl Z (AA Z) Z Z Z (eZ Z (kZ [2,3,40,42] Z ?_)));refine CW tys [T.int (pickV cd 11 c4)] Z Z Z Z Z Z (by rw [Q9]; exact hzs) Z (by repeat (first | exact AbsL.nil' | refine AbsL.v' ?_ | refine AbsL.own' ?_)) Z (by decide) (RP Z) ?_;refine nZ Z ?_;refine AC (Le.claimL (id := 103) (id2 := 104) (pid := 1104) (i := i.toNat) (off := 3) Z Z Z (List.getElem?_set_self (by rw [Qh]; omega)) Z (by simp) Z) ?_;refine nZ Z (AC (Le.gatherBox (u := 3) (j := 0) (id := 103) Z Z Z (by simp) Z) ?_);refine nZ Z (AC (Le.freezeB (u := 3) Z Z) (nZ Z (nZ Z (oN (jQ (_, _) ?_)))));dsimp only;unfold anyT;rw [← hk, ← hc4]
   by_cases q0 : k = 0
   ·rw [if_pos q0]
    (refine ⟨?_, rfl⟩; rw [Qi (by simp)]; exact J2 (by rw [Q9, List.map_set]; rfl))
   ·rw [if_neg q0]
    by_cases q1 : k = 1
    ·rw [if_pos q1]
     exfalso
     omega
    ·rw [if_neg q1]
     by_cases q2 : k = 2
     ·rw [if_pos q2]
      exfalso
      omega
     ·rw [if_neg q2]
      by_cases q3 : k = 3
      ·rw [if_pos q3]
       exfalso
       omega
      ·rw [if_neg q3]
       by_cases q4 : k = 4
       ·rw [if_pos q4]
        exfalso
        omega
       ·rw [if_neg q4]
        exfalso
        omega
  simp only [HS] at h1;refine sG (eK 2 Z (nB ?_));refine AD Z (fun h2 => ?_) (fun h2 => ?_)
  ·
   simp only [HS] at h2
   have hv7 := Ac (n := 7) (c := c4) hcd (by omega)
   have hv7' := hv7.2.1 (by omega)
   refine rG (eK 2 Z ?_);refine cP [100] (hm := (Ab cd 7 c4 bw pv hcd (by omega) (by omega))) (k := ?_);refine nZ Z (kZ [2,3,45,47] Z (evI ?_));refine AK rfl Z (AA Z) Z Z Z (eZ Z ?_);refine CW tys [T.int (pickV cd 7 c4 - 1)] Z Z Z Z Z Z (by rw [Q9]; exact hzs) Z (by repeat (first | exact AbsL.nil' | refine AbsL.v' ?_ | refine AbsL.own' ?_)) Z (by decide) (RP Z) ?_;refine nZ Z ?_;refine AC (Le.claimL (id := 103) (id2 := 104) (pid := 1104) (i := i.toNat) (off := 3) Z Z Z (List.getElem?_set_self (by rw [Qh]; omega)) Z (by simp) Z) ?_;refine nZ Z (AC (Le.gatherBox (u := 3) (j := 0) (id := 103) Z Z Z (by simp) Z) ?_);refine nZ Z (AC (Le.freezeB (u := 3) Z Z) (nZ Z (nZ Z (oN (jQ (_, _) ?_)))));dsimp only;unfold anyT;rw [← hk, ← hc4]
   by_cases q0 : k = 0
   ·rw [if_pos q0]
    exfalso
    omega
   ·rw [if_neg q0]
    by_cases q1 : k = 1
    ·rw [if_pos q1]
     (refine ⟨?_, rfl⟩; rw [Qi (by simp)]; exact J2 (by rw [Q9, List.map_set]; rfl))
    ·rw [if_neg q1]
     by_cases q2 : k = 2
     ·rw [if_pos q2]
      exfalso
      omega
     ·rw [if_neg q2]
      by_cases q3 : k = 3
      ·rw [if_pos q3]
       exfalso
       omega
      ·rw [if_neg q3]
       by_cases q4 : k = 4
       ·rw [if_pos q4]
        exfalso
        omega
       ·rw [if_neg q4]
        exfalso
        omega
  simp only [HS] at h2;refine sG (eK 2 Z (nB ?_));refine AD Z (fun h3 => ?_) (fun h3 => ?_)
  ·
   simp only [HS] at h3;refine kY [0,2,3,4] Z (rG (eK 2 Z ?_));refine cP [100] (hm := (Ab cd 8 c4 bw pv hcd (by omega) (by omega))) (k := ?_);refine nZ Z (AK rfl Z (AA Z) Z Z Z (eZ Z ?_));refine CW tys [T.int (pickV cd 8 c4)] Z Z Z Z Z Z (by rw [Q9]; exact List.getElem?_set_self (by rw [Qh]; omega)) Z (by repeat (first | exact AbsL.nil' | refine AbsL.v' ?_ | refine AbsL.own' ?_)) Z (by decide) (RP Z) ?_;refine nZ Z ?_;refine AC (Le.claimL (id := 103) (id2 := 104) (pid := 1104) (i := i.toNat) (off := 3) Z Z Z (by rw [Q9]; exact List.getElem?_set_self (by rw [RQ, Qh]; omega)) Z (by simp) Z) ?_;refine nZ Z (AC (Le.gatherBox (u := 3) (j := 0) (id := 103) Z Z Z (by simp) Z) ?_);refine nZ Z (AC (Le.freezeB (u := 3) Z Z) (nZ Z (nZ Z (oN (jQ (_, _) ?_)))));dsimp only;unfold anyT;rw [← hk, ← hc4]
   by_cases q0 : k = 0
   ·rw [if_pos q0]
    exfalso
    omega
   ·rw [if_neg q0]
    by_cases q1 : k = 1
    ·rw [if_pos q1]
     exfalso
     omega
    ·rw [if_neg q1]
     by_cases q2 : k = 2
     ·rw [if_pos q2]
      (refine ⟨?_, rfl⟩; rw [Qi (by simp), Q9, List.set_set, List.set_set, List.map_set]; rfl)
     ·rw [if_neg q2]
      by_cases q3 : k = 3
      ·rw [if_pos q3]
       exfalso
       omega
      ·rw [if_neg q3]
       by_cases q4 : k = 4
       ·rw [if_pos q4]
        exfalso
        omega
       ·rw [if_neg q4]
        exfalso
        omega
  simp only [HS] at h3;refine sQ (kY [0,2,3,4,5,35] Z (rG (eK 2 Z (nB ?_))));refine AD Z (fun h4 => ?_) (fun h4 => ?_)
  ·
   simp only [HS] at h4;refine nY Z ?_;refine NR (id := 103) (i := i.toNat) (off := 2) (z := .agg [T.int f.params, T.int f.vars, T.ints f.body, .v (.slice (some ⟨b4, 0, none⟩) (List.map Stmt.tt f.stmts).length cap4)]) 105 1105 134 Z (fun x hx => by rcases RU hx with hx | rfl; exact fns_cells _ x hx; rfl) (List.getElem?_set_self (by rw [Qh]; omega)) Z (by intro h; have := congrArg List.length h; rw [Qh, List.length_nil] at this; omega) Z Z Z Z Z Z (fun b5 cap5 hcap5 => ?_);refine nY Z (rG (eK 2 Z (AK rfl Z (AA Z) Z Z Z (eZ Z ?_))));refine BI tys Z Z (AA Z) Z Z Z Z (by rw [Q9]; exact List.getElem?_set_self (by rw [RQ, Qh]; omega)) Z ?_;refine NV (i := 1) (j := ((f.body.map T.int).length : Nat)) tys Z Z (AA Z) Z Z Z Z Z Z Z Z (by decide) (by rw [Qh]; omega) (by omega) hcap5 ?_;refine AK rfl Z (AA Z) Z Z Z (kZ [2,3,65,66] Z (eZ Z ?_));refine CW tys [.v _] Z Z Z Z Z Z (by rw [Q9]; exact List.getElem?_set_self (by rw [RQ, Qh]; omega)) Z (by repeat (first | exact AbsL.nil' | refine AbsL.v' ?_ | refine AbsL.own' ?_)) Z (by decide) (RP Z) ?_;refine nZ Z ?_;refine AC (Le.claimL (id := 103) (id2 := 104) (pid := 1104) (i := i.toNat) (off := 3) Z Z Z (by rw [Q9]; exact List.getElem?_set_self (by rw [RQ, RQ, Qh]; omega)) Z (by simp) Z) ?_;refine nZ Z (AC (Le.gatherBox (u := 3) (j := 0) (id := 103) Z Z Z (by simp) Z) ?_);refine nZ Z (AC (Le.freezeB (u := 3) Z Z) (nZ Z (AC (Le.freezeL (id := 105) (pid := 1105) (k := 1) (c' := cap5 - 1) (a := cutA b5 1 1 cap5) Z Z (by by_cases h99 : cap5 = 1; left; omega; right; unfold cutA; rw [if_neg h99]) (by omega)) ?_)));refine nZ Z (AC (Le.convB (u := 3) (j := 0) (idr := 105) (.list 4 ((fs.set i.toNat ⟨f.params, f.vars, f.body.drop 1, f.stmts⟩).map Func.tt)) Z Z Z (fun h1 h2 => body_read (u := .slice (cutA b5 1 1 cap5) ((f.body.map T.int).length - 1) (cap5 - 1)) (by rw [Qi (by simp), Q9, List.set_set, List.set_set, List.set_set] at h1; exact h1) (by rw [List.map_drop]; exact h2))) ?_);refine nZ Z (nZ Z (oN (jQ (_, _) ?_)));dsimp only;unfold anyT;rw [← hk, ← hc4]
   by_cases q0 : k = 0
   ·rw [if_pos q0]
    exfalso
    omega
   ·rw [if_neg q0]
    by_cases q1 : k = 1
    ·rw [if_pos q1]
     exfalso
     omega
    ·rw [if_neg q1]
     by_cases q2 : k = 2
     ·rw [if_pos q2]
      exfalso
      omega
     ·rw [if_neg q2]
      by_cases q3 : k = 3
      ·rw [if_pos q3]
       exact ⟨rfl, rfl⟩
      ·rw [if_neg q3]
       by_cases q4 : k = 4
       ·rw [if_pos q4]
        exfalso
        omega
       ·rw [if_neg q4]
        exfalso
        omega
  simp only [HS] at h4;refine sG (eK 2 Z (nB ?_));refine AD Z (fun h5 => ?_) (fun h5 => ?_)
  ·
   simp only [HS] at h5;refine nY Z ?_;refine QV (id := 104) (i := j.toNat) (off := 3) 107 Z hzs Z Z Z (fun ad cp => ?_);refine nY Z (Bn [[100, 107], [100], [100], [100], [100], [107], [107], [107], [], [], [], []] A9 (by kernel_rfl) (Dy (QG_ev tys Z Z (AA Z) Z (AI (Dy (QG_ev tys Z Z (AA Z) Z (AI (Dy (CF rfl Z (AA Z) Z Z Z (AI (Dy (QG_ev tys Z Z (AA Z) Z (AI (Aq Z ?_))))))))))))));refine Jt tys 107 Z Z (AA Z) Z Z Z Z (by rw [Q9]; exact List.getElem?_set_self (by rw [Qh]; omega)) Z Z ?_;refine Dy (QG_ev tys Z Z (AA Z) Z (AI ?_));refine Ch (rid := 99) [100] Z Z (AA Z) Z Z (by repeat (first | exact ResP.done | refine ResP.pin0 1100 Z ?_ | refine ResP.t ?_ | refine ResP.nil 1 ?_ | refine ResP.nil' ?_ | refine ResP.own ?_ | refine ResP.sl Z Z (by first | omega | (simp; omega)) ?_ | refine ResP.aggT (by repeat (first | exact ResP.done | refine ResP.t ?_)) ?_)) Z (by repeat (first | exact trivial | refine ⟨rfl, rfl, ?_⟩)) (by decide) (Ab cd 5 c4 bw pv hcd (by omega) (by omega)) Z Z Z ?_;refine Dy ?_;refine Dc tys [T.int (pickV cd 5 c4)] Z Z (AA Z) Z Z Z Z Z (AA Z) (by repeat (first | exact PartsOk.nil' | refine PartsOk.cons' rfl (by repeat (first | exact AbsL.nil' | refine AbsL.v' ?_ | refine AbsL.own' ?_ | refine AbsL.none' ?_)) Z ?_)) Z Z Z (by decide) ?_;refine AI (Aq Z (AZ (E3 tys Z Z (AA Z) Z Z Z Z Z Z Z Z Z ((fun x hx => by rw [Q5] at hx; subst hx; exact ⟨rfl, fun z hz => ⟨_, by simpa [T.cells] using hz⟩⟩)) (by have hs3 := (st s (by rw [hs]; exact Qr _)).2.1; simp; omega) (by decide) Z ?_)));refine AI (AZ (CF rfl Z (AA Z) Z Z Z (AI (AZ (QG_ev tys Z Z (AA Z) Z (AI ?_))))));refine Nj tys [.list 1 (s.thn.map T.int ++ [T.int (pickV cd 5 c4)])] Z Z Z Z Z Z (by rw [Q9]; exact List.getElem?_set_self (by rw [Qh]; omega)) Z Z (AbsL.own' AbsL.nil') Z (by decide) (RP Z) ?_;refine Aq Z (Eg ?_);refine ⟨by kernel_rfl, ?_⟩;refine nZ Z (nZ Z ?_);refine AC (Le.claimL (id := 103) (id2 := 104) (pid := 1104) (i := i.toNat) (off := 3) Z Z Z (List.getElem?_set_self (by rw [Qh]; omega)) Z (by simp) Z) ?_;refine nZ Z (AC (Le.gatherBox (u := 3) (j := 0) (id := 103) Z Z Z (by simp) Z) ?_);refine nZ Z (AC (Le.freezeB (u := 3) Z Z) (nZ Z (oN (jQ (_, _) ?_))));dsimp only;unfold anyT;rw [← hk, ← hc4]
   by_cases q0 : k = 0
   ·rw [if_pos q0]
    exfalso
    omega
   ·rw [if_neg q0]
    by_cases q1 : k = 1
    ·rw [if_pos q1]
     exfalso
     omega
    ·rw [if_neg q1]
     by_cases q2 : k = 2
     ·rw [if_pos q2]
      exfalso
      omega
     ·rw [if_neg q2]
      by_cases q3 : k = 3
      ·rw [if_pos q3]
       exfalso
       omega
      ·rw [if_neg q3]
       by_cases q4 : k = 4
       ·rw [if_pos q4]
        (refine ⟨?_, rfl⟩; rw [Qi (by simp)]; refine J2 ?_; rw [Q9, List.set_set, List.map_set]; show _ = (f.stmts.map Stmt.tt).set j.toNat (.agg [T.int s.kind, T.int s.n, T.Toks s.ex, .list 1 ((s.thn ++ [pickV cd 5 c4]).map T.int), T.ints s.els]); rw [Q8]; rfl)
       ·rw [if_neg q4]
        exfalso
        omega
  simp only [HS] at h5;refine nY Z ?_;refine AU (Le.claimL (id := 103) (id2 := 104) (pid := 1104) (i := i.toNat) (off := 3) Z Z Z (List.getElem?_set_self (by rw [Qh]; omega)) Z (by simp) Z) ?_;refine nY Z (AU (Le.gatherBox (u := 3) (j := 0) (id := 103) Z Z Z (by simp) Z) ?_);refine nY Z (AU (Le.freezeB (u := 3) Z Z) (nY Z (AE (jQ (_, _) ?_))));dsimp only;unfold anyT;rw [← hk, ← hc4]
  by_cases q0 : k = 0
  ·rw [if_pos q0]
   exfalso
   omega
  ·rw [if_neg q0]
   by_cases q1 : k = 1
   ·rw [if_pos q1]
    exfalso
    omega
   ·rw [if_neg q1]
    by_cases q2 : k = 2
    ·rw [if_pos q2]
     exfalso
     omega
    ·rw [if_neg q2]
     by_cases q3 : k = 3
     ·rw [if_pos q3]
      exfalso
      omega
     ·rw [if_neg q3]
      by_cases q4 : k = 4
      ·rw [if_pos q4]
       exfalso
       omega
      ·rw [if_neg q4]
       (refine ⟨?_, rfl⟩; rw [Qi (by simp)]; exact J2 rfl)
 obtain ⟨xs, c9⟩ := x
 obtain ⟨hxs, hc9⟩ := hx
 dsimp only at hxs hc9 ⊢;refine bN (tN (sQ (kY [2,3] Z (rG (eZ Z ?_)))))
 try refine AC (Le.freeze (u := 81) rfl) ?_
 refine nZ Z (sT Z (nZ Z (nB (rT ?_))));refine Nn (ks := [_]) (.inr Z) (JN Z) (by decide) Z (KK Z) (by repeat (first | exact trivial | refine ⟨rfl, rfl, ?_⟩)) ?_ ?_
 ·rw [hxs, hR, hL]
  rfl
 ·rw [hc9, hR, hL]
open Go.Eng
abbrev cu0 : Cu := (0, 0)
theorem QQ (a b : List Int) (ha : a.length ≤ 9223372036854775807) (hb : b.length ≤ 9223372036854775807) : Fun Try.prog 6 [.t (T.bytes a), .t (T.bytes b)] (A5 [.t (.bool (decide ((1048576 : Int) < a.length) || decide ((1048576 : Int) - a.length < b.length)))]) := by
 refine Fun.begin tys Try.func6 Z Z (N := 16) [(0, .t (T.bytes a)), (1, .t (T.bytes b))] Z Z (fun w0 G F0 => ?_);refine sG (eZ Z (nA (eZ Z (evE ?_))));refine eK 2 Z ?_;refine gB (fun h1 => ?_) (fun h1 => ?_)
 ·
  simp only [HS] at h1;refine xK 4 Z (kZ [4,8,10,13] Z (xK 3 Z (nB (rT (eR ?_)))))
  ·simp_all
   done
 simp only [HS] at h1;refine eZ Z (gY Z (evE ?_));refine xZ Z (gY Z (evE ?_));refine kZ [4,8,10,12] Z (gY Z (evI ?_));refine xK 3 Z (nB (rT (eR ?_)))
 ·simp_all
  omega
theorem Cb (a : List Int) (ha : a.length ≤ 1073741824) : Fun Try.prog 20 [.t (T.ints a), .t (T.ints a)] (A5 [.t (.bool true)]) := by
 refine Fun.begin tys Try.func20 Z Z (N := 26) [(0, .t (T.ints a)), (1, .t (T.ints a))] Z Z (fun w0 G F0 => ?_);refine sG (eZ Z (nB (sQ (sG (eZ Z (evE ?_))))));refine eZ Z (evE ?_);refine eZ Z (AC (Le.known (t := 10) false Z (by simp)) ?_);refine nB (BC Z (AE (tN (sQ (sG (eZ Z (evE ?_)))))));refine eZ Z (kZ [0,1,4,12,13] Z (nB (AF ?_)));refine lK (α := Int) [0, 1, 12] [] (fun x => [(13, .t (.int x))]) (fun x => []) (fun x => 0 ≤ x ∧ x ≤ a.length) (fun x => Int.toNat (a.length - x)) 0 ?_ (fun k hx => ?_)
 ·exact ⟨by omega, by omega⟩
 obtain ⟨hk0, hk1⟩ := hx
 refine nY Z (sG (eZ Z (nB (sQ ?_))));refine AD Z (fun h1 => ?_) (fun h1 => ?_)
 ·
  simp only [HS] at h1;refine AE (tN (sQ (AF (sG (eK 2 Z (nB (sQ (Ai A9 (by kernel_rfl) (evQ ?_)))))))));refine evQ ?_;refine A3 tys Z Z (AA Z) Z Z Z Z Z Z Z (by omega) _ (EE _ _ (by omega) (by omega)) (AS Z (evQ ?_));refine evQ ?_;refine evQ ?_;refine A3 tys Z Z (AA Z) Z Z Z Z Z Z Z (by omega) _ (EE _ _ (by omega) (by omega)) (evQ ?_);refine evQ ?_;refine Ef (v := false) (by simp) ?_;refine AS Z (BE (tN (BC Z (AE (bN (tN (rG (evI ?_))))))));refine eZ Z (oN ?_);refine lQ _ ?_ ?_
  ·skip
   exact ⟨by omega, by omega⟩
  ·(show Int.toNat _ < Int.toNat _); omega
 simp only [HS] at h1;refine AV (tE (AP (AO (tN (sG (eZ Z (nB (rT (eR ?_)))))))))
 ·rfl
theorem Hp (a : List Tok) (ha : a.length ≤ 1073741824) : Fun Try.prog 86 [.t (T.Toks a), .t (T.Toks a)] (A5 [.t (.bool true)]) := by
 refine Fun.begin tys Try.func86 Z Z (N := 26) [(0, .t (T.Toks a)), (1, .t (T.Toks a))] Z Z (fun w0 G F0 => ?_);refine sG (eZ Z (nB (sQ (sG (eZ Z (evE ?_))))));refine eZ Z (evE ?_);refine eZ Z (AC (Le.known (t := 10) false Z (by simp)) ?_);refine nB (BC Z (AE (tN (sQ (sG (eZ Z (evE ?_)))))));refine eZ Z (kZ [0,1,4,12,13] Z (nB (AF ?_)));refine lK (α := Int) [0, 1, 12] [] (fun x => [(13, .t (.int x))]) (fun x => []) (fun x => 0 ≤ x ∧ x ≤ a.length) (fun x => Int.toNat (a.length - x)) 0 ?_ (fun k hx => ?_)
 ·exact ⟨by omega, by omega⟩
 obtain ⟨hk0, hk1⟩ := hx
 refine nY Z (sG (eZ Z (nB (sQ ?_))));refine AD Z (fun h1 => ?_) (fun h1 => ?_)
 ·
  simp only [HS] at h1;refine AE (tN (sQ (AF (sG (eK 2 Z (nB (sQ (Ai A9 (by kernel_rfl) (evQ ?_)))))))));refine evQ ?_;refine A3 tys Z Z (AA Z) Z Z Z Z Z Z Z (by omega) _ (EE _ _ (by omega) (by omega)) (AS Z (evQ ?_));refine evQ ?_;refine evQ ?_;refine A3 tys Z Z (AA Z) Z Z Z Z Z Z Z (by omega) _ (EE _ _ (by omega) (by omega)) (evQ ?_);refine Nf (((Try.prog.fieldsOf 69)[0]?).getD fld0, ((Try.prog.fieldsOf 69)[1]?).getD fld0) Z Z (AA Z) Z Z Z (by kernel_rfl) (by kernel_rfl) (by kernel_rfl) (by kernel_rfl) (by kernel_rfl) (by kernel_rfl) (by kernel_rfl) (by kernel_rfl) (Ef (v := false) (by simp) ?_);refine AS Z (BE (tN (BC Z (AE (bN (tN (rG (evI ?_))))))));refine eZ Z (oN ?_);refine lQ _ ?_ ?_
  ·skip
   exact ⟨by omega, by omega⟩
  ·(show Int.toNat _ < Int.toNat _); omega
 simp only [HS] at h1;refine AV (tE (AP (AO (tN (sG (eZ Z (nB (rT (eR ?_)))))))))
 ·rfl
theorem Hr (f : Func) (hf : f.ok 1048576) : Fun Try.prog 52 [.t f.tt, .t f.tt] (A5 [.t (.bool true)]) := by
 have hb : f.body.length ≤ 1048576 := hf.1
 have hs : f.stmts.length ≤ 1048576 := hf.2.1.1
 refine Fun.begin tys Try.func52 Z Z (N := 87) [(0, .t f.tt), (1, .t f.tt)] Z Z (fun w0 G F0 => ?_);refine sG (Af Z Z (AA Z) Z Z (nZ Z (Af Z Z (AA Z) Z Z (nZ Z (eZ Z (nB (sQ (sG (eK 5 Z (AC (Le.known (t := 12) false Z (by simp)) ?_))))))))));refine eZ Z (kZ [2,3,4,13] Z (xK 5 Z (AC (Le.known (t := 18) false Z (by simp)) ?_)));refine xK 4 Z (kZ [2,3,4,20,22] Z (xK 2 Z (gY Z (AQ ?_))));refine ⟨_, Cb f.body (by omega), rfl, ?_⟩;refine xZ Z (AC (Le.known (t := 26) false Z (by simp)) ?_);refine xK 4 Z (gY Z (evE ?_));refine kZ [2,3,4,28,31] Z (xK 2 Z (gY Z (evE ?_)));refine xZ Z (AC (Le.known (t := 35) false Z (by simp)) ?_);refine eZ Z (nB (BC Z (AE (tN (sQ (sG (eK 2 Z (evE ?_))))))));refine eZ Z (kZ [3,4,38,39,40] Z (nB (AF ?_)));refine lK (α := Int) [2, 3, 38, 39] [2, 3] (fun x => [(40, .t (.int x))]) (fun x => []) (fun x => 0 ≤ x ∧ x ≤ f.stmts.length) (fun x => Int.toNat (f.stmts.length - x)) 0 ?_ (fun k hx => ?_)
 ·exact ⟨by omega, by omega⟩
 obtain ⟨hk0, hk1⟩ := hx
 refine nY Z (sG (eZ Z (nB (sQ ?_))));refine AD Z (fun h1 => ?_) (fun h1 => ?_)
 ·
  simp only [HS] at h1;refine AE (tN (sQ (AF (sG (eZ Z ?_)))));refine iY (k := ?_);refine eZ Z ?_
  try refine AC (Le.freeze (u := 44) rfl) ?_
  refine nZ Z (AH tys Z Z (AA Z) Z Z Z (nZ Z (eZ Z (sT Z (nZ Z (nB (sQ (kY [2,3,5,6,38,39,40,41,42,43,44] Z (rG (eK 3 Z ?_))))))))));refine iY (k := ?_);refine eZ Z ?_
  try refine AC (Le.freeze (u := 49) rfl) ?_
  refine nZ Z (AH tys Z Z (AA Z) Z Z Z (nZ Z (sT Z (nZ Z (nB (sQ ?_))))))
  have hst := hf.2.1.2 _ (Qr (l := f.stmts) (n := k.toNat) (by omega))
  obtain ⟨hs1, hs2, hs3, _⟩ := hst
  have hs1' : (f.stmts[k.toNat]'(by omega)).ex.length ≤ 1048576 := hs1
  have hs2' : (f.stmts[k.toNat]'(by omega)).thn.length ≤ 1048576 := hs2
  have hs3' : (f.stmts[k.toNat]'(by omega)).els.length ≤ 1048576 := hs3
  refine kY [2,3,5,6,7,38,39,40,41,42,43,44,45,46,47,48,49] Z (rG (eK 5 Z (AC (Le.known (t := 54) false Z (by simp)) ?_)));refine xK 4 Z (kZ [2,3,5,6,7,38,39,40,41,42,43,44,45,46,47,48,49,50,51,52,53,54,55,56,57,58] Z (xK 2 Z (AC (Le.known (t := 60) false Z (by simp)) ?_)));refine xK 6 Z (gY Z (AQ ?_));refine ⟨_, Hp _ (by omega), rfl, ?_⟩;refine kZ [2,3,5,6,7,38,39,40,41,42,43,44,45,46,47,48,49,50,51,52,53,54,55,56,57,58,59,60,61,62,63,64,65,66,67] Z (xZ Z (AC (Le.known (t := 68) false Z (by simp)) ?_));refine xK 6 Z (gY Z (AQ ?_));refine ⟨_, Cb _ (by omega), rfl, ?_⟩;refine xZ Z (AC (Le.known (t := 76) false Z (by simp)) ?_);refine kZ [2,3,5,6,7,38,39,40,41,42,43,44,45,46,47,48,49,50,51,52,53,54,55,56,57,58,59,60,61,62,63,64,65,66,67,68,69,70,71,72,73,74,75,76] Z (xK 6 Z (gY Z (AQ ?_)));refine ⟨_, Cb _ (by omega), rfl, ?_⟩;refine xZ Z (AC (Le.known (t := 84) false Z (by simp)) ?_);refine eZ Z (kZ [2,3,5,6,7,38,39,40,41,42,43,44,45,46,47,48,49,50,51,52,53,54,55,56,57,58,59,60,61,62,63,64,65,66,67,68,69,70,71,72,73,74,75,76,77,78,79,80,81,82,83,84,85] Z (nB (BC Z (AE (bN (tN (rG (evI ?_))))))));refine eZ Z (oN ?_);refine lQ _ ?_ ?_
  ·skip
   exact ⟨by omega, by omega⟩
  ·(show Int.toNat _ < Int.toNat _); omega
 simp only [HS] at h1;refine AV (tE (AP (AO (tN (sG (eZ Z (nB (rT (eR ?_)))))))))
 ·rfl
theorem Hq (p : Prog) (hp : p.ok 1048576) : Fun Try.prog 17 [.t p.tt, .t p.tt] (A5 [.t (.bool true)]) := by
 have hb : p.funcs.length ≤ 1048576 := hp.1.1
 refine Fun.begin tys Try.func17 Z Z (N := 32) [(0, .t p.tt), (1, .t p.tt)] Z Z (fun w0 G F0 => ?_);refine sG (Af Z Z (AA Z) Z Z (nZ Z (Af Z Z (AA Z) Z Z (nZ Z (eZ Z (nB (sQ (sG (eK 2 Z (evE ?_))))))))));refine eK 2 Z (evE ?_);refine kZ [2,3,4,8,11] Z (eZ Z (AC (Le.known (t := 12) false Z (by simp)) ?_));refine nB (BC Z (AE (tN (sQ (sG (eK 2 Z (evE ?_)))))));refine eZ Z (nB (AF ?_));refine lK (α := Int) [2, 3, 14, 15] [2, 3] (fun x => [(16, .t (.int x))]) (fun x => []) (fun x => 0 ≤ x ∧ x ≤ p.funcs.length) (fun x => Int.toNat (p.funcs.length - x)) 0 ?_ (fun k hx => ?_)
 ·exact ⟨by omega, by omega⟩
 obtain ⟨hk0, hk1⟩ := hx
 refine nY Z (sG (eZ Z (nB (sQ ?_))));refine AD Z (fun h1 => ?_) (fun h1 => ?_)
 ·
  simp only [HS] at h1;refine AE (tN (sQ (AF (sG (eK 2 Z (nB (sQ (Ai A9 (by kernel_rfl) (evQ ?_)))))))));refine evQ ?_;refine evQ ?_;refine AS Z (A3 tys Z Z (AA Z) Z Z Z Z Z Z Z (by omega) _ (EE _ _ (by omega) (by omega)) (evQ ?_));refine evQ ?_;refine evQ ?_;refine evQ ?_;refine A3 tys Z Z (AA Z) Z Z Z Z Z Z Z (by omega) _ (EE _ _ (by omega) (by omega)) (AS Z (evQ ?_));refine Gp ?_;refine ⟨_, Hr _ (hp.1.2 _ (Qr _)), rfl, ?_⟩;refine evQ ?_;refine Ef (v := false) (by simp) ?_;refine BE (tN (BC Z (AE (bN (tN (rG (evI ?_)))))));refine eZ Z (oN ?_);refine lQ _ ?_ ?_
  ·skip
   exact ⟨by omega, by omega⟩
  ·(show Int.toNat _ < Int.toNat _); omega
 simp only [HS] at h1;refine AV (tE (AP (AO (tN (sG (eZ Z (nB (rT (eR ?_)))))))))
 ·rfl
def pR (cd : List Int) : Prog := (Kq cd cu0).1
def pC (cd : List Int) : Cu := (Kq cd cu0).2
theorem pC_at {cd : List Int} (hcd : Cc cd) : 0 ≤ (pC cd).1 ∧ (pC cd).1 ≤ 10040 := by
 have h := QU (c := cu0) hcd (by decide)
 have e : cu0.1 = 0 := rfl
 rw [e] at h;unfold pC;omega
end Go.Proofs.Ytddfnpiikkilhaa
