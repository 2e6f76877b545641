/- Walks and laws of the claim. -/
import Derived.Test.YtddfnpiikkilhaaId
import Derived.Test.YtddfnpiikkilhaaMd
import Derived.Test.YtddfnpiikkilhaaGf
import Derived.Test.YtddfnpiikkilhaaUj
import Derived.Test.YtddfnpiikkilhaaMe
import Derived.Test.YtddfnpiikkilhaaGb
set_option linter.unusedVariables false
set_option linter.unusedSimpArgs false
set_option maxRecDepth 10000
set_option maxHeartbeats 4000000
namespace Go.Proofs.Ytddfnpiikkilhaa
open Go.Eng
open Go.Eng
def zF : Func := ⟨0, 0, [], []⟩
def Bz (p : Prog) (to : List Int) : Bool := AS p && decide (to.length = p.funcs.length) && B7 to 0 (to.length - 1) && decide (atI to 0 = 0) && decide to.Nodup
def CF (p : Prog) (to : List Int) : Prog := if Bz p to then ⟨placed zF to (p.funcs.map (movF to)) to.length⟩ else ⟨[]⟩
theorem Cv {p : Prog} {to : List Int} (h : Bz p to = false) : [D.agg [D.own (T.list 4 [])], D.t (T.v (.bool false))] = [D.agg [D.own (T.Funcs (CF p to).funcs)], D.t (T.bool (Bz p to))] := by
 rw [CF, h]; rfl
theorem Lv {p : Prog} {to : List Int} {xs : List T} (h : Bz p to = true) (hx : xs = (placed zF to (p.funcs.map (movF to)) to.length).map Func.tt) : [D.agg [D.own (T.list 4 xs)], D.t (T.v (.bool true))] = [D.agg [D.own (T.Funcs (CF p to).funcs)], D.t (T.bool (Bz p to))] := by
 rw [CF, h, hx]; rfl
theorem G1 {l : List Int} {lo hi : Int} (h : B7 l lo hi = true) : ∀ x, x ∈ l → lo ≤ x ∧ x ≤ hi := by
 intro x hx;unfold B7 at h;rw [Sv] at h
 simpa using h x hx
theorem MO {l : List Int} {lo hi : Int} (h : ∀ x, x ∈ l → lo ≤ x ∧ x ≤ hi) : B7 l lo hi = true := by
 unfold B7;rw [Sv];intro x hx
 simpa using h x hx
theorem Dt {p : Prog} (hg : AS p = true) {to : List Int} (hl : to.length = p.funcs.length) : ∀ f, f ∈ p.funcs → ∀ x, x ∈ ET f.stmts → 0 ≤ x ∧ x < to.length := by
 intro f hf x hx
 obtain ⟨n, hn, rfl⟩ := TH hf
 have := Nt (DP hg hn) x hx
 rw [hl]
 have e : (paramsL p).length = p.funcs.length := by unfold paramsL; simp
 omega
theorem HT {l : List Int} {k : Nat} (h : k < l.length) (hd : (l.take k).Nodup) (hn : ¬ l[k] ∈ l.take k) : (l.take (k + 1)).Nodup := by
 rw [List.take_succ_eq_append_getElem h, Su];refine ⟨hd, by simp, fun a ha b hb e => ?_⟩;rw [S1] at hb;subst hb; subst e;exact hn ha
theorem Je {l : List Int} {k : Nat} (h : k < l.length) (hn : l[k] ∈ l.take k) : ¬ l.Nodup := by
 intro hd
 obtain ⟨i, hi, he⟩ := TH hn
 rw [List.getElem_take] at he
 have := (List.getElem_inj hd).1 he
 rw [Sq] at hi;omega
theorem Fun.arg0 {P : Program} {f : FuncId} {x y : T} {ds : List D} {r : D} (h : Fun P f (.t y :: ds) r) (e : x = y) : Fun P f (.t x :: ds) r := by rw [e]; exact h
theorem I8 (p : Prog) (to : List Int) (hp : p.ok 1048576) (ht : to.length ≤ 1048576) : Fun Try.prog 25 [.t p.tt, .t (T.ints to)] (A2 [.agg [.own (T.Funcs (CF p to).funcs)], .t (.bool (Bz p to))]) := by
  have hpl : p.funcs.length ≤ 1048576 := hp.1.1
  refine Fun.begin tys Try.func25 Z Z (N := 65) [(0, .t p.tt), (1, .t (T.ints to))] Z Z (fun w0 G F0 => ?_);refine sG (AV Z Z (AA Z) Z Z (nZ Z (AF tys Z Z (AA Z) Z Z Z (nZ Z (eZ Z (nB (sQ (sG (eZ Z ?_)))))))))
  try refine WO_le (Le.freeze (u := 9) rfl) ?_
  refine nZ Z (AM ?_);refine ⟨_, Co p hp, rfl, ?_⟩;refine eK 2 Z ?_;refine gB (fun h1 => ?_) (fun h1 => ?_)
  ·
    simp only [HS] at h1;refine xK 2 Z (kZ [1,2,4,5,12,14,15] Z (xK 9 Z (kZ [1,2,4,5,20,21,24] Z (xK 9 Z (kZ [1,2,4,5,33] Z (nB (Ao Z (sG (AH tys Z Z (AA Z) Z Z Z (by kernel_rfl) Z Z Z Z Z Z (sT Z (nZ Z (eZ Z (nB ?_)))))))))))))
    try (refine AQ (Le.nilBox (u := 4) (j := 0) 4 rfl rfl) ?_; refine AU rfl ?_)
    refine rT (tR (eR ?_))
    · first
      | exact Cv (to := to) (by rw [Bz, h1]; rfl)
  simp only [HS] at h1;refine eZ Z (gY Z (evE ?_));refine kZ [1,2,4,5,12,14] Z (xK 2 Z (gY Z (evE ?_)));refine xK 3 Z ?_;refine gB (fun h2 => ?_) (fun h2 => ?_)
  ·
    simp only [HS] at h2;refine xK 3 Z (kZ [1,2,4,5,20,21,24] Z (xK 9 Z (kZ [1,2,4,5,33] Z (nB (Ao Z (sG (AH tys Z Z (AA Z) Z Z Z (by kernel_rfl) Z Z Z Z Z Z (sT Z (nZ Z (eZ Z (nB ?_)))))))))))
    try (refine AQ (Le.nilBox (u := 4) (j := 0) 4 rfl rfl) ?_; refine AU rfl ?_)
    refine rT (tR (eR ?_))
    · first
      | exact Cv (to := to) (by rw [Bz, h1, decide_eq_false (by omega)]; rfl)
  simp only [HS] at h2;refine xK 2 Z (gY Z (evE ?_));refine kZ [1,2,4,5,20,21,23] Z (gY Z (evI ?_));refine gY Z (AM ?_);refine ⟨_, Gn _ _ _ (by omega), rfl, ?_⟩;refine xK 3 Z ?_;refine gB (fun h3 => ?_) (fun h3 => ?_)
  ·
    simp only [HS] at h3;refine xK 4 Z (kZ [1,2,4,5,33] Z (nB (Ao Z (sG (AH tys Z Z (AA Z) Z Z Z (by kernel_rfl) Z Z Z Z Z Z (sT Z (nZ Z (eZ Z (nB ?_)))))))))
    try (refine AQ (Le.nilBox (u := 4) (j := 0) 4 rfl rfl) ?_; refine AU rfl ?_)
    refine rT (tR (eR ?_))
    · first
      | exact Cv (to := to) (by rw [Bz, h3, Bool.and_false]; rfl)
  simp only [HS] at h3;refine eZ Z (gY Z ?_)
  have hgl := AX h1
  refine iY (k := ?_);refine xK 2 Z (kZ [1,2,4,5,28,32] Z (eZ Z (nB ?_)));refine AB Z (fun h4 => ?_) (fun h4 => ?_)
  ·
    simp only [HS] at h4;refine sG (AH tys Z Z (AA Z) Z Z Z (by kernel_rfl) Z Z Z Z Z Z (sT Z (nZ Z (eZ Z (nB ?_)))))
    try (refine AQ (Le.nilBox (u := 4) (j := 0) 4 rfl rfl) ?_; refine AU rfl ?_)
    refine rT (tR (eR ?_))
    · first
      | exact Cv (to := to) (by rw [Bz, Ay (by omega) (by omega), decide_eq_false h4, Bool.and_false]; rfl)
  simp only [HS] at h4;refine AC (tN (sG (eZ Z (evE ?_))));refine DS tys (.agg [.v (.int .i64 0), .v (.int .i64 0), .list 1 [], .list 5 []]) _ Z Z (AA Z) Z Z Z Z Z (by repeat (first | exact AbsL.nil' | refine AbsL.v' ?_ | refine AbsL.none' ?_)) Z (by omega) (by decide) ?_;refine nZ Z (AH tys Z Z (AA Z) Z Z Z (by kernel_rfl) Z Z Z Z Z Z (AF tys Z Z (AA Z) Z Z Z (nZ Z (sT Z (nZ Z (nB (sQ (sQ (kY [1,2,4,5,6] Z (rG (eZ Z (evE ?_))))))))))));refine eZ Z (nB (AD ?_));refine lK (α := Int × List T) [1, 2, 4, 5, 6, 39, 40] [2, 4] (fun x => [(41, .t (.int (x.1)))]) (fun x => [(6, .box [.sl 37 0 to.length]), (37, .L 4 (x.2))]) (fun x => 0 ≤ (x.1) ∧ (x.1) ≤ to.length ∧ (x.2) = (placed zF to (p.funcs.map (movF to)) (x.1).toNat).map Func.tt ∧ (to.take (x.1).toNat).Nodup) (fun x => Int.toNat (to.length - (x.1))) (0, List.replicate to.length (Func.tt zF)) ?_ (fun x hx => ?_)
  · exact ⟨by omega, by omega, (by rw [show (0 : Int).toNat = 0 from rfl, placed, List.map_replicate]), List.nodup_nil⟩
  obtain ⟨k, zs⟩ := x
  obtain ⟨hk0, hk1, hzs, hnd⟩ := hx
  dsimp only at hk0 hk1 hzs hnd ⊢;refine nY Z (sG (eZ Z (nB (sQ ?_))));refine AB Z (fun h5 => ?_) (fun h5 => ?_)
  ·
    simp only [HS] at h5;refine AC (tN (sQ (AD (sG (eZ Z ?_)))));refine iY (k := ?_);refine eK 3 Z (nB (sQ (sG (eK 2 Z (Bd tys Z Z (AA Z) Z Z Z Z Z Z Z Z (by first | omega | (simp only [Sk]; omega)) (by first | omega | (simp only [Sk]; omega)) (by first | omega | (simp only [Sk]; omega)) ?_)))));refine kZ [1,2,4,5,6,7,8,39,40,41,42,43,44,45,46,47,48] Z (eZ Z (AM ?_));refine ⟨_, Fun.arg0 (Gm (to.take k.toNat) (to[k.toNat]'(by omega)) (by rw [Sq]; omega)) (by show T.list 1 _ = T.ints _; simp [T.ints, List.map_take]), rfl, ?_⟩;refine nB ?_;refine AB Z (fun h6 => ?_) (fun h6 => ?_)
    ·
      simp only [HS] at h6;refine sG (AH tys Z Z (AA Z) Z Z Z (by kernel_rfl) Z Z Z Z Z Z (sT Z (nZ Z (eZ Z (nB ?_)))))
      try (refine AQ (Le.nilBox (u := 4) (j := 0) 4 rfl rfl) ?_; refine AU rfl ?_)
      refine rT (tR (bR (tR (AP (bR (tR (eR ?_)))))))
      · first
        | exact Cv (to := to) (by rw [Bz, decide_eq_false (Je (k := k.toNat) (by omega) (by assumption)), Bool.and_false])
    simp only [HS] at h6;refine AC (tN (BW 11 BE Z (by kernel_rfl) (by kernel_rfl) ?_))
    have hto := G1 h3 _ (Ss (show k.toNat < to.length by omega))
    have hzl : zs.length = to.length := by rw [hzs, Sk, Ar]
    refine evQ ?_;refine evQ ?_;refine evQ ?_;refine evQ ?_;refine AR Z (evQ ?_);refine evQ ?_;refine A9 tys Z Z (AA Z) Z Z Z Z Z Z Z (by omega) _ (EK _ _ (by omega) (by omega)) (evQ ?_);refine evQ ?_;refine E0 ?_;refine ⟨_, Fg (p.funcs[k.toNat]'(by omega)) to (B5 hp (by omega)) (Dt h1 (by omega) _ (Ss _)) ht, rfl, ?_⟩;refine AR Z (EN tys Z Z (AA Z) Z Z Z Z Z Z Z Z (by omega) (by omega) (A7 ?_));refine BD tys ((movF to (p.funcs[k.toNat]'(by omega))).tt) Z Z Z Z Z Z (by first | exact S7 _ | rfl) (by omega) Z (by repeat (first | exact AbsL.nil' | refine AbsL.v' ?_ | refine AbsL.own' ?_)) Z Z Z ?_;refine nZ Z (oN (bN (tN (rG (evI ?_)))));refine eZ Z (oN ?_);refine lQ (_, _) ?_ ?_
    · dsimp only
      rw [show (k + 1).toNat = k.toNat + 1 from by omega];refine ⟨by omega, by omega, ?_, HT (by omega) hnd h6⟩;rw [EC _ _ _ (by omega) (by rw [Sk]; omega), Tj, ← hzs, List.getElem_map]
    · (show Int.toNat _ < Int.toNat _); omega
  simp only [HS] at h5;refine AN (tE (AJ (AI (tN (sG (nZ Z (WO_le (Le.gatherBox (u := 6) (j := 0) (id := 37) Z Z Z (by rw [hzs, Sk, Ar]; exact S2 _) Z) ?_)))))));refine nZ Z (Ap tys Z Z (AA Z) Z Z Z Z Z Z (nZ Z (sT Z (nZ Z (eZ Z (nB ?_))))))
  try (refine AQ (Le.nilBox (u := 4) (j := 0) 4 rfl rfl) ?_; refine AU rfl ?_)
  refine rT (eR ?_)
  · first
    | exact Lv (p := p) (to := to) (by
       have hn : to.Nodup := by rw [← Sn (l := to) (i := k.toNat) (by omega)]; exact hnd
       rw [Bz, h1, decide_eq_true (show to.length = p.funcs.length by omega), h3, Ay (by omega) (by omega), decide_eq_true h4, decide_eq_true hn]; rfl) (by
       rw [Sn (by rw [hzs, Sk, Ar]; exact S2 _), hzs, show k.toNat = to.length from by omega])
def tOf : Option (Func × List Value) → T
 | none => zF.tt
 | some c => .agg (c.2.map T.v)
def CQ (C : List (Func × List Value)) : List T := C.map fun c => .agg (c.2.map T.v)
theorem Dj (C : List (Func × List Value)) : (CQ C).flatMap T.cells = (C.flatMap (·.2)).map T.v := by
 unfold CQ; rw [List.flatMap_map, List.map_flatMap]; rfl
theorem GH {C : List (Func × List Value)} (h : ∀ c, c ∈ C → c.2.length = 4) : ∀ y, y ∈ CQ C → (T.cells y).length = 4 := by
 intro y hy
 obtain ⟨c, hc, rfl⟩ := TE.1 hy
 show (c.2.map T.v).length = 4;rw [Sk, h c hc]
theorem Rz (to : List Int) {C C' : List (Func × List Value)} {fs : List Func} (h : placed none to (C.map some) to.length = C'.map some) (hC : C.map (·.1) = fs) : (C'.map (·.1)).map (movF to) = placed zF to (fs.map (movF to)) to.length := by
 have h1 := congrArg (List.map fun (o : Option (Func × List Value)) => match o with | none => zF | some c => movF to c.1) h
 rw [Dp, List.map_map, List.map_map] at h1;rw [← hC, List.map_map, List.map_map];exact h1.symm
theorem Jr (p : Prog) (to : List Int) (hp : p.ok 1048576) (ht : to.length ≤ 1048576) : Fun Try.prog 24 [.t p.tt, .t (T.ints to)] (A2 [.agg [.own (T.Funcs (CF p to).funcs)], .t (.bool (Bz p to))]) := by
  have hpl : p.funcs.length ≤ 1048576 := hp.1.1
  refine Fun.begin tys Try.func24 Z Z (N := 73) [(0, .t p.tt), (1, .t (T.ints to))] Z Z (fun w0 G F0 => ?_);refine sG (AV Z Z (AA Z) Z Z (nZ Z (AF tys Z Z (AA Z) Z Z Z (nZ Z (eZ Z (nB (sQ (sG (eZ Z ?_)))))))))
  try refine WO_le (Le.freeze (u := 9) rfl) ?_
  refine nZ Z (AM ?_);refine ⟨_, DA p hp, rfl, ?_⟩;refine eK 2 Z ?_;refine gB (fun h1 => ?_) (fun h1 => ?_)
  ·
    simp only [HS] at h1;refine xK 2 Z (kZ [1,2,4,5,12,14,15] Z (xK 9 Z (kZ [1,2,4,5,20,24] Z (eZ Z (nB (Ao Z (sG (AH tys Z Z (AA Z) Z Z Z (by kernel_rfl) Z Z Z Z Z Z (sT Z (nZ Z (eZ Z (nB ?_))))))))))))
    try (refine AQ (Le.nilBox (u := 4) (j := 0) 4 rfl rfl) ?_; refine AU rfl ?_)
    refine rT (tR (eR ?_))
    · first
      | exact Cv (to := to) (by rw [Bz, h1]; rfl)
  simp only [HS] at h1;refine eZ Z (gY Z (evE ?_));refine kZ [1,2,4,5,12,14] Z (xK 2 Z (gY Z (evE ?_)));refine xK 3 Z ?_;refine gB (fun h2 => ?_) (fun h2 => ?_)
  ·
    simp only [HS] at h2;refine xK 3 Z (kZ [1,2,4,5,20,24] Z (eZ Z (nB (Ao Z (sG (AH tys Z Z (AA Z) Z Z Z (by kernel_rfl) Z Z Z Z Z Z (sT Z (nZ Z (eZ Z (nB ?_))))))))))
    try (refine AQ (Le.nilBox (u := 4) (j := 0) 4 rfl rfl) ?_; refine AU rfl ?_)
    refine rT (tR (eR ?_))
    · first
      | exact Cv (to := to) (by rw [Bz, h1, decide_eq_false (by omega)]; rfl)
  simp only [HS] at h2;refine eZ Z (gY Z ?_)
  have hgl := AX h1
  refine iY (k := ?_);refine xZ Z (kZ [1,2,4,5,20,23] Z (xK 2 Z (nB ?_)));refine AB Z (fun h3 => ?_) (fun h3 => ?_)
  ·
    simp only [HS] at h3;refine sG (AH tys Z Z (AA Z) Z Z Z (by kernel_rfl) Z Z Z Z Z Z (sT Z (nZ Z (eZ Z (nB ?_)))))
    try (refine AQ (Le.nilBox (u := 4) (j := 0) 4 rfl rfl) ?_; refine AU rfl ?_)
    refine rT (tR (eR ?_))
    · first
      | exact Cv (to := to) (by rw [Bz, Ay (by omega) (by omega), decide_eq_false h3, Bool.and_false]; rfl)
  simp only [HS] at h3;refine AC (tN (sG (eZ Z (evE ?_))));refine DS tys (.agg [.v (.int .i64 0), .v (.int .i64 0), .list 1 [], .list 5 []]) _ Z Z (AA Z) Z Z Z Z Z (by repeat (first | exact AbsL.nil' | refine AbsL.v' ?_ | refine AbsL.none' ?_)) Z (by omega) (by decide) ?_;refine nZ Z (AH tys Z Z (AA Z) Z Z Z (by kernel_rfl) Z Z Z Z Z Z (AF tys Z Z (AA Z) Z Z Z (nZ Z (sT Z (nZ Z (nB (sQ (sQ (kY [1,2,4,5,6] Z (rG (eZ Z ?_)))))))))))
  try refine WO_le (Le.freeze (u := 31) rfl) ?_
  refine nZ Z (AM ?_);refine ⟨_, Ew p hp, rfl, ?_⟩;refine nZ Z ?_;refine Hv (u := 32) 132 Z Z (fun v32 hv32 => ?_)
  obtain ⟨q0, rfl⟩ : ∃ q0, v32 = [q0] := by
   match v32, hv32 with
   | [q0], _ => exact ⟨_, rfl⟩
  refine nZ Z (KO tys (e := 24) (off := 0) (us := [q0]) Z Z (AA Z) Z (by kernel_rfl) Z Z Z Z (nZ Z (WO_le (Le.ownBack (t := 33) (id := 132) Z Z) (nZ Z (WO_le (Le.adoptE (u := 33) 33 Z (by first | exact Iq | exact Z)) ?_)))));refine nZ Z ?_;refine FT (id := 33) (idp := 133) Z Z (fun vs hvs => ?_)
  obtain ⟨C, hC1, hC2, rfl⟩ := cutV (l := p.funcs) (vs := vs) (n := 4) (by rw [hvs, Sk])
  have hCl : C.length = p.funcs.length := by rw [← hC1, Sk]
  refine ⟨CQ C, Dj C, by rw [CQ, Sk, Sk, hCl], GH hC2, ?_⟩;refine nZ Z (evE ?_);refine eZ Z (nB (AD ?_));refine lK (α := Int × List T) [1, 2, 4, 5, 6, 33, 34] [2, 4, 33, 133] (fun x => [(35, .t (.int (x.1)))]) (fun x => [(6, .box [.sl 29 0 to.length]), (29, .L 4 (x.2))]) (fun x => 0 ≤ (x.1) ∧ (x.1) ≤ to.length ∧ (x.2) = (placed none to (C.map some) (x.1).toNat).map tOf ∧ (to.take (x.1).toNat).Nodup ∧ ∀ t, t ∈ to.take (x.1).toNat → 0 ≤ t ∧ t < to.length) (fun x => Int.toNat (to.length - (x.1))) (0, List.replicate to.length (Func.tt zF)) ?_ (fun x hx => ?_)
  · exact ⟨by omega, by omega, (by rw [show (0 : Int).toNat = 0 from rfl, placed, List.map_replicate]; rfl), List.nodup_nil, by simp⟩
  obtain ⟨k, zs⟩ := x
  obtain ⟨hk0, hk1, hzs, hnd, hr⟩ := hx
  dsimp only at hk0 hk1 hzs hnd hr ⊢;refine nY Z (sG (eZ Z (nB (sQ ?_))));refine AB Z (fun h4 => ?_) (fun h4 => ?_)
  ·
    simp only [HS] at h4;refine AC (tN (sQ (AD (sG (eZ Z ?_)))))
    have hkl : k.toNat < C.length := by omega
    obtain ⟨v0, v1, v2, v3, hv⟩ : ∃ v0 v1 v2 v3, (C[k.toNat]'hkl).2 = [v0, v1, v2, v3] := by
     have h4 := hC2 _ (Ss hkl)
     match (C[k.toNat]'hkl).2, h4 with
     | [v0, v1, v2, v3], _ => exact ⟨_, _, _, _, rfl⟩
    have hy : (CQ C)[k.toNat]? = some (.agg [.v v0, .v v1, .v v2, .v v3]) := by rw [CQ, List.getElem?_map, List.getElem?_eq_getElem hkl]; simp [hv]
    have hzl : zs.length = to.length := by rw [hzs, Sk, Ar]
    refine Ae tys Z Z (AA Z) Z Z Z Z Z Z Z Z (by omega) (by omega) (Al tys Z Z (AA Z) Z Z Z Z ((by rw [S7]; exact hy)) Z ?_);refine nZ Z (AF tys Z Z (AA Z) Z Z Z (nZ Z (eZ Z (sT Z (nZ Z (nB (sQ (sQ (kY [1,2,4,5,6,7,8,33,34,35,36,37,38,39] Z (Aj BE (by kernel_rfl) (evQ ?_)))))))))));refine evQ ?_;refine A9 tys Z Z (AA Z) Z Z Z Z Z Z Z (by omega) _ (EK _ _ (by omega) (by omega)) (evQ ?_);refine evQ ?_;refine evEQ ?_;refine AR Z (evIQ ?_);refine E0 ?_;refine ⟨_, Af _ _ _, rfl, ?_⟩;refine evQ ?_;refine evQ ?_;refine RM (fun h5 => ?_) (fun h5 => ?_)
    ·
      simp only [HS] at h5
      iterate 8 (refine KR rfl rfl rfl rfl rfl (AA rfl) ?_)
      refine evQ ?_;refine A7 (tN (Ao Z (sG (AH tys Z Z (AA Z) Z Z Z (by kernel_rfl) Z Z Z Z Z Z (sT Z (nZ Z (eZ Z (nB ?_))))))))
      try (refine AQ (Le.nilBox (u := 4) (j := 0) 4 rfl rfl) ?_; refine AU rfl ?_)
      refine rT (tR (bR (tR (AP (bR (tR (eR ?_)))))))
      · first
        | exact Cv (to := to) (by rw [Bz, MP hk0 (by omega) (by assumption), Bool.and_false]; rfl)
    simp only [HS] at h5;refine Au Z Z Z Z (AA Z) (evQ ?_);refine Au Z Z Z Z (AA Z) (evQ ?_);refine AR Z (Au Z Z Z Z (AA Z) (Pf tys Z Z (AA Z) Z Z Z Z Z Z Z Z (by first | omega | (simp only [Sk]; omega)) (by first | omega | (simp only [Sk]; omega)) (by first | omega | (simp only [Sk]; omega)) ?_));refine Au Z Z Z Z (AA Z) (evQ ?_);refine Au Z Z Z Z (AA Z) (evQ ?_);refine Au Z Z Z Z (AA Z) (A9 tys Z Z (AA Z) Z Z Z Z Z Z Z (by omega) _ (EK _ _ (by omega) (by omega)) (Au Z Z Z Z (AA Z) (evQ ?_)));refine Au Z Z Z Z (AA Z) (E0 ?_);refine ⟨_, Fun.arg0 (DQ (to.take k.toNat) (to[k.toNat]'(by omega)) (by rw [Sq]; omega)) (by show T.list 1 _ = T.ints _; simp [T.ints, List.map_take]), rfl, ?_⟩;refine AR Z (evQ ?_);refine A7 (tN ?_);refine AB Z (fun h6 => ?_) (fun h6 => ?_)
    ·
      simp only [HS] at h6;refine sG (AH tys Z Z (AA Z) Z Z Z (by kernel_rfl) Z Z Z Z Z Z (sT Z (nZ Z (eZ Z (nB ?_)))))
      try (refine AQ (Le.nilBox (u := 4) (j := 0) 4 rfl rfl) ?_; refine AU rfl ?_)
      refine rT (tR (bR (tR (AP (bR (tR (eR ?_)))))))
      · first
        | exact Cv (to := to) (by rw [Bz, decide_eq_false (Je (k := k.toNat) (by omega) (by assumption)), Bool.and_false])
    simp only [HS] at h6;refine AC (tN (BW 8 BE Z (by kernel_rfl) (by kernel_rfl) (evQ ?_)));refine evQ ?_;refine evQ ?_;refine evQ ?_;refine A9 tys Z Z (AA Z) Z Z Z Z Z Z Z (by omega) _ (EK _ _ (by omega) (by omega)) (AR Z (evQ ?_));refine Rm tys Z Z (AA Z) Z Z (EN tys Z Z (AA Z) Z Z Z Z Z Z Z Z (by omega) (by omega) (A7 ?_));refine BD tys (.agg [.v v0, .v v1, .v v2, .v v3]) Z Z Z Z Z Z (by first | exact S7 _ | rfl) (by omega) Z (by repeat (first | exact AbsL.nil' | refine AbsL.v' ?_ | refine AbsL.own' ?_)) Z Z Z ?_;refine nZ Z (oN (bN (tN (rG (evI ?_)))));refine eZ Z (oN ?_);refine lQ (_, _) ?_ ?_
    · dsimp only
      rw [show (k + 1).toNat = k.toNat + 1 from by omega];refine ⟨by omega, by omega, ?_, HT (by omega) hnd (by assumption), ?_⟩
      · rw [EC _ _ _ (by omega) (by rw [Sk]; omega), Tj, ← hzs, List.getElem_map]
        show _ = zs.set _ (T.agg ((C[k.toNat]'hkl).2.map T.v));rw [hv];rfl
      · intro x hx
        rw [List.take_succ_eq_append_getElem (by omega)] at hx
        rcases So.1 hx with hx | hx
        · exact hr x hx
        · rw [S1] at hx
          subst hx;omega
    · (show Int.toNat _ < Int.toNat _); omega
  simp only [HS] at h4;refine AN (tE (AJ (AI (tN (sG ?_)))))
  have hkn : k.toNat = to.length := by omega
  rw [hkn, Sy] at hnd hr
  obtain ⟨C', hC', hperm⟩ := Ko hr hnd (show C.length = to.length by omega)
  have hC2' : ∀ c, c ∈ C' → c.2.length = 4 := fun c hc => hC2 c (hperm.mem_iff.2 hc)
  have hlC : C'.length = to.length := by rw [← hperm.length_eq]; omega
  have hzs' : zs = CQ C' := by rw [hzs, hkn, hC', List.map_map]; rfl
  have hfs : (C'.map (·.1)).Perm p.funcs := by rw [← hC1]; exact (hperm.map _).symm
  have hpo : (Prog.ok 1048576 ⟨C'.map (·.1)⟩) := ⟨⟨by rw [hfs.length_eq]; exact hp.1.1, fun f hf => hp.1.2 f (hfs.mem_iff.1 hf)⟩, hp.2⟩
  clear hzs;subst hzs';refine nZ Z (WO_le (Le.rawPerm (idp := 133) (g := fun f => T.cells (Func.tt f)) (n := 4) (C := C) (C' := C') Z (fun _ => rfl) hC2 Z (by rw [hC1, List.flatMap_map]) hperm) ?_);refine nZ Z (WO_le (Le.claimAll (id := 29) (idp := 133) (xs := (C'.map (·.1)).map Func.tt) (ys := CQ C') Z Z (Dj C') (by rw [List.flatMap_map]) (by simp [CQ]) (Hs _) Z) ?_);refine nZ Z (WO_le (Le.gatherBox (u := 6) (j := 0) (id := 29) Z Z Z (by simp [hlC]) Z) ?_);rw [show ((C'.map (·.1)).map Func.tt).take to.length = (C'.map (·.1)).map Func.tt from Sn (by simp [hlC])];refine nZ Z ?_;refine Fl (u := 6) (idp := 134) (j := 0) Z Z Z (fun v => ?_);refine nZ Z (eZ Z (nZ Z (nZ Z (eZ Z (KI (id := 134) (us := [v]) Z Z (AA Z) Z Z Z Z Z Z Z (He ⟨C'.map (·.1)⟩ to hpo (fun f hf => Dt h1 (by omega) f (hfs.mem_iff.1 hf)) ht) (nZ Z (WO_le (Le.claimBox (u := 6) (idp := 134) (j := 0) Z Z Z Z) (nZ Z (nA (Ap tys Z Z (AA Z) Z Z Z Z Z Z (nZ Z (sT Z (nZ Z (eZ Z (nB ?_)))))))))))))))
  try (refine AQ (Le.nilBox (u := 4) (j := 0) 4 rfl rfl) ?_; refine AU rfl ?_)
  refine rT (eR ?_)
  · first
    | exact Lv (p := p) (to := to) (by
       rw [Bz, h1, decide_eq_true (show to.length = p.funcs.length by omega), Ay (by omega) (by omega), decide_eq_true h3, decide_eq_true hnd, MO (fun t ht => by have := hr t ht; omega)]; rfl) (by
       show ((C'.map (·.1)).map (movF to)).map Func.tt = _
       rw [Rz to hC' hC1])
open Go.Eng
def usedQ (p : Prog) (x : Int) : Bool := decide (x ∈ AO p 0)
def BU (p : Prog) : List Int := (List.range p.funcs.length).map (rankQ (usedQ p))
theorem CY (p : Prog) : (BU p).length = p.funcs.length := by simp [BU]
def Bb (p : Prog) : Prog := if AS p then ⟨(AO p 0).map fun n => movF (BU p) (funcAt p n)⟩ else ⟨[]⟩
theorem MG {p : Prog} (h : AS p = false) : [D.agg [D.own (T.list 4 [])], D.t (T.v (.bool false))] = [D.agg [D.own (T.Funcs (Bb p).funcs)], D.t (T.bool (AS p))] := by
 rw [Bb, h]; rfl
theorem J5 {p : Prog} {xs : List T} (h : AS p = true) (hx : xs = ((AO p 0).map fun n => movF (BU p) (funcAt p n)).map Func.tt) : [D.agg [D.own (T.list 4 xs)], D.t (T.v (.bool true))] = [D.agg [D.own (T.Funcs (Bb p).funcs)], D.t (T.bool (AS p))] := by
 rw [Bb, h, hx]; rfl
theorem Hy {p : Prog} {x : Int} : x ∈ AO p 0 ↔ (0 ≤ x ∧ x < p.funcs.length) ∧ usedQ p x = true := by
 unfold usedQ;rw [decide_eq_true_eq];exact ⟨fun h => ⟨BQ h, h⟩, fun h => h.2⟩
theorem ER (p : Prog) : (AO p 0).Pairwise (· < ·) := CR ..
theorem E9 {p : Prog} (hg : AS p = true) {n x : Int} (hn : n ∈ AO p 0) (hx : x ∈ ET (funcAt p n).stmts) : x ∈ AO p 0 := by
 have hgl := AX hg
 have h1 := D6 hg n x hx
 have hc := CI hg
 rw [show AO p 0 = Ed p.funcs.length (BF p) 0 from rfl, B0 hc (by omega) (by omega)] at hn ⊢;exact .step hn (mem_setN.2 ⟨⟨h1.1, by omega⟩, hx⟩)
def CB (N : Nat) (used : List Int) : Nat → List Int
 | 0 => List.replicate N 0
 | k + 1 => match used[k]? with
  | some n => (CB N used k).set n.toNat k
  | none => CB N used k
theorem Bg (N : Nat) (used : List Int) : ∀ k, (CB N used k).length = N
 | 0 => by simp [CB]
 | k + 1 => by
  rw [CB]; split
  ·rw [TN, Bg]
  ·exact Bg N used k
theorem GC {N : Nat} {used : List Int} {k : Nat} (h : k < used.length) : CB N used (k + 1) = (CB N used k).set (used[k]).toNat k := by
 rw [CB, List.getElem?_eq_getElem h]
theorem Iv {N : Nat} {used : List Int} (hd : used.Nodup) (hr : ∀ x, x ∈ used → 0 ≤ x ∧ x < N) : ∀ {k : Nat}, k ≤ used.length → ∀ i (hi : i < used.length), i < k → (CB N used k)[(used[i]).toNat]? = some (i : Int)
 | 0, _, i, _, h => by omega
 | k + 1, hk, i, hi, h => by
  have hb := hr _ (Ss hi)
  have hbk := hr (used[k]'(by omega)) (Ss _)
  rw [GC (by omega)]
  by_cases e : i = k
  ·subst e
   rw [List.getElem?_set_self (by rw [Bg]; omega)]
  ·rw [List.getElem?_set_ne]
   ·exact Iv hd hr (by omega) i hi (by omega)
   ·intro he
    have hij : used[k]'(by omega) = used[i] := by omega
    have := (List.getElem_inj hd).1 hij
    omega
theorem KZ {p : Prog} {x : Int} (hx : x ∈ AO p 0) : atI (CB p.funcs.length (AO p 0) (AO p 0).length) x = atI (BU p) x := by
 obtain ⟨i, hi, rfl⟩ := TH hx
 have hb := BQ hx
 have hnd : (AO p 0).Nodup := (ER p).imp (fun h => by omega)
 have h1 := Iv (N := p.funcs.length) hnd (fun x hx => BQ hx) (S2 _) i hi hi
 rw [Ay hb.1 (by rw [Bg]; exact hb.2), Ay hb.1 (by rw [CY]; exact hb.2)]
 have h2 := (List.getElem?_eq_some_iff.1 h1).2
 rw [h2]
 have h3 := OD (ER p) (fun x => Hy) hi
 simp only [BU, List.getElem_map, List.getElem_range];exact h3.symm
theorem Kw {to to' : List Int} {f : Func} (h : ∀ x, x ∈ ET f.stmts → atI to x = atI to' x) : movF to f = movF to' f := by
 unfold movF
 congr 1
 refine List.map_congr_left fun s hs => ?_
 have hS : ∀ x, x ∈ NQ s → atI to x = atI to' x := fun x hx => h x (TF.2 ⟨s, hs, hx⟩)
 have e1 : movN to s = movN to' s := by
  unfold movN;split
  ·rename_i hk
   exact hS _ (TG _ (by rw [d3, if_pos hk]; simp))
  ·rfl
 have e2 : s.ex.map (movT to) = s.ex.map (movT to') := List.map_congr_left fun t ht => by
  unfold movT;split
  ·rename_i hk
   rw [hS t.n (TL _ (TE.2 ⟨t, List.mem_filter.2 ⟨ht, by simpa using hk⟩, rfl⟩))]
  ·rfl
 unfold movS;rw [e1, e2]
theorem O6 {p : Prog} (hg : AS p = true) : ((AO p 0).map fun n => movF (CB p.funcs.length (AO p 0) (AO p 0).length) (funcAt p n)) = (AO p 0).map fun n => movF (BU p) (funcAt p n) :=
 List.map_congr_left fun n hn => Kw fun x hx => KZ (E9 hg hn hx)
theorem Qt (p : Prog) : p.funcs = (List.range p.funcs.length).map fun k : Nat => funcAt p k := by
 refine List.ext_getElem (by simp) fun i h1 h2 => ?_
 rw [List.getElem_map, List.getElem_range];exact Ax (n := (i : Int)) (by omega)
theorem Hh (p : Prog) : pickC (usedQ p) 0 p.funcs = (AO p 0).map (funcAt p) := by
 conv => lhs; rw [Qt p]
 exact OI (ER p) (fun x => Hy) (funcAt p)
theorem H2 (p : Prog) (hp : p.ok 1048576) : Fun Try.prog 29 [.t p.tt] (A2 [.agg [.own (T.Funcs (Bb p).funcs)], .t (.bool (AS p))]) := by
 have hpl : p.funcs.length ≤ 1048576 := hp.1.1
 refine Fun.begin tys Try.func29 Z Z (N := 53) [(0, .t p.tt)] Z Z (fun w0 G F0 => ?_);refine sG (AV Z Z (AA Z) Z Z (nZ Z (AF tys Z Z (AA Z) Z Z Z (nZ Z (eZ Z (nB (sQ (sG (eZ Z ?_)))))))))
 try refine WO_le (Le.freeze (u := 11) rfl) ?_
 refine nZ Z (AM ?_);refine ⟨_, Co p hp, rfl, ?_⟩;refine eZ Z (nB ?_);refine AB Z (fun h1 => ?_) (fun h1 => ?_)
 ·
  simp only [HS] at h1;refine sG (AH tys Z Z (AA Z) Z Z Z (by kernel_rfl) Z Z Z Z Z Z (sT Z (nZ Z (eZ Z (kZ [1,2,3] Z (nB ?_))))))
  try (refine AQ (Le.nilBox (u := 2) (j := 0) 4 rfl rfl) ?_; refine AU rfl ?_)
  refine rT (tR (eR ?_))
  ·first
   | exact MG h1
 simp only [HS] at h1;refine AC (tN (sG (eZ Z ?_)))
 try refine WO_le (Le.freeze (u := 15) rfl) ?_
 refine nZ Z (CA Z Z (AA Z) Z Z Z Z Z (Fh p 0 hp h1 (by omega) (by have := AX h1; omega)) Z ?_);refine eZ Z (kZ [1,2,3,4] Z (nA ?_))
 have hgl := AX h1
 have hrl := FI h1 0
 refine eK 2 Z (evE ?_);refine DS tys (.v (.int .i64 0)) _ Z Z (AA Z) Z Z Z Z Z (by repeat (first | exact AbsL.nil' | refine AbsL.v' ?_ | refine AbsL.none' ?_)) Z (by omega) (by decide) ?_;refine nZ Z (eZ Z (nB (sQ (sG (eZ Z (evE ?_))))));refine eZ Z (nB (AD ?_));refine lK (α := Int × List T) [1, 2, 4, 5, 21, 22] [1, 2] (fun x => [(23, .t (.int (x.1)))]) (fun x => [(20, .L 1 (x.2))]) (fun x => 0 ≤ (x.1) ∧ (x.1) ≤ (AO p 0).length ∧ (x.2) = (CB p.funcs.length (AO p 0) (x.1).toNat).map T.int) (fun x => Int.toNat ((AO p 0).length - (x.1))) (0, List.replicate p.funcs.length (T.int 0)) ?_ (fun x hx => ?_)
 ·exact ⟨by omega, by omega, (by rw [show (0 : Int).toNat = 0 from rfl, CB, List.map_replicate])⟩
 obtain ⟨k, zs⟩ := x
 obtain ⟨hk0, hk1, hzs⟩ := hx
 dsimp only at hk0 hk1 hzs ⊢;refine nY Z (sG (eZ Z (nB (sQ ?_))));refine AB Z (fun h2 => ?_) (fun h2 => ?_)
 ·
  simp only [HS] at h2;refine AC (tN (sQ (AD (sG ?_))))
  have hu := BQ (Ss (show k.toNat < (AO p 0).length by omega))
  have hzl : zs.length = p.funcs.length := by rw [hzs, Sk, Bg]
  refine eZ Z ?_;refine iY (k := ?_);refine eK 3 Z (nB (rG (eK 3 Z (kZ [1,2,4,5,6,7,21,22,23,24,25,26,27,28,29,30] Z (Ae tys Z Z (AA Z) Z Z Z Z Z Z Z Z (by omega) (by omega) ?_)))));refine BD tys (T.int k) Z Z Z Z Z Z (by first | exact S7 _ | rfl) (by omega) Z (by repeat (first | exact AbsL.nil' | refine AbsL.v' ?_ | refine AbsL.own' ?_)) Z Z Z ?_;refine nZ Z (oN (bN (tN (rG (evI ?_)))));refine eZ Z (oN ?_);refine lQ (_, _) ?_ ?_
  ·dsimp only
   refine ⟨by omega, by omega, ?_⟩;rw [show (k + 1).toNat = k.toNat + 1 from by omega, GC (by omega), Tj, ← hzs, show ((k.toNat : Nat) : Int) = k from by omega]
  ·(show Int.toNat _ < Int.toNat _); omega
 simp only [HS] at h2;refine AN (tE (AJ (AI (tN (sG ?_)))))
 have hzl : zs.length = p.funcs.length := by rw [hzs, Sk, Bg]
 have hzs' : zs.take p.funcs.length = (CB p.funcs.length (AO p 0) (AO p 0).length).map T.int := by rw [Sn (by omega), hzs, show k.toNat = (AO p 0).length from by omega]
 refine nZ Z (WO_le (Le.gather (u := 5) (id := 20) Z Z (by omega)) ?_);rw [hzs'];refine nZ Z (WO_le (Le.freeze (u := 5) Z) (nZ Z (AF tys Z Z (AA Z) Z Z Z (nZ Z (nB (sQ (sG (nZ Z (WO_le (Le.nilBox (u := 8) (j := 0) 4 Z Z) (nZ Z (WO_le (Le.adoptBox (u := 8) (j := 0) (id := 190) Z Z Z) (nZ Z (eZ Z (evE ?_))))))))))))));refine eZ Z (nB (AD ?_));refine lK (α := Int × Nat × List T) [1, 2, 4, 5, 8, 33, 34] [1, 2] (fun x => [(35, .t (.int (x.1)))]) (fun x => [(8, .box [.sl 190 0 (x.2.1)]), (190, .L 4 (x.2.2))]) (fun x => 0 ≤ (x.1) ∧ (x.1) ≤ (AO p 0).length ∧ (x.2.1) = (x.2.2).length ∧ (x.2.2) = (((AO p 0).take (x.1).toNat).map fun n => movF (CB p.funcs.length (AO p 0) (AO p 0).length) (funcAt p n)).map Func.tt) (fun x => Int.toNat ((AO p 0).length - (x.1))) (0, 0, []) ?_ (fun x hx => ?_)
 ·exact ⟨by omega, by omega, rfl, rfl⟩
 obtain ⟨j, m2, xs⟩ := x
 obtain ⟨hj0, hj1, hm2, hxs⟩ := hx
 dsimp only at hj0 hj1 hm2 hxs ⊢;refine nY Z (sG (eZ Z (nB (sQ ?_))));refine AB Z (fun h3 => ?_) (fun h3 => ?_)
 ·
  simp only [HS] at h3;refine AC (tN (sQ (AD (sG ?_))))
  have hu := BQ (Ss (show j.toNat < (AO p 0).length by omega))
  refine iY (k := ?_);refine eK 2 Z (nB (DF 10 BE Z (by kernel_rfl) (by kernel_rfl) (QG_ev tys Z Z (AA Z) Z (QG_ev tys Z Z (AA Z) Z (Cz Z ?_)))))
  iterate 3 (refine QG_ev tys rfl rfl (AA rfl) rfl ?_)
  refine LM tys Z Z (AA Z) Z Z Z Z Z Z Z (by omega) _ (EK _ _ (by omega) (by omega)) (QG_ev tys Z Z (AA Z) Z (QG_ev tys Z Z (AA Z) Z (Cz Z (Fj ?_))));refine ⟨_, Fg (p.funcs[((AO p 0)[j.toNat]'(by omega)).toNat]'(by omega)) (CB p.funcs.length (AO p 0) (AO p 0).length) (B5 hp (by omega)) (Dt h1 (Bg ..) _ (Ss _)) (by rw [Bg]; omega), rfl, ?_⟩;refine Dh tys [(movF (CB p.funcs.length (AO p 0) (AO p 0).length) (p.funcs[((AO p 0)[j.toNat]'(by omega)).toNat]'(by omega))).tt] Z Z (AA Z) Z Z Z Z Z (AA Z) (by repeat (first | exact PartsOk.nil' | refine PartsOk.cons' rfl (by repeat (first | exact AbsL.nil' | refine AbsL.v' ?_ | refine AbsL.own' ?_ | refine AbsL.none' ?_)) Z ?_)) Z Z Z (by decide) ?_;refine AG ?_;refine ⟨by kernel_rfl, ?_⟩;refine nZ Z (WO_le (Le.adoptE (u := 48) 48 Z Z) (nZ Z (AE tys Z Z (AA Z) Z Z Z Z Z (.own Z (by first | omega | (simp only [Sm]; omega))) Z (.own Z (by first | decide | omega)) (by decide) (by simp only [Sq, Sp, List.length_nil]; rw [hxs, Sk, Sk, Sq]; omega) (by decide) Z ?_)));refine nZ Z (eZ Z (sT Z (nZ Z (oN (bN (tN (rG (evI ?_))))))));refine eZ Z (oN ?_);refine lQ (_, _, _) ?_ ?_
  ·dsimp only
   subst hm2;refine ⟨by omega, by omega, by simp, ?_⟩;rw [Sy, hxs, BO hj0 (by omega), S5, S5, TA, TA, ← Ax (show ((AO p 0)[j.toNat]'(by omega)).toNat < p.funcs.length by omega)];rfl
  ·(show Int.toNat _ < Int.toNat _); omega
 simp only [HS] at h3;refine AN (tE (AJ (AI (tN (sG (nZ Z (WO_le (Le.gatherBox (u := 8) (j := 0) (id := 190) Z Z Z (by omega) Z) (nZ Z (Ap tys Z Z (AA Z) Z Z Z Z Z Z (nZ Z (sT Z (nZ Z (eZ Z (nB ?_))))))))))))))
 try (refine AQ (Le.nilBox (u := 2) (j := 0) 4 rfl rfl) ?_; refine AU rfl ?_)
 refine rT (eR ?_)
 ·first
  | exact J5 h1 (by rw [← O6 h1, hm2, Sy, hxs, A5 (by omega)])
def rankT (p : Prog) (k : Nat) : List T := (List.range p.funcs.length).map fun i => T.int (if i < k then rankQ (usedQ p) i else 0)
theorem OE (p : Prog) (k : Nat) : (rankT p k).length = p.funcs.length := by simp [rankT]
theorem Ml (p : Prog) : List.replicate p.funcs.length (T.int 0) = rankT p 0 := by
 refine List.ext_getElem (by simp [rankT]) fun i h1 h2 => ?_
 simp [rankT]
theorem JP (p : Prog) {k : Nat} (h : k < p.funcs.length) : (rankT p k).set k (T.int (rankQ (usedQ p) k)) = rankT p (k + 1) := by
 refine List.ext_getElem (by simp [rankT]) fun i h1 h2 => ?_
 rw [List.getElem_set];simp only [rankT, List.getElem_map, List.getElem_range]
 by_cases e : k = i
 ·subst e; rw [if_pos rfl, if_pos (by omega)]
 ·rw [if_neg e]
  by_cases h3 : i < k
  ·rw [if_pos h3, if_pos (by omega)]
  ·rw [if_neg h3, if_neg (by omega)]
theorem OG (p : Prog) : rankT p p.funcs.length = (BU p).map T.int := by
 unfold rankT BU;rw [List.map_map]
 exact List.map_congr_left fun i hi => by rw [if_pos (TP.1 hi)]; rfl
theorem IL (p : Prog) (hp : p.ok 1048576) : Fun Try.prog 28 [.t p.tt] (A2 [.agg [.own (T.Funcs (Bb p).funcs)], .t (.bool (AS p))]) := by
  have hpl : p.funcs.length ≤ 1048576 := hp.1.1
  refine Fun.begin tys Try.func28 Z Z (N := 49) [(0, .t p.tt)] Z Z (fun w0 G F0 => ?_);refine sG (AV Z Z (AA Z) Z Z (nZ Z (AF tys Z Z (AA Z) Z Z Z (nZ Z (eZ Z (nB (sQ (sG (eZ Z ?_)))))))))
  try refine WO_le (Le.freeze (u := 9) rfl) ?_
  refine nZ Z (AM ?_);refine ⟨_, DA p hp, rfl, ?_⟩;refine eZ Z (nB ?_);refine AB Z (fun h1 => ?_) (fun h1 => ?_)
  ·
    simp only [HS] at h1;refine sG (AH tys Z Z (AA Z) Z Z Z (by kernel_rfl) Z Z Z Z Z Z (sT Z (nZ Z (eZ Z (kZ [1,2,3] Z (nB ?_))))))
    try (refine AQ (Le.nilBox (u := 2) (j := 0) 4 rfl rfl) ?_; refine AU rfl ?_)
    refine rT (tR (eR ?_))
    · first
      | exact MG h1
  simp only [HS] at h1;refine AC (tN (sG (eZ Z ?_)))
  try refine WO_le (Le.freeze (u := 13) rfl) ?_
  refine nZ Z (AM ?_);refine ⟨_, FW p hp h1, rfl, ?_⟩;refine WO_le (Le.freeze (u := 14) Z) (nZ Z (eZ Z (kZ [1,2,3,4] Z (nA ?_))))
  have hgl := AX h1
  have hul := C4 p.funcs.length fun k => !decide (k ∈ AO p 0)
  refine eK 2 Z (evE ?_);refine DS tys (.v (.int .i64 0)) _ Z Z (AA Z) Z Z Z Z Z (by repeat (first | exact AbsL.nil' | refine AbsL.v' ?_ | refine AbsL.none' ?_)) Z (by omega) (by decide) ?_;refine nZ Z (eZ Z (nA (AF tys Z Z (AA Z) Z Z Z (nZ Z (nB (sQ (sG (nZ Z (WO_le (Le.nilBox (u := 6) (j := 0) 4 Z Z) (nZ Z (WO_le (Le.adoptBox (u := 6) (j := 0) (id := 190) Z Z Z) (nZ Z (eZ Z ?_)))))))))))))
  try refine WO_le (Le.freeze (u := 19) rfl) ?_
  refine nZ Z (AM ?_);refine ⟨_, Ew p hp, rfl, ?_⟩;refine nZ Z ?_;refine Hv (u := 20) 132 Z Z (fun v32 hv32 => ?_)
  obtain ⟨q0, rfl⟩ : ∃ q0, v32 = [q0] := by
   match v32, hv32 with
   | [q0], _ => exact ⟨_, rfl⟩
  refine nZ Z (KO tys (e := 24) (off := 0) (us := [q0]) Z Z (AA Z) Z (by kernel_rfl) Z Z Z Z (nZ Z (WO_le (Le.ownBack (t := 21) (id := 132) Z Z) (nZ Z (WO_le (Le.adoptE (u := 21) 21 Z (by first | exact Iq | exact Z)) ?_)))));refine nZ Z ?_;refine FT (id := 21) (idp := 133) Z Z (fun vs hvs => ?_)
  obtain ⟨C, hC1, hC2, rfl⟩ := cutV (l := p.funcs) (vs := vs) (n := 4) (by rw [hvs, Sk])
  have hCl : C.length = p.funcs.length := by rw [← hC1, Sk]
  refine ⟨CQ C, Dj C, by rw [CQ, Sk, Sk, hCl], GH hC2, ?_⟩;refine nZ Z (kZ [2,3,4,5,6,21] Z (evE ?_));refine eZ Z (nB (AD ?_));refine PT (α := Int × Nat × List T × List T) [1, 2, 4, 5, 6, 21, 22] [2, 21, 133] (fun x => [(23, .t (.int (x.1)))]) (fun x => [(6, .box [.sl 190 0 (x.2.1)]), (190, .L 4 (x.2.2.1)), (18, .L 1 (x.2.2.2))]) (fun x => 0 ≤ (x.1) ∧ (x.1) ≤ p.funcs.length ∧ (x.2.1) = (x.2.2.1).length ∧ (x.2.2.1) = CQ (pickC (usedQ p) 0 (C.take (x.1).toNat)) ∧ (x.2.2.2) = rankT p (x.1).toNat) (fun x => Int.toNat (p.funcs.length - (x.1))) (0, 0, [], rankT p 0) ?_ ?_ ?_ (fun x hx => ?_)
  · repeat (first | exact Sub.nil' | refine Sub.cons' rfl ?_ )
  · repeat (first | exact SubM.nil' | refine SubM.cons' rfl ?_ | refine SubM.cons' (by rw [← Ml]; rfl) ?_)
  · exact ⟨by omega, by omega, rfl, rfl, rfl⟩
  obtain ⟨k, m, xs, zs⟩ := x
  obtain ⟨hk0, hk1, hm, hxs, hzs⟩ := hx
  dsimp only at hk0 hk1 hm hxs hzs ⊢;refine nY Z (sG (eZ Z (nB (sQ ?_))));refine AB Z (fun h2 => ?_) (fun h2 => ?_)
  ·
    simp only [HS] at h2;refine AC (tN (sQ (AD (sG (eZ Z ?_)))))
    have hkl : k.toNat < C.length := by omega
    obtain ⟨v0, v1, v2, v3, hv⟩ : ∃ v0 v1 v2 v3, (C[k.toNat]'hkl).2 = [v0, v1, v2, v3] := by
     have h4 := hC2 _ (Ss hkl)
     match (C[k.toNat]'hkl).2, h4 with
     | [v0, v1, v2, v3], _ => exact ⟨_, _, _, _, rfl⟩
    have hy : (CQ C)[k.toNat]? = some (.agg [.v v0, .v v1, .v v2, .v v3]) := by rw [CQ, List.getElem?_map, List.getElem?_eq_getElem hkl]; simp [hv]
    have hzl : zs.length = p.funcs.length := by rw [hzs, OE]
    refine Ae tys Z Z (AA Z) Z Z Z Z Z Z Z Z (by omega) (by omega) (Al tys Z Z (AA Z) Z Z Z Z ((by rw [S7]; exact hy)) Z ?_);refine nZ Z (AF tys Z Z (AA Z) Z Z Z (nZ Z (eZ Z (sT Z (nZ Z (nB (sQ (kY [1,2,4,5,6,7,8,21,22,23,24,25,26,27] Z (rG (eK 4 Z (evE ?_)))))))))));refine Ae tys Z Z (AA Z) Z Z Z Z Z Z Z Z (by omega) (by omega) ?_;refine BD tys (T.int m) Z Z Z Z Z Z (by first | exact S7 _ | rfl) (by omega) Z (by repeat (first | exact AbsL.nil' | refine AbsL.v' ?_ | refine AbsL.own' ?_)) Z Z Z ?_;refine nZ Z (nB (sQ (kY [1,2,4,5,6,7,8,21,22,23,24,25,26,27,28,29,30,31,32,33] Z (rG (eK 2 Z (AM ?_))))));refine ⟨_, DQ (Cs p) k (by unfold Cs; omega), rfl, ?_⟩;refine eZ Z (nB ?_);refine AB Z (fun h3 => ?_) (fun h3 => ?_)
    ·
      simp only [HS] at h3;refine rG (eK 3 Z ?_)
      try refine WO_le (Le.freeze (u := 40) rfl) ?_
      refine nZ Z (bZ [.agg [.v v0, .v v1, .v v2, .v v3]] ?_);refine nZ Z (AE tys Z Z (AA Z) Z Z Z Z Z (.own Z (by first | omega | (simp only [Sm]; omega))) Z (.own Z (by first | decide | omega)) (by decide) (by simp only [Sq, Sp, List.length_nil]; rw [hxs, CQ, Sk]; have := Eg (usedQ p) 0 (C.take k.toNat); simp at this; omega) (by decide) Z ?_);refine nZ Z (kZ [1,2,4,5,6,7,8,21,22,23,24,25,26,27,28,29,30,31,32,33,34,35,36,37,38,39,40,41,42] Z (eZ Z (sT Z (nZ Z (oN (bN (tN (rG (evI ?_)))))))));refine eZ Z (oN ?_);refine lQ (_, _, _, _) ?_ ?_
      · dsimp only
        have hr : (m : Int) = rankQ (usedQ p) k.toNat := by rw [hm, hxs, CQ, Sk, Ee _ _ (by omega)]
        have hz : zs.set k.toNat (T.int m) = rankT p (k + 1).toNat := by rw [hr, hzs, show (k + 1).toNat = k.toNat + 1 from by omega, JP _ (by omega)]
        have hq : usedQ p ((k.toNat : Nat) : Int) = true ↔ k ∉ Cs p := by
         rw [show ((k.toNat : Nat) : Int) = k from by omega, Cs, mem_pickN, usedQ, decide_eq_true_eq]
         constructor
         · rintro h ⟨_, h'⟩; simp [h] at h'
         · exact fun h => Classical.byContradiction fun hn => h ⟨⟨hk0, by omega⟩, by simp [hn]⟩
        have hp1 := IE (usedQ p) C (k := k.toNat) (by omega)
        rw [show k.toNat + 1 = (k + 1).toNat from by omega] at hp1
        first
        | (rw [if_pos (hq.2 h3)] at hp1
           subst hm;refine ⟨by omega, by omega, by simp, ?_, hz⟩;rw [Sy, hp1, CQ, S5, ← CQ, ← hxs]
           simp [hv])
      · (show Int.toNat _ < Int.toNat _); omega
    simp only [HS] at h3;refine AC (bN (tN (rG (evI ?_))));refine eZ Z (oN ?_);refine lQ (_, _, _, _) ?_ ?_
    · dsimp only
      have hr : (m : Int) = rankQ (usedQ p) k.toNat := by rw [hm, hxs, CQ, Sk, Ee _ _ (by omega)]
      have hz : zs.set k.toNat (T.int m) = rankT p (k + 1).toNat := by rw [hr, hzs, show (k + 1).toNat = k.toNat + 1 from by omega, JP _ (by omega)]
      have hq : usedQ p ((k.toNat : Nat) : Int) = true ↔ k ∉ Cs p := by
       rw [show ((k.toNat : Nat) : Int) = k from by omega, Cs, mem_pickN, usedQ, decide_eq_true_eq]
       constructor
       · rintro h ⟨_, h'⟩; simp [h] at h'
       · exact fun h => Classical.byContradiction fun hn => h ⟨⟨hk0, by omega⟩, by simp [hn]⟩
      have hp1 := IE (usedQ p) C (k := k.toNat) (by omega)
      rw [show k.toNat + 1 = (k + 1).toNat from by omega] at hp1
      first
      | (rw [if_neg (fun h => hq.1 h h3), S3] at hp1
         exact ⟨by omega, by omega, hm, by rw [hp1]; exact hxs, hz⟩)
    · (show Int.toNat _ < Int.toNat _); omega
  simp only [HS] at h2;refine AN (tE (AJ (AI (tN (sG ?_)))))
  have hkN : k.toNat = p.funcs.length := by omega
  obtain ⟨R, hR⟩ := Hi (usedQ p) 0 C
  have hC' : (pickC (usedQ p) 0 C).map (·.1) = (AO p 0).map (funcAt p) := by rw [GY, hC1, Hh]
  have hxs' : xs = CQ (pickC (usedQ p) 0 C) := by rw [hxs, hkN, Sn (by omega)]
  have hzs' : zs = (BU p).map T.int := by rw [hzs, hkN, OG]
  have hC2' : ∀ c, c ∈ pickC (usedQ p) 0 C → c.2.length = 4 := fun c hc => hC2 c (hR.mem_iff.2 (TG _ hc))
  have hCl' := Eg (usedQ p) 0 C
  have hpo : (Prog.ok 1048576 ⟨(pickC (usedQ p) 0 C).map (·.1)⟩) := ⟨⟨by rw [Sk]; omega, fun f hf => by
   rw [hC'] at hf
   obtain ⟨n, hn, rfl⟩ := TE.1 hf
   have := BQ hn
   rw [← Ax (n := n) (by omega)]
   exact B5 hp (by omega)⟩, trivial⟩
  have hsq : ∀ f, f ∈ (pickC (usedQ p) 0 C).map (·.1) → ∀ x, x ∈ ET f.stmts → 0 ≤ x ∧ x < (BU p).length := fun f hf x hx => by
   rw [hC'] at hf
   obtain ⟨n, hn, rfl⟩ := TE.1 hf
   have := BQ hn
   rw [← Ax (n := n) (by omega)] at hx;exact Dt h1 (CY p) _ (Ss _) x hx
  have hml : m = (pickC (usedQ p) 0 C).length := by rw [hm, hxs', CQ, Sk]
  generalize pickC (usedQ p) 0 C = C' at *;clear hzs hxs;subst hxs' hzs' hml;refine nZ Z (WO_le (Le.gather (u := 5) (id := 18) Z Z (by simp [CY])) ?_);rw [show ((BU p).map T.int).take p.funcs.length = (BU p).map T.int from Sn (by simp [CY])];refine nZ Z (WO_le (Le.freeze (u := 5) Z) (nZ Z (WO_le (Le.rawPick (idp := 133) (g := fun f => T.cells (Func.tt f)) (n := 4) (C := C) (C' := C') (R := R) Z (fun _ => rfl) hC2 Z (by rw [hC1, List.flatMap_map]) hR) ?_)));refine nZ Z (WO_le (Le.claimAll (id := 190) (idp := 133) (xs := (C'.map (·.1)).map Func.tt) (ys := CQ C') Z Z (Dj C') (by rw [List.flatMap_map]) (by simp [CQ]) (Hs _) Z) ?_);refine nZ Z (WO_le (Le.gatherBox (u := 6) (j := 0) (id := 190) Z Z Z (by simp) Z) ?_);rw [show ((C'.map (·.1)).map Func.tt).take C'.length = (C'.map (·.1)).map Func.tt from Sn (by simp)];refine nZ Z ?_;refine Fl (u := 6) (idp := 134) (j := 0) Z Z Z (fun v => ?_);refine nZ Z (eZ Z (nZ Z (nZ Z (eZ Z (KI (id := 134) (us := [v]) Z Z (AA Z) Z Z Z Z Z Z Z (He ⟨C'.map (·.1)⟩ (BU p) hpo hsq (by rw [CY]; omega)) ?_)))));refine nZ Z (WO_le (Le.claimBox (u := 6) (idp := 134) (j := 0) Z Z Z Z) (nZ Z (nA (Ap tys Z Z (AA Z) Z Z Z Z Z Z (nZ Z (sT Z (nZ Z (eZ Z (nB ?_)))))))))
  try (refine AQ (Le.nilBox (u := 2) (j := 0) 4 rfl rfl) ?_; refine AU rfl ?_)
  refine rT (eR ?_)
  · first
    | exact J5 h1 (by
       show ((C'.map (·.1)).map (movF (BU p))).map Func.tt = _;rw [hC']
       simp only [List.map_map, Function.comp_def])
open Go.Eng
theorem OQ (to : List Int) {B : Nat} {f : Func} (h : f.ok B) : (movF to f).ok B := by
 refine ⟨h.1, ⟨by show (f.stmts.map (movS to)).length ≤ B; rw [Sk]; exact h.2.1.1, fun s hs => ?_⟩, trivial⟩
 obtain ⟨s', hs', rfl⟩ := TE.1 hs
 have := h.2.1.2 s' hs'
 exact ⟨by show (s'.ex.map (movT to)).length ≤ B; rw [Sk]; exact this.1, this.2.1, this.2.2.1, trivial⟩
theorem Hl {p : Prog} {to : List Int} (h : Bz p to = true) : (CF p to).funcs.Perm (p.funcs.map (movF to)) := by
 have e : (CF p to).funcs = placed zF to (p.funcs.map (movF to)) to.length := by rw [CF, if_pos h]
 rw [e];unfold Bz at h;simp only [Sl, decide_eq_true_eq] at h
 obtain ⟨⟨⟨⟨h1, h2⟩, h3⟩, h4⟩, h5⟩ := h
 exact GW (fun x hx => by have := G1 h3 x hx; omega) h5 (by rw [Sk, h2])
theorem OV {p : Prog} {to : List Int} (h : ¬ Bz p to = true) : CF p to = ⟨[]⟩ := by rw [CF, if_neg h]
theorem Qa {p : Prog} {to : List Int} {B : Nat} (hp : p.ok B) : (CF p to).ok B := by
 by_cases h : Bz p to = true
 ·have hq := Hl h
  refine ⟨⟨by rw [hq.length_eq, Sk]; exact hp.1.1, fun f hf => ?_⟩, trivial⟩
  obtain ⟨g, hg, rfl⟩ := TE.1 (hq.mem_iff.1 hf)
  exact OQ to (hp.1.2 g hg)
 ·rw [OV h]
  exact ⟨⟨Tm _, by simp⟩, trivial⟩
open Go.Eng
theorem J6 {p : Prog} (h : AS p = true) : (Bb p).funcs = ((AO p 0).map (funcAt p)).map (movF (BU p)) := by
 rw [Bb, if_pos h, List.map_map]; rfl
theorem O7 {p : Prog} (h : ¬ AS p = true) : Bb p = ⟨[]⟩ := by rw [Bb, if_neg h]
theorem Qb {p : Prog} {B : Nat} (hp : p.ok B) : (Bb p).ok B := by
 by_cases h : AS p = true
 ·refine ⟨⟨?_, fun f hf => ?_⟩, trivial⟩
  ·rw [J6 h, ← Hh, Sk]
   exact TQ (Eg ..) hp.1.1
  ·rw [J6 h] at hf
   obtain ⟨g, hg, rfl⟩ := TE.1 hf
   obtain ⟨n, hn, rfl⟩ := TE.1 hg
   have := BQ hn
   rw [← Ax (n := n) (by omega)];exact OQ _ (hp.1.2 _ (Ss _))
 ·rw [O7 h]
  exact ⟨⟨Tm _, by simp⟩, trivial⟩
open Go.Eng
section
variable {f : Func} {s : Int} {g : Nat}
theorem PA {l : List Int} {F : Int → List Int} {x n m : Int} (hn : n ∈ l) (hm : m ∈ l) (hne : n ≠ m) (h1 : x ∈ F n) (h2 : x ∈ F m) : 2 ≤ (l.flatMap F).count x := by
 induction l with
 | nil => simp at hn
 | cons y l ih =>
  rw [S8, List.count_append]
  have pos : ∀ k, k ∈ l → x ∈ F k → 1 ≤ (l.flatMap F).count x := fun k hk hx => List.count_pos_iff.2 (TF.2 ⟨k, hk, hx⟩)
  rcases Sw.1 hn with e | hn'
  ·subst e
   have hm' := (Sw.1 hm).resolve_left (Ne.symm hne)
   have := pos m hm' h2
   have := List.count_pos_iff.2 h1
   omega
  ·rcases Sw.1 hm with e | hm'
   ·subst e
    have := pos n hn' h1
    have := List.count_pos_iff.2 h2
    omega
   ·have := ih hn' hm'
    omega
theorem enter (hsh : Ag f = true) (h0 : 0 ≤ s) (h1 : s < f.stmts.length) (hg : g = HL f s) : (∀ n : Int, 0 ≤ n → n < f.stmts.length → (n < s ∨ s + g ≤ n) → ∀ x, x ∈ It (kids f.stmts) n → s ≤ x → x < s + g → x = s) ∧ ∀ x, x ∈ f.body → s ≤ x → x < s + g → x = s := by
 obtain ⟨hd, hb, ho⟩ := Ha hsh
 obtain ⟨g1, g2, g3⟩ := Qs hsh h0 h1
 rw [← hg] at g1 g3
 obtain ⟨o1, _, _⟩ := EE hd hb ho
 have hin1 : inB f.stmts.length 0 [s] := fun x hx => by rw [S1] at hx; subst hx; exact ⟨h0, h1⟩
 have par : ∀ x, s ≤ x → x < s + g → ¬ x = s → ∃ m, (s ≤ m ∧ m < s + g) ∧ x ∈ It (kids f.stmts) m := fun x hx1 hx2 hne => by
  have hc := Gb hd hin1 x
  have e : ord f.stmts.length (kids f.stmts) [s] = run s g := g1
  rw [e] at hc
  have hx : 1 ≤ (run s g).count x := List.count_pos_iff.2 (mem_run.2 ⟨hx1, hx2⟩)
  have hz : [s].count x = 0 := TY (by simpa using hne)
  have hp : 0 < ((run s g).flatMap (It (kids f.stmts))).count x := by omega
  obtain ⟨m, hm, hxm⟩ := TF.1 (List.count_pos_iff.1 hp)
  exact ⟨m, mem_run.1 hm, hxm⟩
 refine ⟨fun n hn0 hn1 hn x hx hx1 hx2 => Classical.byContradiction fun hne => ?_, fun x hx hx1 hx2 => Classical.byContradiction fun hne => ?_⟩
 ·obtain ⟨m, hm, hxm⟩ := par x hx1 hx2 hne
  have h2 := o1 x (by omega) (by omega)
  unfold NT at h2;rw [List.count_append] at h2
  have h3 := PA (l := Bs f.stmts.length) (F := It (kids f.stmts)) (x := x) (n := n) (m := m) (mem_upto.2 ⟨hn0, hn1⟩) (mem_upto.2 ⟨by omega, by omega⟩) (by omega) hx hxm
  omega
 ·obtain ⟨m, hm, hxm⟩ := par x hx1 hx2 hne
  have h2 := o1 x (by omega) (by omega)
  unfold NT at h2;rw [List.count_append] at h2
  have h3 : 1 ≤ f.body.count x := List.count_pos_iff.2 hx
  have h4 : 1 ≤ ((Bs f.stmts.length).flatMap (It (kids f.stmts))).count x := List.count_pos_iff.2 (TF.2 ⟨m, mem_upto.2 ⟨by omega, by omega⟩, hxm⟩)
  omega
end
open Go.Eng
structure Ou where
 code : Int
 value : Int
 trace : List Int
 used : Int
def C2 (p : Prog) (inp : List Int) (most fuel : Nat) : Bool := Cq p inp most && decide (fuel ≤ 600)
def outP (p : Prog) (inp : List Int) (most fuel : Nat) : Ou := ⟨(Fn p inp most fuel).1, R3 (Fn p inp most fuel).1 (Fn p inp most fuel).2.1, (Fn p inp most fuel).2.2.2.trace, (Fn p inp most fuel).2.2.2.used⟩
def Ks (p : Prog) (inp : List Int) (most fuel : Nat) : Ou := if C2 p inp most fuel = true then outP p inp most fuel else ⟨0, 0, [], 0⟩
def Ou.dd (o : Ou) : D := .agg [.t (.int o.code), .t (.int o.value), .own (T.ints o.trace), .t (.int o.used)]
theorem PL {p : Prog} {inp : List Int} {most : Int} (h : Cq p inp most = true) : AS p = true := by
 unfold Cq at h;simp only [Sl] at h;exact h.1
theorem R2 {p : Prog} {inp : List Int} {most fuel : Nat} (h : C2 p inp most fuel = true) : [D.agg [.t (T.v (.int .i64 (Fn p inp most fuel).1)), .t (T.v (.int .i64 (R3 (Fn p inp most fuel).1 (Fn p inp most fuel).2.1))), .own (T.ints (Fn p inp most fuel).2.2.2.trace), .t (T.v (.int .i64 (Fn p inp most fuel).2.2.2.used))], D.t (T.v (.bool true))] = [(Ks p inp most fuel).dd, D.t (T.bool (C2 p inp most fuel))] := by
 rw [Ks, h]; rfl
theorem RS {p : Prog} {inp : List Int} {most fuel : Nat} (h : C2 p inp most fuel = false) : [D.agg [.t (T.v (.int .i64 0)), .t (T.v (.int .i64 0)), .own (T.list 1 []), .t (T.v (.int .i64 0))], D.t (T.v (.bool false))] = [(Ks p inp most fuel).dd, D.t (T.bool (C2 p inp most fuel))] := by
 rw [Ks, h]; rfl
theorem DN (p : Prog) (inp : List Int) (most fuel : Nat) (hp : p.ok 1048576) (hi : inp.length ≤ 1048576) (hm : most ≤ 1048576) (hf : fuel ≤ 1048576) : Fun Try.prog 8 [.t p.tt, .t (T.ints inp), .t (.int most), .t (.int fuel)] (A2 [(Ks p inp most fuel).dd, .t (.bool (C2 p inp most fuel))]) := by
 refine Fun.begin tys Try.func8 Z Z (N := 26) [(0, .t p.tt), (1, .t (T.ints inp)), (2, .t (.int most)), (3, .t (.int fuel))] Z Z (fun w0 G F0 => ?_);refine sG (AV Z Z (AA Z) Z Z (nZ Z (AF tys Z Z (AA Z) Z Z Z (nZ Z (eZ Z (nB (sQ (sG (eZ Z ?_)))))))))
 try refine WO_le (Le.freeze (u := 10) rfl) ?_
 refine nZ Z (eK 2 Z (AM ?_));refine ⟨_, NE p inp most hp hi, rfl, ?_⟩;refine eK 2 Z (kZ [1,2,3,4,8,9,15] Z ?_);refine gB (fun h1 => ?_) (fun h1 => ?_)
 ·
  simp only [HS] at h1;refine xK 3 Z (nB (Ao Z (sG (AH tys Z Z (AA Z) Z Z Z (by kernel_rfl) Z Z Z Z Z Z (sT Z (nZ Z (eZ Z (nB ?_))))))))
  try (refine AQ (Le.nilBox (u := 8) (j := 2) 1 rfl rfl) ?_; refine AU rfl ?_)
  refine rT (tR (eR ?_))
  ·first
   | (refine RS ?_; unfold C2; rw [← Bool.not_eq_true]; simp only [Sl, decide_eq_true_eq]; rintro ⟨g1, g2⟩; first | omega | (simp_all; done) | (simp_all; omega))
 simp only [HS] at h1;refine eZ Z (gY Z (AM ?_));refine ⟨_, Af _ _ _, rfl, ?_⟩;refine xK 2 Z (nB ?_);refine AB Z (fun h2 => ?_) (fun h2 => ?_)
 ·
  simp only [HS] at h2;refine sG (AH tys Z Z (AA Z) Z Z Z (by kernel_rfl) Z Z Z Z Z Z (sT Z (nZ Z (eZ Z (nB ?_)))))
  try (refine AQ (Le.nilBox (u := 8) (j := 2) 1 rfl rfl) ?_; refine AU rfl ?_)
  refine rT (tR (eR ?_))
  ·first
   | (refine RS ?_; unfold C2; rw [← Bool.not_eq_true]; simp only [Sl, decide_eq_true_eq]; rintro ⟨g1, g2⟩; first | omega | (simp_all; done) | (simp_all; omega))
 simp only [HS] at h2;refine AC (tN (sG (eZ Z ?_)))
 try refine WO_le (Le.freeze (u := 21) rfl) ?_
 refine nZ Z (eK 3 Z ?_)
 have hok : C2 p inp most fuel = true := by unfold C2; simp_all <;> omega
 have hasked : Cq p inp most = true := by unfold C2 at hok; simp only [Sl] at hok; exact hok.1
 refine AM ?_;refine ⟨_, Mf p inp most fuel (PL hasked) hp hi hm hf, rfl, ?_⟩;refine kZ [8,9,25] Z (sT Z (nZ Z (eZ Z (nB ?_))))
 try (refine AQ (Le.nilBox (u := 8) (j := 2) 1 rfl rfl) ?_; refine AU rfl ?_)
 refine rT (eR ?_)
 ·first
  | exact R2 hok
open Go.Eng
theorem Js (p : Prog) (hp : p.ok 1048576) : Fun Try.prog 19 [.t p.tt] (A2 [.t (.bool (AS p))]) := by
 refine Fun.begin tys Try.func19 Z Z (N := 5) [(0, .t p.tt)] Z Z (fun w0 G F0 => ?_);refine sG (AV Z Z (AA Z) Z Z (nZ Z (eZ Z (nA (eZ Z ?_)))))
 try refine WO_le (Le.freeze (u := 3) rfl) ?_
 refine nZ Z (AM ?_);refine ⟨_, DA p hp, rfl, ?_⟩;refine eZ Z (nB (rT (eR ?_)))
 ·rfl
/-! ### What a program made less is -/
section
variable {p q : Prog} {inp : List Int} {code value : Int}
end
open Go.Eng
structure Ren (p q : Prog) (to : List Int) (D : Int → Prop) : Prop where
 fn : ∀ n, D n → funcAt q (atI to n) = movF to (funcAt p n)
 ps : ∀ n, D n → atI (paramsL q) (atI to n) = atI (paramsL p) n
 cl : ∀ n, D n → ∀ t, t ∈ (funcAt p n).stmts → ∀ x, x ∈ NQ t → D x
section
variable {p q : Prog} {to inp : List Int} {D : Int → Prop} {K e most : Nat} {full : Prop}
def upM (K e : Nat) (m : Ms) : Ms := ⟨m.used, m.fuel + K, m.deep + e, m.trace⟩
def upX (K e : Nat) (to : List Int) (s : Sx) : Sx := ⟨upM K e s.m, s.vars, s.off.map (atI to), s.res, s.by'⟩
def SimC (full : Prop) (K e : Nat) (d : Nat) (r r' : Int × Int × Option By × Ms) : Prop :=
 ((r.1 < 4 ∨ full) → r' = (r.1, r.2.1, r.2.2.1, upM K e r.2.2.2)) ∧ (r.1 < 4 → r.2.2.2.deep = d)
def SimX (full : Prop) (K e : Nat) (to : List Int) (D : Int → Prop) (d : Nat) (r r' : Int × Int × Sx) : Prop :=
 ((r.1 < 4 ∨ full) → r' = (r.1, r.2.1, upX K e to r.2.2)) ∧ (r.1 < 4 → r.2.2.m.deep = d) ∧ (∀ x, x ∈ r.2.2.off → D x)
structure HB (p q : Prog) (to : List Int) (D : Int → Prop) (K e : Nat) (full : Prop) (L L' : Lev) : Prop where
 stmt : ∀ fn, D fn → ∀ t, (∀ x, x ∈ NQ t → D x) → ∀ s : Sx, (∀ x, x ∈ s.off → D x) → SimX full K e to D s.m.deep (L.stmt (funcAt p fn) t s) (L'.stmt (movF to (funcAt p fn)) (movS to t) (upX K e to s))
 call : ∀ fn, D fn → ∀ args b m, SimC full K e m.deep (L.call fn args b m) (L'.call (atI to fn) args b (upM K e m))
theorem inS_up (m : Ms) : inS inp (upM K e m) = ((inS inp m).1, upM K e (inS inp m).2) := by
 unfold inS upM;dsimp only
 split <;> rfl
theorem Ql (m : Ms) : (inS inp m).2.deep = m.deep := by
 unfold inS; split <;> rfl
theorem P1 (hr : Ren p q to D) {L L' : Lev} (hL : HB p q to D K e full L L') {x : Tok} (hx : x.op = 11 → D x.n) {pile : List Int} {s : Sx} (hs : ∀ y, y ∈ s.off → D y) :
  (((tokX L.cal (paramsL p) inp x pile s).1 < 4 ∨ full) → tokX L'.cal (paramsL q) inp (movT to x) pile (upX K e to s) = ((tokX L.cal (paramsL p) inp x pile s).1, (tokX L.cal (paramsL p) inp x pile s).2.1, (tokX L.cal (paramsL p) inp x pile s).2.2.1, upX K e to (tokX L.cal (paramsL p) inp x pile s).2.2.2)) ∧
  ((tokX L.cal (paramsL p) inp x pile s).1 < 4 → (tokX L.cal (paramsL p) inp x pile s).2.2.2.m.deep = s.m.deep) ∧ (∀ y, y ∈ (tokX L.cal (paramsL p) inp x pile s).2.2.2.off → D y) := by
 by_cases o11 : x.op = 11
 ·have hD := hx o11
  have hc := hL.call x.n hD (pile.drop (pile.length - (atI (paramsL p) x.n).toNat)) none s.m
  have hp := hr.ps x.n hD
  have em : movT to x = ⟨11, atI to x.n⟩ := by rw [movT, if_pos o11, o11]
  have e1 : tokX L.cal (paramsL p) inp x pile s = if (L.call x.n (pile.drop (pile.length - (atI (paramsL p) x.n).toNat)) none s.m).1 = 1 then (0, 0, pile.take (pile.length - (atI (paramsL p) x.n).toNat) ++ [(L.call x.n (pile.drop (pile.length - (atI (paramsL p) x.n).toNat)) none s.m).2.1], { s with m := (L.call x.n (pile.drop (pile.length - (atI (paramsL p) x.n).toNat)) none s.m).2.2.2 }) else ((L.call x.n (pile.drop (pile.length - (atI (paramsL p) x.n).toNat)) none s.m).1, (L.call x.n (pile.drop (pile.length - (atI (paramsL p) x.n).toNat)) none s.m).2.1, pile, { s with m := (L.call x.n (pile.drop (pile.length - (atI (paramsL p) x.n).toNat)) none s.m).2.2.2 }) := by
   simp [tokX, o11, Lev.cal]
   rfl
  have e2 : tokX L'.cal (paramsL q) inp (movT to x) pile (upX K e to s) = if (L'.call (atI to x.n) (pile.drop (pile.length - (atI (paramsL p) x.n).toNat)) none (upM K e s.m)).1 = 1 then (0, 0, pile.take (pile.length - (atI (paramsL p) x.n).toNat) ++ [(L'.call (atI to x.n) (pile.drop (pile.length - (atI (paramsL p) x.n).toNat)) none (upM K e s.m)).2.1], { upX K e to s with m := (L'.call (atI to x.n) (pile.drop (pile.length - (atI (paramsL p) x.n).toNat)) none (upM K e s.m)).2.2.2 }) else ((L'.call (atI to x.n) (pile.drop (pile.length - (atI (paramsL p) x.n).toNat)) none (upM K e s.m)).1, (L'.call (atI to x.n) (pile.drop (pile.length - (atI (paramsL p) x.n).toNat)) none (upM K e s.m)).2.1, pile, { upX K e to s with m := (L'.call (atI to x.n) (pile.drop (pile.length - (atI (paramsL p) x.n).toNat)) none (upM K e s.m)).2.2.2 }) := by
   rw [em]
   simp [tokX, Lev.cal, hp]
   rfl
  rw [e1, e2];generalize L.call x.n (pile.drop (pile.length - (atI (paramsL p) x.n).toNat)) none s.m = r at hc;generalize L'.call (atI to x.n) (pile.drop (pile.length - (atI (paramsL p) x.n).toNat)) none (upM K e s.m) = r' at hc
  obtain ⟨h, v, b, m⟩ := r
  dsimp only [SimC] at hc ⊢
  by_cases h1 : h = 1
  ·rw [if_pos h1]
   have h2 := hc.1 (Or.inl (by omega))
   refine ⟨fun _ => ?_, fun _ => hc.2 (by omega), hs⟩;rw [h2];dsimp only;rw [if_pos h1];rfl
  ·rw [if_neg h1]
   refine ⟨fun hg => ?_, hc.2, hs⟩;rw [hc.1 hg];dsimp only;rw [if_neg h1];rfl
 ·have em : movT to x = x := by rw [movT, if_neg o11]
  rw [em];unfold tokX
  by_cases o1 : x.op = 1
  ·simp only [if_pos o1]; exact ⟨fun _ => by first | rfl | trivial, fun _ => by first | rfl | trivial, hs⟩
  by_cases o2 : x.op = 2
  ·simp only [if_neg o1, if_pos o2]; exact ⟨fun _ => by first | rfl | trivial, fun _ => by first | rfl | trivial, hs⟩
  by_cases o9 : x.op = 9
  ·simp only [if_neg o1, if_neg o2, if_pos o9]
   refine ⟨fun _ => ?_, fun _ => Ql _, hs⟩;show (_, _, pile ++ [(inS inp (upM K e s.m)).1], { upX K e to s with m := (inS inp (upM K e s.m)).2 }) = _;rw [inS_up]; rfl
  by_cases o10 : x.op = 10
  ·simp only [if_neg o1, if_neg o2, if_neg o9, if_pos o10]; exact ⟨fun _ => by first | rfl | trivial, fun _ => by first | rfl | trivial, hs⟩
  simp only [if_neg o1, if_neg o2, if_neg o9, if_neg o10, if_neg o11]
  cases reckS x.op ((pile[pile.length - 2]?).getD 0) ((pile[pile.length - 1]?).getD 0) <;> exact ⟨fun _ => by first | rfl | trivial, fun _ => by first | rfl | trivial, hs⟩
theorem J2 (hr : Ren p q to D) {L L' : Lev} (hL : HB p q to D K e full L L') : ∀ {l : List Tok} {pile : List Int} {s : Sx}, (∀ x, x ∈ Io l → D x) → (∀ y, y ∈ s.off → D y) →
  SimX full K e to D s.m.deep (exprS L.cal (paramsL p) inp l pile s) (exprS L'.cal (paramsL q) inp (l.map (movT to)) pile (upX K e to s))
 | [], pile, s, _, hs => ⟨fun _ => rfl, fun _ => rfl, hs⟩
 | x :: l, pile, s, hl, hs => by
  have hx : x.op = 11 → D x.n := fun h => hl _ (by unfold Io; exact TE.2 ⟨x, List.mem_filter.2 ⟨by simp, by simpa using h⟩, rfl⟩)
  have hl2 : ∀ y, y ∈ Io l → D y := fun y hy => hl y (by
   unfold Io at hy ⊢
   obtain ⟨z, hz, rfl⟩ := TE.1 hy
   have := List.mem_filter.1 hz
   exact TE.2 ⟨z, List.mem_filter.2 ⟨by simp [this.1], this.2⟩, rfl⟩)
  have h1 := P1 (inp := inp) hr hL hx (pile := pile) hs
  rw [TA, exprS, exprS];generalize tokX L.cal (paramsL p) inp x pile s = r at h1;generalize tokX L'.cal (paramsL q) inp (movT to x) pile (upX K e to s) = r' at h1
  obtain ⟨h, v, pl, s2⟩ := r
  dsimp only at h1 ⊢
  by_cases h0 : h = 0
  ·have h2 := h1.1 (Or.inl (by omega))
   rw [h2];simp only [if_pos h0]
   have := J2 hr hL (l := l) (pile := pl) (s := s2) hl2 h1.2.2
   rw [h1.2.1 (by omega)] at this;exact this
  ·simp only [if_neg h0]
   refine ⟨fun hg => ?_, h1.2.1, h1.2.2⟩;rw [h1.1 hg];simp only [if_neg h0]
theorem MW (f : Func) (k : Int) : stmtAt (movF to f) k = movS to (stmtAt f k) := by
 unfold stmtAt movF;dsimp only;rw [List.getElem?_map]
 cases f.stmts[k.toNat]? <;> rfl
theorem MV (hr : Ren p q to D) {fn : Int} (hD : D fn) (k : Int) : ∀ x, x ∈ NQ (stmtAt (funcAt p fn) k) → D x := by
 intro x hx
 cases h : (funcAt p fn).stmts[k.toNat]? with
 | none => unfold stmtAt at hx; rw [h] at hx; simp [NQ, d3, Io] at hx
 | some t => unfold stmtAt at hx; rw [h] at hx; exact hr.cl fn hD t (TJ h) x hx
theorem DD (hr : Ren p q to D) {L L' : Lev} (hL : HB p q to D K e full L L') {fn : Int} (hD : D fn) : ∀ {b : List Int} {s : Sx}, (∀ y, y ∈ s.off → D y) →
  SimX full K e to D s.m.deep (blockS (L.stmt (funcAt p fn)) (funcAt p fn) b s) (blockS (L'.stmt (movF to (funcAt p fn))) (movF to (funcAt p fn)) b (upX K e to s))
 | [], s, hs => ⟨fun _ => rfl, fun _ => rfl, hs⟩
 | k :: b, s, hs => by
  have h1 := hL.stmt fn hD (stmtAt (funcAt p fn) k) (MV hr hD k) s hs
  rw [blockS, blockS, MW];generalize L.stmt (funcAt p fn) (stmtAt (funcAt p fn) k) s = r at h1;generalize L'.stmt (movF to (funcAt p fn)) (movS to (stmtAt (funcAt p fn) k)) (upX K e to s) = r' at h1
  obtain ⟨h, v, s2⟩ := r
  obtain ⟨h1, h2, h3⟩ := h1
  dsimp only at h1 h2 h3 ⊢
  by_cases h0 : h = 0
  ·rw [h1 (Or.inl (by omega))]
   simp only [if_pos h0]
   have := DD hr hL hD (b := b) (s := s2) h3
   rw [h2 (by omega)] at this;exact this
  ·simp only [if_neg h0]
   refine ⟨fun hg => ?_, h2, h3⟩;rw [h1 hg];simp only [if_neg h0]
theorem LD {m : Ms} (h : m.fuel ≠ 0) : A6 (upM K e m) = upM K e (A6 m) := by
 unfold A6 upM;simp only [Ms.mk.injEq, true_and, and_true];omega
theorem SN (hr : Ren p q to D) {L L' : Lev} (hL : HB p q to D K e full L L') {fn : Int} (hD : D fn) {t : Stmt} (ht : ∀ x, x ∈ NQ t → D x) {v : Int} {s : Sx} (hs : ∀ y, y ∈ s.off → D y) :
  SimX full K e to D s.m.deep (doS L (funcAt p fn) t v s) (doS L' (movF to (funcAt p fn)) (movS to t) v (upX K e to s)) := by
 have ek : (movS to t).kind = t.kind := rfl
 have ethn : (movS to t).thn = t.thn := rfl
 have eels : (movS to t).els = t.els := rfl
 unfold doS;rw [ek, ethn, eels]
 by_cases k1 : t.kind = 1
 ·have en : (movS to t).n = t.n := by show movN to t = t.n; rw [movN, if_neg (by omega)]
  rw [if_pos k1, if_pos k1, en];exact ⟨fun _ => rfl, fun _ => rfl, hs⟩
 rw [if_neg k1, if_neg k1]
 by_cases k2 : t.kind = 2
 ·rw [if_pos k2, if_pos k2]; exact ⟨fun _ => rfl, fun _ => rfl, hs⟩
 rw [if_neg k2, if_neg k2]
 by_cases k4 : t.kind = 4
 ·rw [if_pos k4, if_pos k4]; exact ⟨fun _ => rfl, fun _ => rfl, hs⟩
 rw [if_neg k4, if_neg k4]
 by_cases k5 : t.kind = 5
 ·rw [if_pos k5, if_pos k5]; exact ⟨fun _ => rfl, fun _ => rfl, hs⟩
 rw [if_neg k5, if_neg k5]
 by_cases k7 : t.kind = 7
 ·rw [if_pos k7, if_pos k7]
  by_cases v0 : v ≠ 0
  ·rw [if_pos v0, if_pos v0]; exact DD hr hL hD hs
  ·rw [if_neg v0, if_neg v0]; exact DD hr hL hD hs
 rw [if_neg k7, if_neg k7]
 by_cases k8 : t.kind = 8
 ·rw [if_pos k8, if_pos k8]
  by_cases v0 : v = 0
  ·rw [if_pos v0, if_pos v0]; exact ⟨fun _ => rfl, fun _ => rfl, hs⟩
  ·rw [if_neg v0, if_neg v0]
   have h1 := DD hr hL hD (b := t.thn) (s := s) hs
   dsimp only;generalize blockS (L.stmt (funcAt p fn)) (funcAt p fn) t.thn s = r at h1;generalize blockS (L'.stmt (movF to (funcAt p fn))) (movF to (funcAt p fn)) t.thn (upX K e to s) = r' at h1
   obtain ⟨h, w, s2⟩ := r
   obtain ⟨h1, h2, h3⟩ := h1
   dsimp only at h1 h2 h3 ⊢
   by_cases h0 : h = 0
   ·rw [h1 (Or.inl (by omega))]
    simp only [if_pos h0]
    have := hL.stmt fn hD t ht s2 h3
    rw [h2 (by omega)] at this;exact this
   ·simp only [if_neg h0]
    refine ⟨fun hg => ?_, h2, h3⟩;rw [h1 hg];simp only [if_neg h0]
 rw [if_neg k8, if_neg k8];exact ⟨fun _ => rfl, fun _ => rfl, hs⟩
theorem Ng (hr : Ren p q to D) (hf : full → K = 0) {L L' : Lev} (hL : HB p q to D K e full L L') {fn : Int} (hD : D fn) {t : Stmt} (ht : ∀ x, x ∈ NQ t → D x) {s : Sx} (hs : ∀ y, y ∈ s.off → D y) :
  SimX full K e to D s.m.deep (FC L (paramsL p) inp (funcAt p fn) t s) (FC L' (paramsL q) inp (movF to (funcAt p fn)) (movS to t) (upX K e to s)) := by
 unfold FC
 by_cases hz : s.m.fuel = 0
 ·rw [if_pos hz]
  refine ⟨fun hg => ?_, fun h => ?_, hs⟩
  ·rcases hg with hg | hg
   ·exfalso; revert hg; show ¬ ((5 : Int) < 4); omega
   ·have := hf hg
    rw [if_pos (show (upX K e to s).m.fuel = 0 by show s.m.fuel + K = 0; omega)]
  ·exfalso; revert h; show ¬ ((5 : Int) < 4); omega
 rw [if_neg hz, if_neg (show ¬ (upX K e to s).m.fuel = 0 by show ¬ s.m.fuel + K = 0; omega)]
 have ek : (movS to t).kind = t.kind := rfl
 have eb : ({ upX K e to s with m := A6 (upX K e to s).m } : Sx) = upX K e to { s with m := A6 s.m } := by
  show ({ upX K e to s with m := A6 (upM K e s.m) } : Sx) = _;rw [LD hz]; rfl
 rw [ek]
 by_cases k3 : t.kind = 3
 ·rw [if_pos k3, if_pos k3]
  have en : (movS to t).n = atI to t.n := by show movN to t = _; rw [movN, if_pos k3]
  have hn : D t.n := ht _ (TG _ (by rw [d3, if_pos k3]; simp))
  refine ⟨fun _ => ?_, fun _ => rfl, fun x hx => ?_⟩
  ·rw [en]
   show (_, _, ({ upX K e to s with m := A6 (upM K e s.m), off := s.off.map (atI to) ++ [atI to t.n] } : Sx)) = _;rw [LD hz];show _ = (_, _, upX K e to { s with m := A6 s.m, off := s.off ++ [t.n] });unfold upX
   simp
  ·rcases So.1 hx with hx | hx
   ·exact hs x hx
   ·rw [S1] at hx; subst hx; exact hn
 rw [if_neg k3, if_neg k3]
 by_cases k6 : t.kind = 6
 ·rw [if_pos k6, if_pos k6, eb]
  exact ⟨fun _ => rfl, fun _ => rfl, hs⟩
 rw [if_neg k6, if_neg k6, eb]
 have ht2 : ∀ x, x ∈ Io t.ex → D x := fun x hx => ht x (TL _ hx)
 have h1 := J2 (inp := inp) hr hL (l := t.ex) (pile := []) (s := { s with m := A6 s.m }) ht2 hs
 rw [show (movS to t).ex = t.ex.map (movT to) from rfl];dsimp only;generalize exprS L.cal (paramsL p) inp t.ex [] { s with m := A6 s.m } = r at h1;generalize exprS L'.cal (paramsL q) inp (t.ex.map (movT to)) [] (upX K e to { s with m := A6 s.m }) = r' at h1
 obtain ⟨h, w, s2⟩ := r
 obtain ⟨h1, h2, h3⟩ := h1
 dsimp only at h1 h2 h3 ⊢
 have hd : (({ s with m := A6 s.m } : Sx)).m.deep = s.m.deep := rfl
 rw [hd] at h2
 by_cases h0 : h = 0
 ·rw [h1 (Or.inl (by omega))]
  simp only [if_pos h0]
  have := SN hr hL hD ht (v := w) (s := s2) h3
  rw [h2 (by omega)] at this;exact this
 ·simp only [if_neg h0]
  refine ⟨fun hg => ?_, h2, h3⟩;rw [h1 hg];simp only [if_neg h0]
theorem IH {c c' : Int → Option By → Ms → Int × Int × Option By × Ms} (hc : ∀ k, D k → ∀ b m, SimC full K e m.deep (c k b m) (c' (atI to k) b (upM K e m))) : ∀ {l : List Int} {b : By} {m : Ms}, (∀ x, x ∈ l → D x) →
  (((offR c l b m).1 < 4 ∨ full) → offR c' (l.map (atI to)) b (upM K e m) = ((offR c l b m).1, (offR c l b m).2.1, upM K e (offR c l b m).2.2)) ∧ ((offR c l b m).1 < 4 → (offR c l b m).2.2.deep = m.deep)
 | [], b, m, _ => ⟨fun _ => rfl, fun _ => rfl⟩
 | k :: l, b, m, hl => by
  have h1 := hc k (hl k (by simp)) (some b) m
  rw [TA, offR, offR];generalize c k (some b) m = r at h1;generalize c' (atI to k) (some b) (upM K e m) = r' at h1
  obtain ⟨h, v, b2, m2⟩ := r
  obtain ⟨h1, h2⟩ := h1
  dsimp only at h1 h2 ⊢
  by_cases h4 : 4 ≤ h
  ·simp only [if_pos h4]
   refine ⟨fun hg => ?_, fun hh => by omega⟩;rw [h1 hg];simp only [if_pos h4]
  ·rw [h1 (Or.inl (by omega))]
   simp only [if_neg h4]
   have hd := h2 (by omega)
   by_cases he : h = 1
   ·simp only [if_pos he]
    have := IH hc (l := l) (b := b2.getD b) (m := m2) (fun x hx => hl x (by simp [hx]))
    rw [hd] at this;exact this
   ·simp only [if_neg he]
    have := IH hc (l := l) (b := ⟨h, if h = 2 then v else (b2.getD b).pan, (b2.getD b).exd || decide (h = 3)⟩) (m := m2) (fun x hx => hl x (by simp [hx]))
    rw [hd] at this;exact this
theorem PH (hr : Ren p q to D) (hf : full → K = 0 ∧ e = 0) {L L' : Lev} (hL : HB p q to D K e full L L') {fn : Int} (hD : D fn) (args : List Int) (b : Option By) (m : Ms) :
  SimC full K e m.deep (Ez L p most fn args b m) (Ez L' q (most + e) (atI to fn) args b (upM K e m)) := by
 unfold Ez
 by_cases hz : m.fuel = 0
 ·rw [if_pos hz]
  refine ⟨fun hg => ?_, fun h => ?_⟩
  ·rcases hg with hg | hg
   ·exfalso; revert hg; show ¬ ((5 : Int) < 4); omega
   ·have := hf hg
    rw [if_pos (show (upM K e m).fuel = 0 by show m.fuel + K = 0; omega)]
  ·exfalso; revert h; show ¬ ((5 : Int) < 4); omega
 rw [if_neg hz, if_neg (show ¬ (upM K e m).fuel = 0 by show ¬ m.fuel + K = 0; omega)]
 have ed : ((upM K e m).deep = most + e) = (m.deep = most) := by
  show (m.deep + e = most + e) = _;rw [Nat.add_right_cancel_iff]
 simp only [ed]
 by_cases hd : m.deep = most
 ·rw [if_pos hd, if_pos hd]
  refine ⟨fun _ => ?_, fun h => ?_⟩
  ·rw [LD hz]
  ·exfalso; revert h; show ¬ ((4 : Int) < 4); omega
 rw [if_neg hd, if_neg hd]
 have es : startS (funcAt q (atI to fn)) args b (upM K e m) = upX K e to (startS (funcAt p fn) args b m) := by
  rw [hr.fn fn hD];unfold startS upX upM;simp only [Sx.mk.injEq, Ms.mk.injEq, true_and, and_true, List.map_nil];exact ⟨⟨by omega, by omega⟩, rfl⟩
 have h1 := DD hr hL hD (b := (funcAt p fn).body) (s := startS (funcAt p fn) args b m) (fun y hy => absurd hy List.not_mem_nil)
 rw [es, hr.fn fn hD, show (movF to (funcAt p fn)).body = (funcAt p fn).body from rfl];generalize blockS (L.stmt (funcAt p fn)) (funcAt p fn) (funcAt p fn).body (startS (funcAt p fn) args b m) = r at h1;generalize blockS (L'.stmt (movF to (funcAt p fn))) (movF to (funcAt p fn)) (funcAt p fn).body (upX K e to (startS (funcAt p fn) args b m)) = r' at h1
 obtain ⟨h, v, s2⟩ := r
 obtain ⟨h1, h2, h3⟩ := h1
 dsimp only at h1 h2 h3 ⊢
 by_cases h4 : 4 ≤ h
 ·simp only [if_pos h4]
  refine ⟨fun hg => ?_, fun hh => ?_⟩
  ·rw [h1 hg]
   simp only [if_pos h4];rfl
  ·exfalso; revert hh; show ¬ (h < 4); omega
 ·rw [h1 (Or.inl (by omega))]
  simp only [if_neg h4]
  have hd1 : s2.m.deep = m.deep + 1 := h2 (by omega)
  have h5 := IH (c := fun k b m => L.call k [] b m) (c' := fun k b m => L'.call k [] b m) (fun k hk b m => hL.call k hk [] b m) (l := s2.off.reverse) (b := endS h v) (m := s2.m) (fun x hx => h3 x (by simpa using hx))
  have eo : (upX K e to s2).off.reverse = s2.off.reverse.map (atI to) := by
   show (s2.off.map (atI to)).reverse = _;rw [List.map_reverse]
  have em : (upX K e to s2).m = upM K e s2.m := rfl
  rw [eo, em];generalize offR (fun k b m => L.call k [] b m) s2.off.reverse (endS h v) s2.m = o at h5;generalize offR (fun k b m => L'.call k [] b m) (s2.off.reverse.map (atI to)) (endS h v) (upM K e s2.m) = o' at h5
  obtain ⟨h', b2, m2⟩ := o
  obtain ⟨h5, h6⟩ := h5
  dsimp only at h5 h6 ⊢
  by_cases h7 : 4 ≤ h'
  ·simp only [if_pos h7]
   refine ⟨fun hg => ?_, fun hh => ?_⟩
   ·rw [h5 hg]
    simp only [if_pos h7];rfl
   ·exfalso; revert hh; show ¬ (h' < 4); omega
  ·rw [h5 (Or.inl (by omega))]
   simp only [if_neg h7]
   have hd2 := h6 (by omega)
   refine ⟨fun hg => ?_, fun hh => ?_⟩
   ·show (_, _, _, (⟨m2.used, m2.fuel + K, m2.deep + e - 1, m2.trace⟩ : Ms)) = (_, _, _, (⟨m2.used, m2.fuel + K, m2.deep - 1 + e, m2.trace⟩ : Ms))
    rw [show m2.deep + e - 1 = m2.deep - 1 + e by omega];rfl
   ·show m2.deep - 1 = m.deep
    omega
theorem OW (hr : Ren p q to D) (hf : full → K = 0 ∧ e = 0) : ∀ n n', n ≤ n' → (full → n = n') → HB p q to D K e full (lev p inp most n) (lev q inp (most + e) n')
 | 0, n', _, hn => by
  refine ⟨fun fn hD t ht s hs => ⟨fun hg => ?_, fun h => ?_, hs⟩, fun fn hD args b m => ⟨fun hg => ?_, fun h => ?_⟩⟩
  ·rcases hg with hg | hg
   ·exfalso; revert hg; show ¬ ((5 : Int) < 4); omega
   ·rw [← hn hg]; rfl
  ·exfalso; revert h; show ¬ ((5 : Int) < 4); omega
  ·rcases hg with hg | hg
   ·exfalso; revert hg; show ¬ ((5 : Int) < 4); omega
   ·rw [← hn hg]; rfl
  ·exfalso; revert h; show ¬ ((5 : Int) < 4); omega
 | n + 1, 0, h, _ => by omega
 | n + 1, n' + 1, h, hn => by
  have ih := OW hr hf n n' (by omega) (fun hg => by have := hn hg; omega)
  exact ⟨fun fn hD t ht s hs => Ng hr (fun hg => (hf hg).1) ih hD ht hs, fun fn hD args b m => PH hr hf ih hD args b m⟩
theorem Nv (hr : Ren p q to D) (h0 : D 0) (ht : atI to 0 = 0) (fuel : Nat) : Fn q inp most fuel = Fn p inp most fuel := by
 have h := (OW (inp := inp) (most := most) (K := 0) (e := 0) (full := True) hr (fun _ => ⟨rfl, rfl⟩) fuel fuel (S2 _) (fun _ => rfl)).call 0 h0 [] none ⟨0, fuel, 0, []⟩
 rw [ht] at h;exact h.1 (Or.inr trivial)
end
open Go.Eng
section
variable {ps ps' to : List Int} {f : Func}
theorem HX (to : List Int) : ∀ (l : List Stmt) (k : Int), Ad (l.map (movS to)) k = Ad l k
 | [], _ => rfl
 | s :: l, k => by
  rw [TA, Ad, Ad, HX to l];rfl
theorem L1 (to : List Int) (l : List Stmt) : kids (l.map (movS to)) = kids l := by
 funext m
 unfold kids;rw [List.getElem?_map]
 cases l[m.toNat]? <;> rfl
theorem Mx (to : List Int) (f : Func) (n : Int) : Fi (movF to f) n = Fi f n := by
 unfold Fi movF;dsimp only;rw [List.getElem?_map]
 cases f.stmts[n.toNat]? <;> rfl
theorem QY (to : List Int) (f : Func) (b : List Int) : BK (movF to f) b = BK f b := by
 unfold BK movF;dsimp only;rw [L1, Sk]
theorem Ma (to : List Int) (f : Func) : Ag (movF to f) = Ag f := by
 have e1 : DZ (movF to f) = DZ f := by
  unfold DZ movF;dsimp only;rw [Sk]
 have e2 : H3 (movF to f) = H3 f := by
  unfold H3;rw [show (movF to f).stmts = f.stmts.map (movS to) from rfl, HX]
 have e3 : Bt (movF to f).stmts (movF to f).body = Bt f.stmts f.body := by
  rw [show (movF to f).stmts = f.stmts.map (movS to) from rfl, show (movF to f).body = f.body from rfl];unfold Bt MH;rw [L1, Sk]
 have e4 : FV (movF to f) = FV f := by
  unfold FV;rw [show (movF to f).stmts = f.stmts.map (movS to) from rfl, List.all_map]
  congr 1
  funext s
  show CJ (movF to f) (movS to s) = CJ f s;unfold CJ Kv;rw [show (movS to s).kind = s.kind from rfl, show (movS to s).thn = s.thn from rfl, QY];split
  ·congr 1
   funext n
   rw [Mx]
  ·rfl
 unfold Ag;rw [e1, e2, e3, e4]
def Pu (ps ps' to : List Int) (x : Int) : Prop := 0 ≤ atI to x ∧ atI to x < ps'.length ∧ atI ps' (atI to x) = atI ps x
theorem Mo {t : Tok} (h : t.op = 11 → Pu ps ps' to t.n) : As ps' (movT to t) = As ps t := by
 by_cases o : t.op = 11
 ·have := (h o).2.2
  simp [As, movT, o, this]
 ·rw [movT, if_neg o]
  unfold As;rw [if_neg o, if_neg o]
theorem Mw {vars : Int} {t : Tok} (h : t.op = 11 → Pu ps ps' to t.n) (hk : knownT vars ps.length t = true) : knownT vars ps'.length (movT to t) = true := by
 by_cases o : t.op = 11
 ·have := h o
  unfold Pu at this;unfold knownT movT;rw [if_pos o];simp only [o]
  simp
  omega
 ·rw [movT, if_neg o]
  unfold knownT at hk ⊢;rw [if_neg o] at hk ⊢;exact hk
theorem Lc {vars : Int} : ∀ {l : List Tok} {h m : Int} {r : Int × Int}, (∀ t, t ∈ l → t.op = 11 → Pu ps ps' to t.n) → C3 vars ps l h m = some r → C3 vars ps' (l.map (movT to)) h m = some r
 | [], h, m, r, _, hr => hr
 | t :: l, h, m, r, hn, hr => by
  have ht := hn t (by simp)
  rw [C3] at hr;split at hr
  ·rename_i hc
   rw [Sl, decide_eq_true_eq] at hc;rw [TA, C3, Mo ht, Mw ht hc.1, decide_eq_true hc.2, Bool.and_true, if_pos rfl];exact Lc (fun x hx => hn x (by simp [hx])) hr
  ·cases hr
theorem On {vars : Int} {l : List Tok} (hn : ∀ t, t ∈ l → t.op = 11 → Pu ps ps' to t.n) (h : CN vars ps l = true) : CN vars ps' (l.map (movT to)) = true := by
 unfold CN at h ⊢;split at h
 ·rename_i a b e
  rw [Lc hn e, Sk];exact h
 ·cases h
theorem Nk {vars : Int} {s : Stmt} (hn : ∀ x, x ∈ NQ s → Pu ps ps' to x) (h : BJ vars ps s = true) : BJ vars ps' (movS to s) = true := by
 have ht : ∀ t, t ∈ s.ex → t.op = 11 → Pu ps ps' to t.n := fun t h1 h2 => hn _ (TL _ (TE.2 ⟨t, List.mem_filter.2 ⟨h1, by simpa using h2⟩, rfl⟩))
 have hE : CN vars ps s.ex = true → CN vars ps' (s.ex.map (movT to)) = true := On ht
 by_cases k3 : s.kind = 3
 ·have hs := hn s.n (TG _ (by rw [d3, if_pos k3]; simp))
  obtain ⟨q1, q2, q3⟩ := hs
  have h' := h
  unfold BJ Ah at h'
  simp [k3] at h'
  unfold BJ Ah movS movN CM
  simp [k3]
  unfold CM at h';refine ⟨⟨h'.1.1, ⟨q1, by omega⟩, h'.1.2.2⟩, ?_⟩;rw [q3]; exact h'.2
 ·have en : (movS to s).n = s.n := by show movN to s = s.n; rw [movN, if_neg k3]
  have ek : (movS to s).kind = s.kind := rfl
  have ee : (movS to s).ex = s.ex.map (movT to) := rfl
  have el : CM (movS to s) = CM s := rfl
  have e4 : (movS to s).els = s.els := rfl
  unfold BJ Ah at h ⊢;rw [ek, en, ee, el, e4];rw [if_neg k3] at h ⊢;simp only [if_neg k3, Bool.and_true] at h ⊢;rw [Sk]
  revert h
  cases hg : CN vars ps s.ex
  ·repeat' split
   all_goals simp
  ·rw [hE hg]
   exact id
theorem Jv (hn : ∀ x, x ∈ ET f.stmts → Pu ps ps' to x) (h : Bq ps f = true) : Bq ps' (movF to f) = true := by
 unfold Bq at h ⊢;rw [Sl, Sv] at h;rw [Ma, h.1, Bool.true_and, Sv];intro t ht
 obtain ⟨s, hs, rfl⟩ := TE.1 ht
 exact Nk (fun x hx => hn x (TF.2 ⟨s, hs, hx⟩)) (h.2 s hs)
end
theorem L8 {q : Prog} (h1 : 1 ≤ q.funcs.length) (h5 : q.funcs.length ≤ 5) (h0 : atI (paramsL q) 0 = 0) (hf : ∀ f, f ∈ q.funcs → Bq (paramsL q) f = true) : AS q = true := by
 unfold AS;rw [decide_eq_true (by omega : (1 : Int) ≤ q.funcs.length ∧ (q.funcs.length : Int) ≤ 5), decide_eq_true h0, Bool.true_and, Bool.true_and, Sl];refine ⟨?_, Sv.2 hf⟩;unfold BN;rw [decide_eq_true (by rw [BL]; omega), Bool.true_and]
 refine MO fun x hx => ?_
 obtain ⟨f, hfm, rfl⟩ := TE.1 hx
 have h := EJ (hf f hfm)
 unfold Ag DZ at h;simp only [Sl, decide_eq_true_eq] at h;exact h.1.1
theorem Jj {α : Type} (f : α → Bool) : ∀ l : List α, l.length = (l.filter f).length + (l.filter fun x => !f x).length
 | [] => rfl
 | x :: l => by
  have ih := Jj f l
  cases h : f x <;> simp [h] <;> omega
section
variable {p : Prog} {to : List Int}
theorem Om (hg : AS p = true) {n : Int} (h0 : 0 ≤ n) (h1 : n < p.funcs.length) : Bq (paramsL p) (funcAt p n) = true := by
 rw [← Ax (by omega)]; exact DP hg _
theorem Ns {n : Int} {t : Stmt} (ht : t ∈ (funcAt p n).stmts) {x : Int} (hx : x ∈ NQ t) : x ∈ Mb p n := TF.2 ⟨t, ht, hx⟩
theorem Qf (h : Bz p to = true) : AS (CF p to) = true ∧ Ren p (CF p to) to (fun n => 0 ≤ n ∧ n < p.funcs.length) ∧ atI to 0 = 0 := by
 have e : (CF p to).funcs = placed zF to (p.funcs.map (movF to)) to.length := by rw [CF, if_pos h]
 have hperm := Hl h
 unfold Bz at h;simp only [Sl, decide_eq_true_eq] at h
 obtain ⟨⟨⟨⟨hg, h2⟩, h3⟩, h4⟩, h5⟩ := h
 have hin : ∀ x, x ∈ to → 0 ≤ x ∧ x < to.length := fun x hx => by have := G1 h3 x hx; omega
 have hgl := AX hg
 have hlen : (CF p to).funcs.length = p.funcs.length := by rw [hperm.length_eq, Sk]
 have hto : ∀ n : Int, 0 ≤ n → n < p.funcs.length → 0 ≤ atI to n ∧ atI to n < to.length := fun n a b => by
  rw [Ay a (by omega)]; exact hin _ (Ss _)
 have hfn : ∀ n : Int, 0 ≤ n → n < p.funcs.length → funcAt (CF p to) (atI to n) = movF to (funcAt p n) := fun n a b => by
  have h6 := GX (z := zF) (l := p.funcs.map (movF to)) hin h5 (k := to.length) (S2 _) (by rw [Sk]; omega) n.toNat (by omega) (by rw [Sk]; omega) (by omega)
  have h7 : to[n.toNat]'(by omega) = atI to n := (Ay a (by omega)).symm
  rw [h7] at h6;unfold funcAt;rw [e, h6, List.getElem_map, List.getElem?_eq_getElem (by omega)];rfl
 have hps : ∀ n : Int, 0 ≤ n → n < p.funcs.length → atI (paramsL (CF p to)) (atI to n) = atI (paramsL p) n := fun n a b => by
  have := hto n a b
  rw [BM this.1 (by rw [hlen]; omega), BM a b, hfn n a b];rfl
 have hnm : ∀ n : Int, 0 ≤ n → n < p.funcs.length → Pu (paramsL p) (paramsL (CF p to)) to n := fun n a b => by
  have := hto n a b
  exact ⟨this.1, by rw [BL, hlen]; omega, hps n a b⟩
 refine ⟨L8 (by omega) (by omega) ?_ ?_, ⟨fun n hn => hfn n hn.1 hn.2, fun n hn => hps n hn.1 hn.2, fun n hn t ht x hx => D6 hg n x (Ns ht hx)⟩, h4⟩
 ·have := hps 0 (by omega) (by omega)
  rw [h4] at this;rw [this];exact (CV hg).2
 ·intro f hf
  have := hperm.mem_iff.1 hf
  obtain ⟨g, hgm, rfl⟩ := TE.1 this
  obtain ⟨i, hi, rfl⟩ := TH hgm
  refine Jv (ps := paramsL p) (fun x hx => ?_) (DP hg hi)
  have hx2 : x ∈ Mb p i := by
   have : funcAt p (i : Int) = p.funcs[i] := by rw [← Ax (by simpa using hi)]; simp
   rw [Mb, this]; exact hx
  have := D6 hg i x hx2
  exact hnm x this.1 this.2
theorem OC {i : Nat} (hi : i < (AO p 0).length) : atI (BU p) (AO p 0)[i] = i := by
 have hx : (AO p 0)[i] ∈ AO p 0 := Ss _
 have hb := BQ hx
 rw [Ay hb.1 (by rw [CY]; exact hb.2)]
 have h3 := OD (ER p) (fun x => Hy) hi
 simp only [BU, List.getElem_map, List.getElem_range];exact h3
theorem OB (hg : AS p = true) : (0 : Int) ∈ AO p 0 := by
 have hgl := AX hg
 exact (B0 (CI hg) (by omega) (by omega)).2 .refl
theorem rank0 (hg : AS p = true) : atI (BU p) 0 = 0 := by
 have h := OB hg
 have hgl := AX hg
 rw [Ay (by omega) (by rw [CY]; omega)]
 simp [BU, rankQ]
theorem IV (hg : AS p = true) : AS (Bb p) = true ∧ Ren p (Bb p) (BU p) (fun n => n ∈ AO p 0) ∧ atI (BU p) 0 = 0 ∧ (Bb p).funcs.length = (AO p 0).length := by
 have e : (Bb p).funcs = (AO p 0).map fun n => movF (BU p) (funcAt p n) := by rw [Bb, if_pos hg]
 have hlen : (Bb p).funcs.length = (AO p 0).length := by rw [e, Sk]
 have hgl := AX hg
 have hr1 := Mi (CI hg) (a := 0) (by omega) (by omega)
 have hr5 : (AO p 0).length ≤ p.funcs.length := Hg
 have hto : ∀ n, n ∈ AO p 0 → 0 ≤ atI (BU p) n ∧ atI (BU p) n < (AO p 0).length ∧ funcAt (Bb p) (atI (BU p) n) = movF (BU p) (funcAt p n) := fun n hn => by
  obtain ⟨i, hi, rfl⟩ := TH hn
  rw [OC hi];refine ⟨by omega, by omega, ?_⟩
  conv => lhs; unfold funcAt
  rw [e, List.getElem?_map, Int.toNat_natCast, List.getElem?_eq_getElem hi];rfl
 have hps : ∀ n, n ∈ AO p 0 → atI (paramsL (Bb p)) (atI (BU p) n) = atI (paramsL p) n := fun n hn => by
  have h1 := hto n hn
  have h2 := BQ hn
  rw [BM h1.1 (by rw [hlen]; omega), BM h2.1 h2.2, h1.2.2];rfl
 have hnm : ∀ n, n ∈ AO p 0 → Pu (paramsL p) (paramsL (Bb p)) (BU p) n := fun n hn => by
  have := hto n hn
  exact ⟨this.1, by rw [BL, hlen]; omega, hps n hn⟩
 have h00 := rank0 hg
 refine ⟨L8 (by rw [hlen]; exact hr1) (by omega) ?_ ?_, ⟨fun n hn => (hto n hn).2.2, hps, fun n hn t ht x hx => E9 hg hn (Ns ht hx)⟩, h00, hlen⟩
 ·have := hps 0 (OB hg)
  rw [h00] at this;rw [this];exact (CV hg).2
 ·intro f hf
  rw [e] at hf
  obtain ⟨n, hn, rfl⟩ := TE.1 hf
  have hb := BQ hn
  exact Jv (ps := paramsL p) (fun x hx => hnm x (E9 hg hn hx)) (Om hg hb.1 hb.2)
theorem d3_mov (to : List Int) (s : Stmt) : d3 (movS to s) = (d3 s).map (atI to) := by
 unfold d3;rw [show (movS to s).kind = s.kind from rfl];split
 ·rename_i k
  show [movN to s] = _;rw [movN, if_pos k]; rfl
 ·rfl
theorem LR (to : List Int) : ∀ l : List Tok, Io (l.map (movT to)) = (Io l).map (atI to)
 | [] => rfl
 | t :: l => by
  have ih := LR to l
  unfold Io at ih ⊢;rw [TA, TV, TV]
  by_cases o : t.op = 11
  ·rw [if_pos (by simp [movT, o]), if_pos (by simp [o]), TA, TA, TA, ih]
   congr 1
   rw [movT, if_pos o]
  ·rw [if_neg (by rw [movT, if_neg o]; simpa using o), if_neg (by simpa using o), ih]
theorem QB (to : List Int) (l : List Stmt) : ET (l.map (movS to)) = (ET l).map (atI to) := by
 unfold ET;rw [List.flatMap_map, List.map_flatMap]
 congr 1
 funext s
 unfold NQ;rw [d3_mov, S5, show (movS to s).ex = s.ex.map (movT to) from rfl, LR]
theorem O5 (hg : AS p = true) {n : Int} (h : MT (BF p) 0 n) : MT (BF (Bb p)) 0 (atI (BU p) n) := by
 obtain ⟨hgd, hr, h0, hlen⟩ := IV hg
 have hgl := AX hg
 have hgl2 := AX hgd
 induction h with
 | refl => rw [h0]; exact .refl
 | @step b c hb hc ih =>
  refine .step ih ?_
  have hbr : b ∈ AO p 0 := (B0 (CI hg) (by omega) (by omega)).2 hb
  have hcs : c ∈ Mb p b := (mem_setN.1 hc).2
  have hin : atI (BU p) c ∈ Mb (Bb p) (atI (BU p) b) := by
   rw [Mb, hr.fn b hbr, show (movF (BU p) (funcAt p b)).stmts = (funcAt p b).stmts.map (movS (BU p)) from rfl, QB];exact TE.2 ⟨c, hcs, rfl⟩
  have := D6 hgd _ _ hin
  exact mem_setN.2 ⟨⟨this.1, by omega⟩, hin⟩
theorem LA (hg : AS p = true) : CK (Bb p) = [] ∧ (Bb p).funcs.length + (CK p).length = p.funcs.length := by
 obtain ⟨hgd, hr, h0, hlen⟩ := IV hg
 have hgl := AX hg
 have hgl2 := AX hgd
 constructor
 ·rw [CK, if_pos hgd]
  refine List.eq_nil_iff_forall_not_mem.2 fun k hk => ?_
  have hm := mem_pickN.1 hk
  have hnot : ¬ k ∈ AO (Bb p) 0 := by simpa using hm.2
  have hk2 : k.toNat < (AO p 0).length := by omega
  have h1 := OC hk2
  have hl := O5 hg ((B0 (CI hg) (by omega) (by omega)).1 (Ss hk2))
  rw [h1] at hl
  apply hnot
  refine (B0 (CI hgd) (by omega) (by omega)).2 ?_;rw [show k = ((k.toNat : Nat) : Int) from by omega];exact hl
 ·rw [CK, if_pos hg, hlen]
  have e1 : AO p 0 = (Bs p.funcs.length).filter (usedQ p) := by
   show C5 _ _ = _
   exact Kq (fun x a b => by
    rw [Bool.eq_iff_iff];unfold usedQ;rw [decide_eq_true_eq];show OA p.funcs.length (BF p) 0 x = true ↔ x ∈ C5 _ _;rw [mem_pickN]
    exact ⟨fun h => ⟨⟨a, b⟩, h⟩, fun h => h.2⟩)
  have e2 : Cs p = (Bs p.funcs.length).filter (fun x => !usedQ p x) := rfl
  have e3 : (Bs p.funcs.length).length = p.funcs.length := by simp [Bs]
  have h := Jj (usedQ p) (Bs p.funcs.length)
  rw [e3] at h;rw [e1, e2];exact h.symm
end
end Go.Proofs.Ytddfnpiikkilhaa
