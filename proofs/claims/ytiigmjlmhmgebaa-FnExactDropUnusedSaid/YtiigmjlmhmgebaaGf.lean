/- Walks of what is reached from a function. -/
import Derived.Test.YtiigmjlmhmgebaaGe
set_option linter.unusedVariables false
set_option linter.unusedSimpArgs false
set_option maxRecDepth 10000
set_option maxHeartbeats 1000000
namespace Go.Proofs.Ytiigmjlmhmgebaa
open Go.Eng

def reachP (p : Prog) (fn : Int) : List Int := reachL p.funcs.length (callsP p) fn
theorem nodup_len {l : List Int} : ∀ {m : List Int}, l.Nodup → (∀ x, x ∈ l → x ∈ m) → l.length ≤ m.length := by
  induction l with
  | nil => intro m _ _; exact Nat.zero_le _
  | cons x l ih =>
    intro m hn hm
    rw [List.nodup_cons] at hn
    have hx := hm x (List.mem_cons_self ..)
    have := ih (m := m.erase x) hn.2 fun y hy => (List.mem_erase_of_ne fun e => hn.1 (by rw [← e]; exact hy)).2 (hm y (List.mem_cons_of_mem _ hy))
    have h2 := List.length_erase_of_mem hx
    have h3 := List.length_pos_of_mem hx
    rw [List.length_cons]; omega

/-- The functions that have been met, those before k with all that they call. -/
structure Met (N : Nat) (calls : Int → List Int) (fn : Int) (met : List Int) (k : Nat) : Prop where
  nodup : met.Nodup
  lead : ∀ x, x ∈ met → Lead calls fn x
  first : fn ∈ met
  closed : ∀ (i : Nat) (h : i < met.length), i < k → ∀ c, c ∈ calls met[i] → c ∈ met
section
variable {N : Nat} {calls : Int → List Int} {fn : Int} {met : List Int} {k : Nat}
theorem Met.start : Met N calls fn [fn] 0 := ⟨by simp, fun x hx => by rw [List.mem_singleton] at hx; subst hx; exact .refl, List.mem_singleton.2 rfl, fun i _ h => by omega⟩
theorem Met.inN (h : Met N calls fn met k) (hc : InN N calls) (h0 : 0 ≤ fn) (h1 : fn < N) {x : Int} (hx : x ∈ met) : 0 ≤ x ∧ x < N := lead_in hc h0 h1 (h.lead x hx)
theorem Met.len (h : Met N calls fn met k) (hc : InN N calls) (h0 : 0 ≤ fn) (h1 : fn < N) : met.length ≤ N := by
  have := nodup_len (m := upto N) h.nodup fun x hx => mem_upto.2 (h.inN hc h0 h1 hx)
  rwa [upto_len] at this
theorem Met.add (h : Met N calls fn met k) (hk : k ≤ met.length) {x y : Int} (hx : x ∈ met) (hy : y ∈ calls x) (hn : y ∉ met) : Met N calls fn (met ++ [y]) k := by
  refine ⟨?_, fun z hz => ?_, List.mem_append_left _ h.first, fun i hi hik c hcc => ?_⟩
  · rw [List.nodup_append]
    exact ⟨h.nodup, by simp, fun a ha b hb e => hn (by rw [List.mem_singleton] at hb; rw [← hb, ← e]; exact ha)⟩
  · rcases List.mem_append.1 hz with hz | hz
    · exact h.lead z hz
    · rw [List.mem_singleton] at hz; subst hz; exact .step (h.lead x hx) hy
  · rw [List.getElem_append_left (by omega)] at hcc
    exact List.mem_append_left _ (h.closed i (by omega) hik c hcc)
theorem Met.next (h : Met N calls fn met k) (hk : k < met.length) (hc : ∀ c, c ∈ calls met[k] → c ∈ met) : Met N calls fn met (k + 1) :=
  ⟨h.nodup, h.lead, h.first, fun i hi hik => by
    by_cases e : i = k
    · subst e; exact hc
    · exact h.closed i hi (by omega)⟩
theorem Met.done (h : Met N calls fn met k) (hc : InN N calls) (h0 : 0 ≤ fn) (h1 : fn < N) (hN : N ≤ 5) (hk : met.length ≤ k) : setN 5 met = reachL N calls fn := by
  refine rise_ext (pickN_lt ..) (pickN_lt ..) fun x => ?_
  rw [reach_closed (S := fun x => x ∈ met) hc h0 h1 h.first (fun x hx c hcc => by
    obtain ⟨i, hi, rfl⟩ := List.getElem_of_mem hx
    exact h.closed i hi (by omega) c hcc) h.lead]
  rw [mem_setN]
  refine ⟨fun h => h.2, fun hx => ⟨?_, hx⟩⟩
  have := h.inN hc h0 h1 hx
  omega
end
theorem setN_one {fn : Int} (h0 : 0 ≤ fn) (h1 : fn < 5) : [fn] = setN 5 [fn] := by
  refine rise_ext (by simp) (pickN_lt ..) fun x => ?_
  rw [mem_setN]
  exact ⟨fun h => ⟨by rw [List.mem_singleton] at h; subst h; exact ⟨h0, h1⟩, h⟩, fun h => h.2⟩

theorem l17Reach_fun (p : Prog) (fn : Int) (hp : p.ok 1048576) (hg : goodP p = true) (hn0 : 0 ≤ fn) (hn1 : fn < p.funcs.length) : Fun Try.prog 21 [.t p.tt, .t (.int fn)] (tupD [.t (T.ints (reachP p fn))]) := by
  have hgl := goodP_len hg
  have hin := callsP_in hg
  refine Fun.begin tys Try.func21 rfl rfl (N := 44) [(0, .t p.tt), (1, .t (.int fn))] rfl rfl (fun w0 G F0 => ?_)
  refine W_seq ?_
  refine W_region ?_
  refine WO_box rfl rfl (lt_of rfl) rfl rfl ?_
  refine WO_norm rfl ?_
  refine ev ?_
  refine WO_nil ?_
  refine thenQ_n ?_
  refine W_seq ?_
  refine W_region ?_
  refine ev ?_
  refine WO_buildF tys [T.int fn] rfl rfl (lt_of rfl) rfl rfl rfl rfl rfl (by decide) (by repeat (first | exact PartsF.nil' | refine PartsF.cons' rfl rfl ?_)) rfl ?_
  refine WO_norm rfl ?_
  refine ev ?_
  refine WO_nil ?_
  refine thenQ_n ?_
  refine W_seq ?_
  refine W_region ?_
  refine ev ?_
  refine WO_buildSlice tys [T.int fn] rfl rfl (lt_of rfl) rfl rfl rfl rfl rfl (lt_of rfl) (by repeat (first | exact PartsOk.nil' | refine PartsOk.cons' rfl (by repeat (first | exact AbsL.nil' | refine AbsL.v' ?_ | refine AbsL.own' ?_ | refine AbsL.none' ?_)) rfl ?_)) (by first | exact List.nodup_nil | exact nodup1 _ | decide | exact nodupB_sound rfl) rfl (by decide) ?_
  refine WO_norm rfl ?_
  refine ev ?_
  refine WO_nil ?_
  refine thenQ_n ?_
  iterate 2 (refine W_seq ?_)
  refine W_keep [2, 4, 5, 6] rfl ?_
  refine W_region ?_
  refine ev ?_
  refine WO_nil ?_
  refine thenQ_n ?_
  refine W_block ?_
  refine W_loopK (α := Int × Nat × List T × List Int) [2] [2] (fun (x : Int × Nat × List T × List Int) => [(7, .t (.int (x.1))), (6, .sl 13 0 (x.2.1)), (5, .t (T.ints (x.2.2.2)))]) (fun (x : Int × Nat × List T × List Int) => [(13, .L 1 (x.2.2.1))]) (fun (x : Int × Nat × List T × List Int) => ∃ met : List Int, 0 ≤ (x.1) ∧ (x.1) ≤ met.length ∧ (x.2.1) = (x.2.2.1).length ∧ (x.2.2.1) = met.map T.int ∧ (x.2.2.2) = setN 5 met ∧ Met p.funcs.length (callsP p) fn met (x.1).toNat) (fun (x : Int × Nat × List T × List Int) => Int.toNat (5 - (x.1))) (0, 1, [T.int fn], [fn]) ?_ ?_ ?_ (fun x hx => ?_)
  · repeat (first | exact Sub.nil' | refine Sub.cons' rfl ?_ )
  · repeat (first | exact SubM.nil' | refine SubM.cons' rfl ?_ )
  · exact ⟨[fn], by omega, by simp, rfl, rfl, setN_one hn0 (by omega), Met.start⟩
  obtain ⟨k, m, ms, out⟩ := x
  obtain ⟨met, hk0, hk1, hm, hms, hout, hmet⟩ := hx
  try dsimp only at hk0 hk1 hm hms hout hmet ⊢
  refine W_norm rfl ?_
  iterate 2 (refine W_seq ?_)
  refine W_region ?_
  refine ev ?_
  refine ev ?_
  refine evE ?_
  refine ev ?_
  refine WO_nil ?_
  refine thenQ_n ?_
  refine W_cond rfl (fun h1 => ?_) (fun h1 => ?_)
  ·
    try simp only [HS] at h1
    refine W_skip ?_
    refine thenQ_n ?_
    refine W_seq ?_
    refine W_block ?_
    refine W_seq ?_
    refine W_regionD mixed (by kernel_rfl) ?_
    have hmm : ms.length = met.length := by rw [hms, List.length_map]
    have hml := hmet.len hin hn0 hn1
    have hcl := callsP_len p (met[k.toNat]'(by omega))
    have hxm : met[k.toNat]'(by omega) ∈ met := List.getElem_mem _
    have hxi := hmet.inN hin hn0 hn1 hxm
    first | refine QL_evZ tys rfl rfl (lt_of rfl) rfl rfl ?_ | refine evQ ?_ | refine WO_loadMove tys rfl rfl (lt_of rfl) rfl rfl rfl rfl rfl rfl ?_
    refine evQ ?_
    refine QL_norm rfl ?_
    refine evQ ?_
    first | refine QL_idxT tys rfl rfl (lt_of rfl) rfl rfl rfl rfl rfl rfl rfl (by omega) _ (getT _ _ (by omega) (by omega)) ?_ | refine QL_idxS tys rfl rfl (lt_of rfl) rfl rfl rfl rfl rfl rfl rfl rfl (by omega) (by omega) ?_
    refine QL_loadL tys rfl rfl (lt_of rfl) rfl rfl rfl rfl (by rw [hms]; exact getT0 T.int met (by omega) (by omega)) rfl ?_
    refine QL_callF rfl rfl (lt_of rfl) rfl rfl rfl rfl rfl (l17Calls_fun p _ hp hg hxi.1 hxi.2) rfl ?_
    refine evEQ ?_
    refine evQ ?_
    refine QL_norm rfl ?_
    refine QL_nil ?_
    refine thenQ_n ?_
    refine W_block ?_
    refine W_loopK (α := Int × Nat × List T × List Int) [2, 7, 25, 26] [2] (fun (x : Int × Nat × List T × List Int) => [(27, .t (.int (x.1))), (6, .sl 13 0 (x.2.1)), (5, .t (T.ints (x.2.2.2)))]) (fun (x : Int × Nat × List T × List Int) => [(13, .L 1 (x.2.2.1))]) (fun (x : Int × Nat × List T × List Int) => ∃ met2 : List Int, 0 ≤ (x.1) ∧ (x.1) ≤ (callsP p (met[k.toNat]'(by omega))).length ∧ (x.2.1) = (x.2.2.1).length ∧ (x.2.2.1) = met2.map T.int ∧ (x.2.2.2) = setN 5 met2 ∧ Met p.funcs.length (callsP p) fn met2 k.toNat ∧ met.length ≤ met2.length ∧ met2[k.toNat]? = some (met[k.toNat]'(by omega)) ∧ ∀ c, c ∈ (callsP p (met[k.toNat]'(by omega))).take (x.1).toNat → c ∈ met2) (fun (x : Int × Nat × List T × List Int) => Int.toNat ((callsP p (met[k.toNat]'(by omega))).length - (x.1))) (0, m, ms, out) ?_ ?_ ?_ (fun x hx => ?_)
    · repeat (first | exact Sub.nil' | refine Sub.cons' rfl ?_ )
    · repeat (first | exact SubM.nil' | refine SubM.cons' rfl ?_ )
    · exact ⟨met, by omega, by omega, hm, hms, hout, hmet, Nat.le_refl _, List.getElem?_eq_getElem (l := met) (by omega), by simp⟩
    obtain ⟨j, m2, ms2, o2⟩ := x
    obtain ⟨met2, hj0, hj1, hm2, hms2, ho2, hmet2, hle, hat, hcs⟩ := hx
    try dsimp only at hj0 hj1 hm2 hms2 ho2 hmet2 hle hat hcs ⊢
    refine W_norm rfl ?_
    refine W_seq ?_
    refine W_region ?_
    refine ev ?_
    refine WO_nil ?_
    refine thenQ_n ?_
    refine W_seq ?_
    refine W_cond rfl (fun h2 => ?_) (fun h2 => ?_)
    ·
      try simp only [HS] at h2
      refine W_skip ?_
      refine thenQ_n ?_
      refine W_seq ?_
      refine W_block ?_
      refine W_seq ?_
      refine W_region ?_
      first | refine WO_idxT tys rfl rfl (lt_of rfl) rfl rfl rfl rfl rfl rfl rfl (by omega) _ (getT _ _ (by omega) (by omega)) ?_ | refine WO_idxS tys rfl rfl (lt_of rfl) rfl rfl rfl rfl rfl rfl rfl rfl (by omega) (by omega) ?_
      first | refine ev ?_ | refine WO_loadL tys rfl rfl (lt_of rfl) rfl rfl rfl rfl (getT _ _ (by omega) (by omega)) rfl ?_ | refine WO_loadL tys rfl rfl (lt_of rfl) rfl rfl rfl rfl (getT0 _ _ (by omega) (by omega)) rfl ?_
      refine ev ?_
      refine WO_nil ?_
      refine thenQ_n ?_
      refine W_seq ?_
      refine W_region ?_
      refine ev ?_
      refine ev ?_
      refine callB ?_
      refine ⟨_, argI hms2 (l1Has_fun met2 _ (by have := hmet2.len hin hn0 hn1; omega)), rfl, ?_⟩
      refine ev ?_
      refine WO_nil ?_
      refine thenQ_n ?_
      refine W_cond rfl (fun h3 => ?_) (fun h3 => ?_)
      ·
        try simp only [HS] at h3
        refine W_seq ?_
        refine W_keep [2, 5, 6, 7, 9, 25, 26, 27, 28, 29, 30, 31, 32, 33, 34] rfl ?_
        refine W_region ?_
        have hml2 := hmet2.len hin hn0 hn1
        refine ev ?_
        refine ev ?_
        refine WO_buildSlice tys [T.int ((callsP p (met[k.toNat]'(by omega)))[j.toNat]'(by omega))] rfl rfl (lt_of rfl) rfl rfl rfl rfl rfl (lt_of rfl) (by repeat (first | exact PartsOk.nil' | refine PartsOk.cons' rfl (by repeat (first | exact AbsL.nil' | refine AbsL.v' ?_ | refine AbsL.own' ?_ | refine AbsL.none' ?_)) rfl ?_)) (by first | exact List.nodup_nil | exact nodup1 _ | decide | exact nodupB_sound rfl) rfl (by decide) ?_
        refine WO_norm rfl ?_
        first | refine WO_append tys rfl rfl (lt_of rfl) rfl rfl rfl rfl rfl (.own rfl (by first | omega | (simp only [List.length_append]; omega))) rfl (.own rfl (by first | decide | omega)) (by decide) (by simp only [List.length_take, List.length_cons, List.length_nil]; rw [hms2, List.length_map]; omega) (by decide) rfl ?_ | refine WO_append tys rfl rfl (lt_of rfl) rfl rfl rfl rfl rfl .nil rfl (.own rfl (by first | decide | omega)) (by decide) (by simp only [List.length_take, List.length_cons, List.length_nil]; rw [hms2, List.length_map]; omega) (by decide) rfl ?_
        refine WO_norm rfl ?_
        refine ev ?_
        refine WO_nil ?_
        refine thenQ_n ?_
        refine W_region ?_
        refine ev ?_
        refine ev ?_
        refine WO_callF rfl rfl (lt_of rfl) rfl rfl rfl rfl rfl (l1Put_fun _ _ (by rw [ho2]; exact Nat.le_trans (setN_len _ _) (by decide)) (by rw [ho2]; exact setN_rise _ _)) rfl ?_
        refine ev ?_
        refine WO_keep [2, 5, 6, 7, 9, 25, 26, 27, 28, 29, 30, 31, 32, 33, 34, 35, 36, 37, 38, 39, 40, 41] rfl ?_
        refine WO_nil ?_
        refine inBlk_n ?_
        refine thenQ_n ?_
        refine W_region ?_
        refine evI ?_
        refine ev ?_
        refine WO_nil ?_
        refine loopQ_n (_, _, _, _) (by (try dsimp only); repeat (first | exact Sub.nil' | refine Sub.cons' rfl ?_ )) (by (try dsimp only); repeat (first | exact SubM.nil' | refine SubM.cons' rfl ?_ )) ?_ ?_
        · try dsimp only
          have hcj : (callsP p (met[k.toNat]'(by omega)))[j.toNat]'(by omega) ∈ callsP p (met[k.toNat]'(by omega)) := List.getElem_mem _
          have hkm : met[k.toNat]'(by omega) ∈ met2 := List.mem_of_getElem? hat
          first
          | (subst hm2
             refine ⟨met2 ++ [(callsP p (met[k.toNat]'(by omega)))[j.toNat]'(by omega)], by omega, by omega, by simp, by rw [List.take_length, hms2]; simp, ?_, hmet2.add (by omega) hkm hcj h3, by simp; omega, ?_, ?_⟩
             · rw [ho2, setN_put (hin _ _ hcj).1 (by have := (hin _ _ hcj).2; omega)]
             · rw [List.getElem?_append_left (by omega)]; exact hat
             · intro c hc
               rw [take_at hj0 (by omega), List.mem_append, List.mem_singleton] at hc
               rcases hc with hc | rfl
               · exact List.mem_append_left _ (hcs c hc)
               · exact List.mem_append_right _ (List.mem_singleton.2 rfl))
          | (refine ⟨met2, by omega, by omega, hm2, hms2, ho2, hmet2, hle, hat, ?_⟩
             intro c hc
             rw [take_at hj0 (by omega), List.mem_append, List.mem_singleton] at hc
             rcases hc with hc | rfl
             · exact hcs c hc
             · exact h3)
        · (show Int.toNat _ < Int.toNat _); omega
      try simp only [HS] at h3
      refine W_skip ?_
      refine inBlk_n ?_
      refine thenQ_n ?_
      refine W_keep [2, 5, 6, 7, 9, 25, 26, 27, 28, 29, 30, 31, 32, 33, 34] rfl ?_
      refine W_region ?_
      refine evI ?_
      refine ev ?_
      refine WO_nil ?_
      refine loopQ_n (_, _, _, _) (by (try dsimp only); repeat (first | exact Sub.nil' | refine Sub.cons' rfl ?_ )) (by (try dsimp only); repeat (first | exact SubM.nil' | refine SubM.cons' rfl ?_ )) ?_ ?_
      · try dsimp only
        have hcj : (callsP p (met[k.toNat]'(by omega)))[j.toNat]'(by omega) ∈ callsP p (met[k.toNat]'(by omega)) := List.getElem_mem _
        have hkm : met[k.toNat]'(by omega) ∈ met2 := List.mem_of_getElem? hat
        first
        | (subst hm2
           refine ⟨met2 ++ [(callsP p (met[k.toNat]'(by omega)))[j.toNat]'(by omega)], by omega, by omega, by simp, by rw [List.take_length, hms2]; simp, ?_, hmet2.add (by omega) hkm hcj h3, by simp; omega, ?_, ?_⟩
           · rw [ho2, setN_put (hin _ _ hcj).1 (by have := (hin _ _ hcj).2; omega)]
           · rw [List.getElem?_append_left (by omega)]; exact hat
           · intro c hc
             rw [take_at hj0 (by omega), List.mem_append, List.mem_singleton] at hc
             rcases hc with hc | rfl
             · exact List.mem_append_left _ (hcs c hc)
             · exact List.mem_append_right _ (List.mem_singleton.2 rfl))
        | (refine ⟨met2, by omega, by omega, hm2, hms2, ho2, hmet2, hle, hat, ?_⟩
           intro c hc
           rw [take_at hj0 (by omega), List.mem_append, List.mem_singleton] at hc
           rcases hc with hc | rfl
           · exact hcs c hc
           · exact h3)
      · (show Int.toNat _ < Int.toNat _); omega
    try simp only [HS] at h2
    refine W_exit ?_
    refine thenQ_e ?_
    refine loopQ_e ?_
    refine inBlk_y ?_
    refine inBlk_n ?_
    refine thenQ_n ?_
    refine W_region ?_
    refine ev ?_
    refine evI ?_
    refine ev ?_
    refine WO_nil ?_
    refine loopQ_n (_, _, _, _) (by (try dsimp only); repeat (first | exact Sub.nil' | refine Sub.cons' rfl ?_ )) (by (try dsimp only); repeat (first | exact SubM.nil' | refine SubM.cons' rfl ?_ )) ?_ ?_
    · try dsimp only
      have hk : k.toNat < met2.length := by omega
      have he : met2[k.toNat] = met[k.toNat]'(by omega) := by rw [List.getElem?_eq_getElem hk] at hat; exact Option.some.inj hat
      refine ⟨met2, by omega, by omega, hm2, hms2, ho2, ?_⟩
      rw [show (k + 1).toNat = k.toNat + 1 from by omega]
      refine hmet2.next hk ?_
      rw [he]
      rwa [take_end (by omega)] at hcs
    · (show Int.toNat _ < Int.toNat _); omega
  try simp only [HS] at h1
  refine W_exit ?_
  refine thenQ_e ?_
  refine loopQ_e ?_
  refine inBlk_y ?_
  refine thenQ_n ?_
  refine W_seq ?_
  refine W_region ?_
  refine ev ?_
  refine ev ?_
  refine WO_nil ?_
  refine thenQ_n ?_
  refine W_ret ?_
  refine Ends_of (.inr rfl) (ret_okF rfl) (by decide) rfl ?_
  · refine retTI ?_
    rw [hout, hmet.done hin hn0 hn1 (by omega) (by have hmm : ms.length = met.length := (by rw [hms, List.length_map]); omega)]
    rfl

/-- A search: what has been seen, and what is still open. -/
structure Dfs (calls : Int → List Int) (fn : Int) (S ol : List Int) : Prop where
  leadS : ∀ x, x ∈ S → Lead calls fn x
  leadO : ∀ x, x ∈ ol → Lead calls fn x
  first : fn ∈ S ∨ fn ∈ ol
  closed : ∀ x, x ∈ S → ∀ c, c ∈ calls x → c ∈ S ∨ c ∈ ol
section
variable {N : Nat} {calls : Int → List Int} {fn x : Int} {S ol : List Int}
theorem Dfs.skip (h : Dfs calls fn S (ol ++ [x])) (hx : x ∈ S) : Dfs calls fn S ol := by
  have key : ∀ c, c ∈ ol ++ [x] → c ∈ S ∨ c ∈ ol := fun c hc => by
    rcases List.mem_append.1 hc with hc | hc
    · exact .inr hc
    · rw [List.mem_singleton] at hc; subst hc; exact .inl hx
  exact ⟨h.leadS, fun y hy => h.leadO y (List.mem_append_left _ hy), h.first.elim .inl (key fn), fun y hy c hc => (h.closed y hy c hc).elim .inl (key c)⟩
theorem Dfs.take (h : Dfs calls fn S (ol ++ [x])) : Dfs calls fn (S ++ [x]) (ol ++ calls x) := by
  have hx : Lead calls fn x := h.leadO x (List.mem_append_right _ (List.mem_singleton.2 rfl))
  have key : ∀ c, c ∈ S ∨ c ∈ ol ++ [x] → c ∈ S ++ [x] ∨ c ∈ ol ++ calls x := fun c hc => by
    rcases hc with hc | hc
    · exact .inl (List.mem_append_left _ hc)
    · rcases List.mem_append.1 hc with hc | hc
      · exact .inr (List.mem_append_left _ hc)
      · exact .inl (List.mem_append_right _ hc)
  refine ⟨fun y hy => ?_, fun y hy => ?_, key fn h.first, fun y hy c hc => ?_⟩
  · rcases List.mem_append.1 hy with hy | hy
    · exact h.leadS y hy
    · rw [List.mem_singleton] at hy; subst hy; exact hx
  · rcases List.mem_append.1 hy with hy | hy
    · exact h.leadO y (List.mem_append_left _ hy)
    · exact .step hx hy
  · rcases List.mem_append.1 hy with hy | hy
    · exact key c (h.closed y hy c hc)
    · rw [List.mem_singleton] at hy; subst hy; exact .inr (List.mem_append_right _ hc)
theorem Dfs.done (h : Dfs calls fn S []) (hc : InN N calls) (h0 : 0 ≤ fn) (h1 : fn < N) : pickN N (fun x => decide (x ∈ S)) = reachL N calls fn := by
  refine rise_ext (pickN_lt ..) (pickN_lt ..) fun x => ?_
  rw [reach_closed (S := fun x => x ∈ S) hc h0 h1 (h.first.elim id fun h => by cases h) (fun x hx c hcc => (h.closed x hx c hcc).elim id fun h => by cases h) h.leadS]
  rw [mem_pickN, decide_eq_true_eq]
  exact ⟨fun h => h.2, fun hx => ⟨lead_in hc h0 h1 (h.leadS x hx), hx⟩⟩
end
/-- How many are not marked. -/
def unB : List T → Int
  | [] => 0
  | .v (.bool false) :: l => unB l + 1
  | _ :: l => unB l
def unS (N : Nat) (S : List Int) : Nat := ((upto N).filter fun x => decide (x ∉ S)).length
theorem unB_map (S : List Int) : ∀ l : List Int, unB (l.map fun n => T.bool (decide (n ∈ S))) = ((l.filter fun x => decide (x ∉ S)).length : Nat)
  | [] => rfl
  | n :: l => by
    have ih := unB_map S l
    rw [List.map_cons, List.filter_cons]
    by_cases h : n ∈ S
    · simp only [h, decide_true, not_true_eq_false, decide_false]
      exact ih
    · simp only [h, decide_false, not_false_eq_true, decide_true, if_true, List.length_cons]
      show unB _ + 1 = _
      rw [ih]; omega
theorem unB_marks (N : Nat) (S : List Int) : unB (marks N S) = unS N S := unB_map S _
theorem unS_less {N : Nat} {S : List Int} {x : Int} (h0 : 0 ≤ x) (h1 : x < N) (h : x ∉ S) : unS N (S ++ [x]) < unS N S := by
  refine filter_lt (fun y _ hy => ?_) ⟨x, mem_upto.2 ⟨h0, h1⟩, by simpa using h, by simp⟩
  simp only [decide_eq_true_eq] at hy ⊢
  exact fun h => hy (List.mem_append_left _ h)
theorem unS_le (N : Nat) (S : List Int) : unS N S ≤ N := by
  have := List.length_filter_le (fun x => decide (x ∉ S)) (upto N)
  rw [upto_len] at this; exact this
theorem last_get {os : List T} {ol : List Int} {m : Nat} {k : Int} (h : os.take m = ol.map T.int) (hk0 : 0 ≤ k) (hk : k < m) (hm : m ≤ os.length) : ∃ h : k.toNat < ol.length, os[0 + k.toNat]? = some (T.int (ol[k.toNat]'h)) := by
  have hl := congrArg List.length h
  rw [List.length_take, List.length_map] at hl
  refine ⟨by omega, ?_⟩
  have h2 := congrArg (fun l => l[k.toNat]?) h
  simp only [List.getElem?_map] at h2
  rw [List.getElem?_take_of_lt (by omega), List.getElem?_eq_getElem (l := ol) (by omega)] at h2
  rw [Nat.zero_add, h2]; rfl
theorem split_last {ol : List Int} {k : Nat} (h : ol.length = k + 1) : ol = ol.take k ++ [ol[k]'(by omega)] := by
  conv => lhs; rw [← List.take_append_drop k ol]
  rw [List.drop_eq_getElem_cons (by omega), List.drop_of_length_le (by omega)]

theorem reachFrom_fun (p : Prog) (fn : Int) (hp : p.ok 1048576) (hg : goodP p = true) (hn0 : 0 ≤ fn) (hn1 : fn < p.funcs.length) : Fun Try.prog 57 [.t p.tt, .t (.int fn)] (tupD [.own (T.ints (reachP p fn))]) := by
  have hgl := goodP_len hg
  have hin := callsP_in hg
  refine Fun.begin tys Try.func57 rfl rfl (N := 61) [(0, .t p.tt), (1, .t (.int fn))] rfl rfl (fun w0 G F0 => ?_)
  refine W_seq ?_
  refine W_region ?_
  refine WO_box rfl rfl (lt_of rfl) rfl rfl ?_
  refine WO_norm rfl ?_
  refine ev ?_
  refine WO_nil ?_
  refine thenQ_n ?_
  refine W_seq ?_
  refine W_region ?_
  refine ev ?_
  refine ev ?_
  refine evE ?_
  refine WO_make tys (.v (.bool false)) _ rfl rfl (lt_of rfl) rfl rfl rfl rfl rfl (by repeat (first | exact AbsL.nil' | refine AbsL.v' ?_ | refine AbsL.none' ?_)) rfl (by omega) (by decide) ?_
  refine WO_norm rfl ?_
  refine ev ?_
  refine WO_nil ?_
  refine thenQ_n ?_
  refine W_seq ?_
  refine W_keep [1, 2, 4, 5] rfl ?_
  refine W_region ?_
  refine ev ?_
  refine WO_buildSlice tys [T.int fn] rfl rfl (lt_of rfl) rfl rfl rfl rfl rfl (lt_of rfl) (by repeat (first | exact PartsOk.nil' | refine PartsOk.cons' rfl (by repeat (first | exact AbsL.nil' | refine AbsL.v' ?_ | refine AbsL.own' ?_ | refine AbsL.none' ?_)) rfl ?_)) (by first | exact List.nodup_nil | exact nodup1 _ | decide | exact nodupB_sound rfl) rfl (by decide) ?_
  refine WO_norm rfl ?_
  refine ev ?_
  refine WO_nil ?_
  refine thenQ_n ?_
  refine W_seq ?_
  refine W_block ?_
  refine W_loopK (α := Nat × List T × List T) [2] [2] (fun (x : Nat × List T × List T) => [(6, .sl 16 0 (x.1)), (5, .sl 14 0 p.funcs.length)]) (fun (x : Nat × List T × List T) => [(16, .L 1 (x.2.1)), (14, .L 1 (x.2.2))]) (fun (x : Nat × List T × List T) => ∃ S ol : List Int, (x.1) ≤ (x.2.1).length ∧ (x.2.1).take (x.1) = ol.map T.int ∧ (x.2.2) = marks p.funcs.length S ∧ Dfs (callsP p) fn S ol ∧ (x.1) + 5 * unS p.funcs.length S ≤ 26) (fun (x : Nat × List T × List T) => Int.toNat (6 * unB (x.2.2) + (x.1))) (1, [T.int fn], List.replicate p.funcs.length (T.bool false)) ?_ ?_ ?_ (fun x hx => ?_)
  · repeat (first | exact Sub.nil' | refine Sub.cons' rfl ?_ )
  · repeat (first | exact SubM.nil' | refine SubM.cons' rfl ?_ )
  · refine ⟨[], [fn], by simp, rfl, marks_nil _, ⟨by simp, ?_, .inr (by simp), by simp⟩, ?_⟩
    · intro x hx; rw [List.mem_singleton] at hx; subst hx; exact .refl
    · have := unS_le p.funcs.length []; show 1 + _ ≤ _; omega
  obtain ⟨m, os, bs⟩ := x
  obtain ⟨S, ol, hml, hos, hbs, hd, hsz⟩ := hx
  try dsimp only at hml hos hbs hd hsz ⊢
  refine W_norm rfl ?_
  iterate 2 (refine W_seq ?_)
  refine W_region ?_
  refine ev ?_
  refine evE ?_
  refine ev ?_
  refine WO_nil ?_
  refine thenQ_n ?_
  refine W_cond rfl (fun h1 => ?_) (fun h1 => ?_)
  ·
    try simp only [HS] at h1
    refine W_skip ?_
    refine thenQ_n ?_
    refine W_block ?_
    refine W_seq ?_
    refine W_region ?_
    refine ev ?_
    refine ev ?_
    refine evE ?_
    refine evI ?_
    obtain ⟨hxl, hxe⟩ := last_get hos (k := (m : Int) - 1) (by omega) (by omega) hml
    have hxi := lead_in hin hn0 hn1 (hd.leadO _ (List.getElem_mem hxl))
    have hos' : ol.length = ((m : Int) - 1).toNat + 1 := by have := congrArg List.length hos; simp only [List.length_take, List.length_map] at this; omega
    have hsp := split_last hos'
    have hbl : bs.length = p.funcs.length := by rw [hbs, marks_len]
    have htk : os.take (((m : Int) - 1).toNat - (0 : Int).toNat) = (ol.take ((m : Int) - 1).toNat).map T.int := by
      have := congrArg (List.take ((m : Int) - 1).toNat) hos
      rw [List.take_take, Nat.min_eq_left (by omega)] at this
      rw [List.map_take, ← this]; rfl
    have hfs : setN 5 (seqL (p.funcs[(ol[((m : Int) - 1).toNat]'hxl).toNat]'(by omega)).stmts) = callsP p (ol[((m : Int) - 1).toNat]'hxl) := by rw [callsP, seqP, ← funcAt_at (by omega)]
    have hcl := callsP_len p (ol[((m : Int) - 1).toNat]'hxl)
    have hd' : Dfs (callsP p) fn S (ol.take ((m : Int) - 1).toNat ++ [ol[((m : Int) - 1).toNat]'hxl]) := by rw [← hsp]; exact hd
    first | refine WO_idxT tys rfl rfl (lt_of rfl) rfl rfl rfl rfl rfl rfl rfl (by omega) _ (getT _ _ (by omega) (by omega)) ?_ | refine WO_idxS tys rfl rfl (lt_of rfl) rfl rfl rfl rfl rfl rfl rfl rfl (by omega) (by omega) ?_
    refine WO_loadL tys rfl rfl (lt_of rfl) rfl rfl rfl rfl hxe rfl ?_
    refine WO_keep [2, 5, 6, 17, 18, 19, 20, 21, 22, 23, 24, 25] rfl ?_
    refine ev ?_
    refine WO_nil ?_
    refine thenQ_n ?_
    refine W_seq ?_
    refine W_region ?_
    refine ev ?_
    refine ev ?_
    refine evE ?_
    refine evI ?_
    first | refine WO_sliceNil tys rfl rfl (lt_of rfl) rfl rfl rfl rfl rfl rfl rfl ?_ | refine WO_sliceT tys rfl rfl (lt_of rfl) rfl rfl rfl rfl rfl rfl rfl rfl (by first | omega | (simp only [List.length_map]; omega)) (by first | omega | (simp only [List.length_map]; omega)) (by first | omega | (simp only [List.length_map]; omega)) ?_ | refine WO_sliceS tys rfl rfl (lt_of rfl) rfl rfl rfl rfl rfl rfl rfl rfl rfl (by omega) (by omega) (by omega) ?_
    refine ev ?_
    refine WO_nil ?_
    refine thenQ_n ?_
    refine W_seq ?_
    refine W_keep [2, 5, 6, 7, 17, 18, 19, 20, 21, 22, 23, 24, 25, 26, 27, 28, 29, 30] rfl ?_
    refine W_region ?_
    refine ev ?_
    refine ev ?_
    first | refine WO_idxT tys rfl rfl (lt_of rfl) rfl rfl rfl rfl rfl rfl rfl (by omega) _ (getT _ _ (by omega) (by omega)) ?_ | refine WO_idxS tys rfl rfl (lt_of rfl) rfl rfl rfl rfl rfl rfl rfl rfl (by omega) (by omega) ?_
    refine WO_loadL tys rfl rfl (lt_of rfl) rfl rfl rfl rfl (by rw [hbs]; exact marks_get hxi.1 hxi.2) rfl ?_
    refine ev ?_
    refine WO_nil ?_
    refine thenQ_n ?_
    refine W_cond rfl (fun h2 => ?_) (fun h2 => ?_)
    ·
      try simp only [HS] at h2
      refine W_seq ?_
      refine W_region ?_
      refine ev ?_
      refine ev ?_
      first | refine WO_idxT tys rfl rfl (lt_of rfl) rfl rfl rfl rfl rfl rfl rfl (by omega) _ (getT _ _ (by omega) (by omega)) ?_ | refine WO_idxS tys rfl rfl (lt_of rfl) rfl rfl rfl rfl rfl rfl rfl rfl (by omega) (by omega) ?_
      first | refine WO_storeE tys (T.bool true) rfl rfl rfl rfl rfl rfl (by first | exact Nat.zero_add _ | rfl) (by omega) rfl (by repeat (first | exact AbsL.nil' | refine AbsL.v' ?_ | refine AbsL.own' ?_)) rfl rfl rfl ?_ | refine WO_storeL tys _ rfl rfl rfl rfl rfl rfl (getT _ _ (by omega) (by omega)) rfl (by repeat (first | exact AbsL.nil' | refine AbsL.v' ?_ | refine AbsL.own' ?_)) rfl (by decide) (by decide) ?_
      refine WO_norm rfl ?_
      refine WO_keep [2, 5, 6, 7, 17, 18, 19, 20, 21, 22, 23, 24, 25, 26, 27, 28, 29, 30, 31, 32, 33, 34, 35, 36, 37, 38] rfl ?_
      refine WO_nil ?_
      refine thenQ_n ?_
      refine W_region ?_
      iterate 4 (refine ev ?_)
      first | refine WO_idxT tys rfl rfl (lt_of rfl) rfl rfl rfl rfl rfl rfl rfl (by omega) _ (getT _ _ (by omega) (by omega)) ?_ | refine WO_idxS tys rfl rfl (lt_of rfl) rfl rfl rfl rfl rfl rfl rfl rfl (by omega) (by omega) ?_
      first | (refine ev ?_; try refine WO_le (Le.freeze (u := 44) rfl) ?_) | refine WO_loadL tys rfl rfl (lt_of rfl) rfl rfl rfl rfl (getT _ _ (by omega) (by omega)) rfl ?_ | refine WO_loadL tys rfl rfl (lt_of rfl) rfl rfl rfl rfl (getT0 _ _ (by omega) (by omega)) rfl ?_
      refine WO_norm rfl ?_
      refine callB ?_
      refine ⟨_, callsOf_fun _ (func_ok hp _) (by have := seqP_ok hg (ol[((m : Int) - 1).toNat]'hxl); unfold seqP at this; rw [← funcAt_at (by omega)] at this; intro x hx; have := this x hx; omega), rfl, ?_⟩
      refine WO_le (Le.adoptE (u := 45) 45 rfl (by first | exact lenN | exact rfl)) ?_
      refine WO_norm rfl ?_
      first | refine WO_append tys rfl rfl (lt_of rfl) rfl rfl rfl rfl rfl (.own rfl (by first | omega | (simp only [List.length_append]; omega))) rfl (.own rfl (by simp)) (by decide) (by have := setN_len 5 (seqL (p.funcs[(ol[((m : Int) - 1).toNat]'hxl).toNat]'(by omega)).stmts); simp only [List.length_take, List.length_map]; omega) (by decide) rfl ?_ | refine WO_append tys rfl rfl (lt_of rfl) rfl rfl rfl rfl rfl .nil rfl (.own rfl (by simp)) (by decide) (by have := setN_len 5 (seqL (p.funcs[(ol[((m : Int) - 1).toNat]'hxl).toNat]'(by omega)).stmts); simp only [List.length_take, List.length_map]; omega) (by decide) rfl ?_
      refine WO_norm rfl ?_
      refine ev ?_
      refine WO_keep [2, 5, 6, 7, 17, 18, 19, 20, 21, 22, 23, 24, 25, 26, 27, 28, 29, 30, 31, 32, 33, 34, 35, 36, 37, 38, 39, 40, 41, 42, 43, 44, 45, 46] rfl ?_
      refine WO_nil ?_
      refine inBlk_n ?_
      refine loopQ_n (_, _, _) (by (try dsimp only); repeat (first | exact Sub.nil' | refine Sub.cons' rfl ?_ )) (by (try dsimp only); repeat (first | exact SubM.nil' | refine SubM.cons' rfl ?_ )) ?_ ?_
      · try dsimp only
        first
        | (refine ⟨S ++ [ol[((m : Int) - 1).toNat]'hxl], ol.take ((m : Int) - 1).toNat ++ callsP p (ol[((m : Int) - 1).toNat]'hxl), by simp, ?_, by rw [hbs, marks_set hxi.1 hxi.2], hd'.take, ?_⟩
           · rw [take_app, htk, List.take_of_length_le (l := (setN 5 _).map T.int) (by simp), hfs, List.map_append]
           · have hu := unS_less hxi.1 hxi.2 h2
             rw [hfs]
             simp only [List.length_take, List.length_map]
             omega)
        | exact ⟨S, ol.take ((m : Int) - 1).toNat, by omega, htk, hbs, hd'.skip h2, by omega⟩
      · dsimp only
        first
        | (have hu := unS_less hxi.1 hxi.2 h2
           have e1 : unB bs = (unS p.funcs.length S : Nat) := by rw [hbs, unB_marks]
           have e2 : unB (bs.set (ol[((m : Int) - 1).toNat]'hxl).toNat (T.bool true)) = (unS p.funcs.length (S ++ [ol[((m : Int) - 1).toNat]'hxl]) : Nat) := by rw [hbs, marks_set hxi.1 hxi.2, unB_marks]
           rw [e1, e2, hfs]
           simp only [List.length_take, List.length_map]
           omega)
        | (rw [hbs, unB_marks]; omega)
    try simp only [HS] at h2
    refine W_skip ?_
    refine inBlk_n ?_
    refine loopQ_n (_, _, _) (by (try dsimp only); repeat (first | exact Sub.nil' | refine Sub.cons' rfl ?_ )) (by (try dsimp only); repeat (first | exact SubM.nil' | refine SubM.cons' rfl ?_ )) ?_ ?_
    · try dsimp only
      first
      | (refine ⟨S ++ [ol[((m : Int) - 1).toNat]'hxl], ol.take ((m : Int) - 1).toNat ++ callsP p (ol[((m : Int) - 1).toNat]'hxl), by simp, ?_, by rw [hbs, marks_set hxi.1 hxi.2], hd'.take, ?_⟩
         · rw [take_app, htk, List.take_of_length_le (l := (setN 5 _).map T.int) (by simp), hfs, List.map_append]
         · have hu := unS_less hxi.1 hxi.2 h2
           rw [hfs]
           simp only [List.length_take, List.length_map]
           omega)
      | exact ⟨S, ol.take ((m : Int) - 1).toNat, by omega, htk, hbs, hd'.skip h2, by omega⟩
    · dsimp only
      first
      | (have hu := unS_less hxi.1 hxi.2 h2
         have e1 : unB bs = (unS p.funcs.length S : Nat) := by rw [hbs, unB_marks]
         have e2 : unB (bs.set (ol[((m : Int) - 1).toNat]'hxl).toNat (T.bool true)) = (unS p.funcs.length (S ++ [ol[((m : Int) - 1).toNat]'hxl]) : Nat) := by rw [hbs, marks_set hxi.1 hxi.2, unB_marks]
         rw [e1, e2, hfs]
         simp only [List.length_take, List.length_map]
         omega)
      | (rw [hbs, unB_marks]; omega)
  try simp only [HS] at h1
  refine W_exit ?_
  refine thenQ_e ?_
  refine loopQ_e ?_
  refine inBlk_y ?_
  refine thenQ_n ?_
  refine W_seq ?_
  refine W_region ?_
  refine ev ?_
  refine WO_le (Le.nilOwn (u := 8) 1 rfl) ?_
  refine WO_le (Le.adoptE (u := 8) 8 rfl rfl) ?_
  refine WO_norm rfl ?_
  refine WO_nil ?_
  refine thenQ_n ?_
  iterate 2 (refine W_seq ?_)
  refine W_region ?_
  refine ev ?_
  refine evE ?_
  refine ev ?_
  refine WO_nil ?_
  refine thenQ_n ?_
  refine W_block ?_
  refine W_loopK (α := Int × Nat × List T) [47, 48] [14] (fun (x : Int × Nat × List T) => [(49, .t (.int (x.1))), (8, .sl 8 0 (x.2.1))]) (fun (x : Int × Nat × List T) => [(8, .L 1 (x.2.2))]) (fun (x : Int × Nat × List T) => 0 ≤ (x.1) ∧ (x.1) ≤ p.funcs.length ∧ (x.2.1) = (x.2.2).length ∧ (x.2.2).length ≤ (x.1) ∧ (x.2.2) = (pickT p.funcs.length (fun x => decide (x ∈ S)) (x.1)).map T.int) (fun (x : Int × Nat × List T) => Int.toNat (p.funcs.length - (x.1))) (0, 0, []) ?_ ?_ ?_ (fun x hx => ?_)
  · repeat (first | exact Sub.nil' | refine Sub.cons' rfl ?_ )
  · repeat (first | exact SubM.nil' | refine SubM.cons' rfl ?_ )
  · exact ⟨by omega, by omega, rfl, by simp, rfl⟩
  obtain ⟨q, m2, ws⟩ := x
  obtain ⟨hq0, hq1, hm2, hwl, hws⟩ := hx
  try dsimp only at hq0 hq1 hm2 hwl hws ⊢
  refine W_norm rfl ?_
  refine W_seq ?_
  refine W_region ?_
  refine ev ?_
  refine WO_nil ?_
  refine thenQ_n ?_
  refine W_seq ?_
  refine W_cond rfl (fun h2 => ?_) (fun h2 => ?_)
  ·
    try simp only [HS] at h2
    refine W_skip ?_
    refine thenQ_n ?_
    refine W_seq ?_
    refine W_block ?_
    refine W_seq ?_
    refine W_region ?_
    refine ev ?_
    first | refine WO_idxT tys rfl rfl (lt_of rfl) rfl rfl rfl rfl rfl rfl rfl (by omega) _ (getT _ _ (by omega) (by omega)) ?_ | refine WO_idxS tys rfl rfl (lt_of rfl) rfl rfl rfl rfl rfl rfl rfl rfl (by omega) (by omega) ?_
    refine WO_loadL tys rfl rfl (lt_of rfl) rfl rfl rfl rfl (by rw [hbs]; exact marks_get hq0 (by omega)) rfl ?_
    refine ev ?_
    refine ev ?_
    refine WO_nil ?_
    refine thenQ_n ?_
    refine W_seq ?_
    refine W_region ?_
    refine ev ?_
    refine WO_nil ?_
    refine thenQ_n ?_
    refine W_cond rfl (fun h3 => ?_) (fun h3 => ?_)
    ·
      try simp only [HS] at h3
      refine W_keep [8, 9, 10, 47, 48, 49, 50, 51, 52, 53, 54] rfl ?_
      refine W_region ?_
      refine ev ?_
      refine ev ?_
      refine WO_buildSlice tys [T.int q] rfl rfl (lt_of rfl) rfl rfl rfl rfl rfl (lt_of rfl) (by repeat (first | exact PartsOk.nil' | refine PartsOk.cons' rfl (by repeat (first | exact AbsL.nil' | refine AbsL.v' ?_ | refine AbsL.own' ?_ | refine AbsL.none' ?_)) rfl ?_)) (by first | exact List.nodup_nil | exact nodup1 _ | decide | exact nodupB_sound rfl) rfl (by decide) ?_
      refine WO_norm rfl ?_
      first | refine WO_append tys rfl rfl (lt_of rfl) rfl rfl rfl rfl rfl (.own rfl (by first | omega | (simp only [List.length_append]; omega))) rfl (.own rfl (by first | decide | omega)) (by decide) (by simp only [List.length_take, List.length_cons, List.length_nil]; omega) (by decide) rfl ?_ | refine WO_append tys rfl rfl (lt_of rfl) rfl rfl rfl rfl rfl .nil rfl (.own rfl (by first | decide | omega)) (by decide) (by simp only [List.length_take, List.length_cons, List.length_nil]; omega) (by decide) rfl ?_
      refine WO_norm rfl ?_
      refine ev ?_
      refine WO_nil ?_
      refine inBlk_n ?_
      refine thenQ_n ?_
      refine W_region ?_
      refine evI ?_
      refine ev ?_
      refine WO_nil ?_
      refine loopQ_n (_, _, _) (by (try dsimp only); repeat (first | exact Sub.nil' | refine Sub.cons' rfl ?_ )) (by (try dsimp only); repeat (first | exact SubM.nil' | refine SubM.cons' rfl ?_ )) ?_ ?_
      · try dsimp only
        subst hm2
        first
        | (refine ⟨by omega, by omega, by simp, by simp; omega, ?_⟩; rw [List.take_length, hws, pickT_at hq0 (by omega), if_pos (by simpa using h3), List.map_append]; rfl)
        | (refine ⟨by omega, by omega, rfl, by omega, ?_⟩; rw [hws, pickT_at hq0 (by omega), if_neg (by simpa using h3), List.append_nil]; done)
      · (show Int.toNat _ < Int.toNat _); omega
    try simp only [HS] at h3
    refine W_skip ?_
    refine inBlk_n ?_
    refine thenQ_n ?_
    refine W_keep [8, 9, 10, 47, 48, 49, 50, 51, 52, 53, 54] rfl ?_
    refine W_region ?_
    refine evI ?_
    refine ev ?_
    refine WO_nil ?_
    refine loopQ_n (_, _, _) (by (try dsimp only); repeat (first | exact Sub.nil' | refine Sub.cons' rfl ?_ )) (by (try dsimp only); repeat (first | exact SubM.nil' | refine SubM.cons' rfl ?_ )) ?_ ?_
    · try dsimp only
      subst hm2
      first
      | (refine ⟨by omega, by omega, by simp, by simp; omega, ?_⟩; rw [List.take_length, hws, pickT_at hq0 (by omega), if_pos (by simpa using h3), List.map_append]; rfl)
      | (refine ⟨by omega, by omega, rfl, by omega, ?_⟩; rw [hws, pickT_at hq0 (by omega), if_neg (by simpa using h3), List.append_nil]; done)
    · (show Int.toNat _ < Int.toNat _); omega
  try simp only [HS] at h2
  refine W_exit ?_
  refine thenQ_e ?_
  refine loopQ_e ?_
  refine inBlk_y ?_
  refine thenQ_n ?_
  refine W_seq ?_
  refine W_region ?_
  refine ev ?_
  refine ev ?_
  refine WO_nil ?_
  refine thenQ_n ?_
  refine W_le (Le.gather (u := 4) (id := 8) rfl rfl (by omega)) ?_
  refine W_ret ?_
  refine Ends_of (.inr rfl) (ret_okF rfl) (by decide) rfl ?_
  · have hol : ol = [] := List.eq_nil_of_length_eq_zero (by have := congrArg List.length hos; simp only [List.length_take, List.length_map] at this; omega)
    subst hol
    rw [hm2, List.take_length, hws]; refine retOwnI ?_; rw [pickT_end (by omega), hd.done hin hn0 hn1]
    rfl

end Go.Proofs.Ytiigmjlmhmgebaa
