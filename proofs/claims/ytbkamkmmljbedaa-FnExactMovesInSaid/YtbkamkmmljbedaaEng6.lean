/- The abstract machine's rules for parts of slices, for what is owned being told anew, for calls, and for whole functions. -/
import Derived.Test.YtbkamkmmljbedaaEng5
set_option linter.unusedVariables false
set_option linter.unusedSimpArgs false
namespace Go.Eng
open Go.RowKit

section
variable {P : Program} {c : Ctx} {s : St} {Q : Exit → St → Prop} {ops : Array Oper} {rest : List Oper} {o : Oper}

/-! ### Parts of slices -/

def optI (fr : List (Nat × D)) : Option Operand → Int → Option Int
  | none, d => some d
  | some x, _ => match opd fr x with
    | .t (.v (.int .i64 k)) => some k
    | _ => none

theorem run_bound {v : Value} {x : Int} {y : Nat} (hv : v = .int .i64 x) (h0 : 0 ≤ x) (h1 : x ≤ y) (code : BoundsCode) (w : World) : (Instr.sliceBound v y code).run P w = .ok x.toNat w := by
  subst hv
  simp only [Instr.sliceBound, asIntOf, Sem.run_bind, Sem.run_pure, Result.andThen_ok, Sem.run_ite]
  rw [if_pos ⟨h0, h1⟩]

theorem optI_val {a : Act} {w : World} {F β fb mb ow} (hi : Conc c s a w F β fb mb ow) {x : Operand} {d k : Int} (h : optI s.fr (some x) d = some k) : a.eval x = .int .i64 k := by
  simp only [optI] at h
  split at h
  · rename_i hx
    cases h
    obtain ⟨bs, hr, _⟩ := hi.opd x
    rw [hx] at hr
    exact relD_t hr
  · cases h

theorem run_slice {ty e : Nat} {ti te : TI} (ht : ti.ok P ty) (hk : ti.kind = .slice e) (he : te.ok P e) {a : Act} {w : World} {F β fb mb ow} (hi : Conc c s a w F β fb mb ow) {lo hi' : Option Operand} {i j : Int} {ad : Option Addr} {len cap : Nat}
    (hlo : optI s.fr lo 0 = some i) (hhi : optI s.fr hi' len = some j) (h0 : 0 ≤ i) (h1 : i ≤ j) (h2 : j ≤ len) (h3 : len ≤ cap) :
    (Instr.sliceAt ty (.slice ad len cap) (lo.map a.eval) (hi'.map a.eval) none).run P w =
      .ok (.slice (if cap = i.toNat then ad else ad.map (·.add (i.toNat * te.size))) (j.toNat - i.toNat) (cap - i.toNat)) w := by
  obtain ⟨_, q⟩ := ht
  rw [hk] at q
  cases hi' with
  | none =>
    cases hhi
    cases lo with
    | none =>
      cases hlo
      simp [Instr.sliceAt, run_underlying q.2, Instr.slice, Instr.sliceBounds, run_sizeOf he]
    | some x =>
      have hb := fun code => run_bound (P := P) (optI_val hi hlo) h0 h1 code w
      simp [Instr.sliceAt, run_underlying q.2, Instr.slice, Instr.sliceBounds, run_sizeOf he, hb]
  | some y =>
    have hb' := fun code => run_bound (P := P) (optI_val hi hhi) (by omega) (show j ≤ (cap : Int) by omega) code w
    cases lo with
    | none =>
      cases hlo
      simp [Instr.sliceAt, run_underlying q.2, Instr.slice, Instr.sliceBounds, run_sizeOf he, hb']
    | some x =>
      have hb := fun code => run_bound (P := P) (optI_val hi hlo) h0 (show i ≤ (j.toNat : Int) by omega) code w
      simp [Instr.sliceAt, run_underlying q.2, Instr.slice, Instr.sliceBounds, run_sizeOf he, hb, hb']

theorem flat_drop {n : Nat} {xs : List T} (hw : ∀ x, x ∈ xs → (T.cells x).length = n) (m : Nat) : (xs.flatMap T.cells).drop (m * n) = (xs.drop m).flatMap T.cells := by
  rcases Nat.lt_or_ge xs.length m with h | h
  · rw [List.drop_of_length_le (show xs.length ≤ m by omega), List.drop_of_length_le]
    · rfl
    · rw [flat_length hw]
      exact Nat.mul_le_mul_right n (by omega)
  · have e : xs.flatMap T.cells = (xs.take m).flatMap T.cells ++ (xs.drop m).flatMap T.cells := by rw [← List.flatMap_append, List.take_append_drop]
    have hl : ((xs.take m).flatMap T.cells).length = m * n := by
      rw [flat_length fun x hx => hw x (List.mem_of_mem_take hx), List.length_take, Nat.min_eq_left h]
    rw [e, ← hl, List.drop_left]

theorem WO_sliceT {Γ : Tys} (hΓ : Γ.ok P) {ty e t n : Nat} {x : Operand} {lo hi' : Option Operand} {ti te : TI} {l : List T} {i j : Int} (hg : o.guard = none) (hd : o.dst = some t) (ht : t < c.n) (ho : o.op = .slice ty x lo hi' none)
    (h1 : tyOf Γ ty = some ti) (h2 : ti.kind = .slice e) (h3 : tyOf Γ e = some te) (h4 : te.size = n) (hx : opd s.fr x = .t (.list n l)) (hlo : optI s.fr lo 0 = some i) (hhi : optI s.fr hi' l.length = some j)
    (h5 : 0 ≤ i) (h6 : i ≤ j) (h7 : j ≤ l.length)
    (k : WO P c ops rest ⟨(t, .t (.list n ((l.drop i.toNat).take (j.toNat - i.toNat)))) :: s.fr, s.M⟩ Q) : WO P c ops (o :: rest) s Q := by
  refine WO_val hg hd ht _ (fun a w F β fb mb ow hi => ?_) k
  obtain ⟨bs, hr, _⟩ := hi.opd x
  rw [hx] at hr
  generalize hev : a.eval x = xv at hr
  have hlen : ((l.drop i.toNat).take (j.toNat - i.toNat)).length = j.toNat - i.toNat := by simp; omega
  cases hr with
  | t hr _ =>
    cases hr with
    | @none ad cap _ _ _ _ =>
      simp at h7
      have hi0 : i = 0 := by omega
      have hj0 : j = 0 := by omega
      subst hi0; subst hj0
      refine ⟨.slice (if cap = 0 then ad else ad.map (·.add 0)) 0 cap, ?_, .t (.none .nil) .done⟩
      have hrun := run_slice (P := P) (len := 0) (ad := ad) (cap := cap) (hΓ.get h1) h2 (hΓ.get h3) (a := a) hi hlo hhi (Int.le_refl 0) (Int.le_refl 0) (Int.le_refl 0) (Nat.zero_le cap)
      simp only [execOp, ho, hev, Sem.run_bind, Option.map_none, hrun, Result.andThen_ok]
      simp
    | @list b o' cap _ cs _ arr e' fz _ _ q1 q2 q3 q4 q5 q6 _ =>
      have hrun := run_slice (hΓ.get h1) h2 (hΓ.get h3) (a := a) hi (ad := some ⟨b, o', none⟩) hlo hhi h5 h6 h7 q5
      by_cases hc : cap = i.toNat
      · have hj : j.toNat - i.toNat = 0 := by omega
        rw [hj, List.take_zero]
        refine ⟨.slice (some ⟨b, o', none⟩) 0 (cap - i.toNat), ?_, .t (.none .nil) .done⟩
        simp only [execOp, ho, hev, Sem.run_bind, Option.map_none, hrun, Result.andThen_ok, if_pos hc, hj]
        rfl
      · refine ⟨.slice (some ⟨b, o' + i.toNat * te.size, none⟩) ((l.drop i.toNat).take (j.toNat - i.toNat)).length (cap - i.toNat), ?_, ?_⟩
        · simp only [execOp, ho, hev, Sem.run_bind, Option.map_none, hrun, Result.andThen_ok, if_neg hc, hlen, Option.map_some, add_none]
          rfl
        · refine .t (.list (cs := (cs.drop (i.toNat * n)).take ((j.toNat - i.toNat) * n)) q1 q2 (fun k hk => ?_) (fun z hz => q4 z (List.mem_of_mem_drop (List.mem_of_mem_take hz))) (by rw [hlen]; omega) ?_ .nil) .done
          · simp only [List.length_take, List.length_drop] at hk
            rw [h4, Nat.add_assoc, q3 _ (by omega)]
            simp only [List.getElem?_take, List.getElem?_drop]
            rw [if_pos (by omega)]
          · have := (q6.drop (i.toNat * n)).take ((j.toNat - i.toNat) * n)
            rw [flat_drop q4, flat_take fun z hz => q4 z (List.mem_of_mem_drop hz)] at this
            exact this

theorem WO_sliceS {Γ : Tys} (hΓ : Γ.ok P) {ty e t n id off len : Nat} {x : Operand} {lo hi' : Option Operand} {ti te : TI} {xs : List T} {i j : Int} (hg : o.guard = none) (hd : o.dst = some t) (ht : t < c.n) (ho : o.op = .slice ty x lo hi' none)
    (h1 : tyOf Γ ty = some ti) (h2 : ti.kind = .slice e) (h3 : tyOf Γ e = some te) (h4 : te.size = n) (hx : opd s.fr x = .sl id off len) (hM : lookM s.M id = some (.L n xs)) (hlo : optI s.fr lo 0 = some i) (hhi : optI s.fr hi' len = some j)
    (h5 : 0 ≤ i) (h6 : i ≤ j) (h7 : j ≤ len)
    (k : WO P c ops rest ⟨(t, .sl id (off + i.toNat) (j.toNat - i.toNat)) :: s.fr, s.M⟩ Q) : WO P c ops (o :: rest) s Q := by
  refine WO_val hg hd ht _ (fun a w F β fb mb ow hi => ?_) k
  obtain ⟨bs, hr, _⟩ := hi.opd x
  rw [hx] at hr
  have hm := hi.mem id
  rw [hM] at hm
  generalize hev : a.eval x = xv at hr
  cases hr with
  | @slnil _ ad _ _ _ q1 _ =>
    have hi0 : i = 0 := by omega
    have hj0 : j = 0 := by omega
    subst hi0; subst hj0
    refine ⟨.slice ad 0 0, ?_, .slnil q1 .done⟩
    have hrun := run_slice (P := P) (len := 0) (ad := ad) (cap := 0) (hΓ.get h1) h2 (hΓ.get h3) (a := a) hi hlo hhi (Int.le_refl 0) (Int.le_refl 0) (Int.le_refl 0) (Nat.zero_le 0)
    simp only [execOp, ho, hev, Sem.run_bind, Option.map_none, hrun, Result.andThen_ok]
    simp
  | @sl _ _ _ ad b n' cp k' _ _ _ q1 q2 q3 q4 _ =>
    have hn : n' = n := by
      rcases hm with ⟨h, _⟩ | ⟨_, _, _, _, _, h, _⟩
      · rw [h] at q1; cases q1
      · rw [h] at q1; cases q1; rfl
    subst hn
    refine ⟨_, ?_, .sl (k := k' - i.toNat) (a := if k' = i.toNat then ad else ad.map (·.add (i.toNat * te.size))) q1 (by omega) (by omega) (fun hne => ?_) .done⟩
    · simp only [execOp, ho, hev, Sem.run_bind, Option.map_none, run_slice (hΓ.get h1) h2 (hΓ.get h3) hi hlo hhi h5 h6 h7 q2, Result.andThen_ok]
      rfl
    · rw [if_neg (by omega), q4 (by omega), h4]
      simp [add_none, Nat.add_mul]

/-! ### What is owned, told anew -/

/-- A temporary takes an id's memory along. -/
theorem Le.gather {u id n len : Nat} {xs : List T} (h1 : look s.fr u = .sl id 0 len) (hM : lookM s.M id = some (.L n xs)) (hl : len ≤ xs.length) :
    Le c s ⟨(u, .own (.list n (xs.take len))) :: s.fr, dropM (some id) s.M⟩ := by
  classical
  rintro a w ⟨F, β, fb, mb, ow, hi⟩
  have hr := hi.fr u
  rw [h1] at hr
  have hm := hi.mem id
  rw [hM] at hm
  have hml : (xs.take len).length = len := by simp; omega
  have key : ∃ bs, OwnL w [a.tmps.getD u undef] [.list n (xs.take len)] bs ∧ bs.Nodup ∧ ∀ b, b ∈ bs → b ∈ mb id := by
    generalize a.tmps.getD u undef = xv at hr
    rcases hm with ⟨r1, r2, r3⟩ | ⟨b, cap, arr, e', bs', r1, r2, r3, r4, r5, r6, r7, r8⟩
    · subst r2
      cases hr with
      | slnil _ _ => exact ⟨[], by simpa using OwnL.none .nil, by simp, by simp⟩
      | sl p1 _ _ _ _ => rw [r1] at p1; cases p1
    · cases hr with
      | slnil p1 _ => rw [r1] at p1; cases p1
      | @sl _ _ _ ad _ _ _ k' _ _ _ p1 p2 p3 p4 _ =>
        rw [r1] at p1
        cases p1
        have hkc : k' = cap := by omega
        subst hkc
        by_cases h0 : k' = 0
        · subst h0
          have : len = 0 := by omega
          subst this
          exact ⟨[], by simpa using OwnL.none .nil, by simp, by simp⟩
        · obtain ⟨c1, c2, hc, ho1, _⟩ := r7.split (len * n)
          rw [flat_take r4, List.take_take, Nat.min_eq_left (Nat.mul_le_mul_right _ hl)] at ho1
          have hnd := hi.nmem id
          rw [r8, hc] at hnd
          have had := p4 h0
          simp only [Nat.zero_mul] at had
          subst had
          refine ⟨b :: c1, ?_, List.nodup_cons.2 ⟨fun h => (List.nodup_cons.1 hnd).1 (by simp [h]), (List.nodup_append.1 (List.nodup_cons.1 hnd).2).1⟩, fun b' hb' => by rw [r8, hc]; rcases List.mem_cons.1 hb' with rfl | h <;> simp [*]⟩
          have := OwnL.list (xs := xs.take len) (n := n) (cap := k') r2 r3 (by rw [hml]) (fun x hx => r4 x (List.mem_of_mem_take hx)) (by rw [hml]; exact p2) r6 ho1 .nil
          rw [hml] at this
          simpa using this
  obtain ⟨bs, k1, k2, k3⟩ := key
  refine ⟨F, β, fun v => if u = v then bs else fb v, fun i => if i = id then [] else if lookM (dropM (some id) s.M) i = lookM s.M i then mb i else [], fun b => if b ∈ bs then some (.inl u) else ow b, ?_⟩
  refine { hi with fr := fun v => ?_, mem := fun i => ?_, ofr := fun v b hb => ?_, omem := fun i b hb => ?_, nfr := fun v => ?_, nmem := fun i => ?_, own := fun b hb => ?_ }
  · simp only [look]
    split
    · rename_i e; subst e; simpa using RelD.own (F := F) (β := β) k1 .done
    · exact hi.fr v
  · rcases look_dropM (some id) s.M i with h | ⟨h5, h6⟩
    · rw [h]
      show (if i = id then ([] : List Nat) else if none = lookM s.M i then mb i else []) = []
      split
      · rfl
      · split
        · rename_i e
          have := hi.mem i
          rw [← e] at this
          exact this
        · rfl
    · rw [if_neg (fun e => h5 (by rw [e])), if_pos h6, h6]
      exact hi.mem i
  · split at hb
    · rename_i e; subst e; rw [if_pos hb]
    · have h5 := hi.ofr v b hb
      rw [if_neg (fun h => ?_)]
      · exact h5
      · rw [hi.omem id b (k3 b h)] at h5; cases h5
  · split at hb
    · cases hb
    · split at hb
      · have h5 := hi.omem i b hb
        rw [if_neg (fun h => ?_)]
        · exact h5
        · rename_i hne _
          rw [hi.omem id b (k3 b h)] at h5; cases h5; exact hne rfl
      · cases hb
  · split
    · exact k2
    · exact hi.nfr v
  · split
    · simp
    · split
      · exact hi.nmem i
      · simp
  · split at hb
    · rename_i h
      exact hi.own b (by rw [hi.omem id b (k3 b h)]; simp)
    · exact hi.own b hb

/-- What a temporary owns gets an id. -/
theorem Le.adopt {u n : Nat} {xs : List T} (id : Nat) (h1 : look s.fr u = .own (.list n xs)) :
    Le c s ⟨(u, .sl id 0 xs.length) :: killF id s.fr, (id, .L n xs) :: killM id s.M⟩ := by
  rintro a w ⟨F, β, fb, mb, ow, hi⟩
  have hr := hi.fr u
  rw [h1] at hr
  have hu : u < c.n := by
    rcases Nat.lt_or_ge u c.n with h | h
    · exact h
    · rw [← hi.tmps] at h
      rw [Array.getD_eq_getD_getElem?, Array.getElem?_eq_none h] at hr
      generalize fb u = bs at hr
      cases hr with
      | own h1 _ => cases h1
  have hput : a.put (some u) (a.tmps.getD u undef) = a := by
    have hlt : u < a.tmps.size := by rw [hi.tmps]; exact hu
    cases a with
    | mk tm df =>
      simp only [Act.put]
      congr 1
      have hlt : u < tm.size := hlt
      rw [Array.getD_eq_getD_getElem?, Array.getElem?_eq_getElem hlt]
      simp [Array.setIfInBounds, hlt]
  generalize hev : a.tmps.getD u undef = xv at hr hput
  generalize hbs : fb u = bs at hr
  have hob : ∀ b, b ∈ bs → ow b = some (.inl u) := fun b hb => hi.ofr u b (by rw [hbs]; exact hb)
  have hnd : bs.Nodup := by rw [← hbs]; exact hi.nfr u
  have fin : ∀ (pl : Option (Nat × Nat × Nat)) , RelB w F (fun i => if i = id then pl else β i) id (.L n xs) bs → RelD w F (fun i => if i = id then pl else β i) [xv] [.sl id 0 xs.length] [] →
      Is c ⟨(u, .sl id 0 xs.length) :: killF id s.fr, (id, .L n xs) :: killM id s.M⟩ a w := by
    intro pl hB hD
    have hβ : ∀ i, i ≠ id → (fun i => if i = id then pl else β i) i = β i := fun i h => by simp [h]
    refine hi.renew (a' := a) (w' := w) id (Anew.kill hβ) (fun y => y = .inl u) bs (.L n xs) (some (u, xv, .sl id 0 xs.length)) hput.symm ?_ rfl rfl rfl (Nat.le_refl _) (fun _ _ _ => rfl) ?_ (by simp [lookM]) hB hnd (fun b hb => .inr ⟨_, hob b hb, .inl rfl⟩) ?_
    · rintro t' v d h; cases h; exact ⟨hu, hD, by simp [look]⟩
    · intro v hv
      have hne := hv _ _ _ rfl
      exact .inl ⟨by simp only [look, if_neg (Ne.symm hne), look_killF], by simpa using hne⟩
    · intro i h
      exact .inr ⟨by simp, by simp only [lookM, if_neg (Ne.symm h), look_killM]⟩
  cases hr with
  | own h2 h3 =>
    cases h3
    cases h2 with
    | @none ad _ _ _ _ h4 =>
      cases h4
      exact fin none (.inl ⟨by simp, rfl, by simp⟩) (.slnil (by simp) .done)
    | list q1 q2 q3 q4 q5 q6 q7 q8 =>
      cases q8
      rename_i b cap cs arr e bs1
      refine fin (some (b, n, cap)) (.inr ⟨b, cap, arr, e, bs1, by simp, q1, q2, q4, q5, q6, by rw [q3]; exact q7, by simp⟩) ?_
      exact .sl (b := b) (n := n) (c := cap) (by simp) q5 (by simp) (by simp) .done

end
end Go.Eng
