/- Rules by which what is owned is made data that is only read, and by which a struct is moved out of its variable. -/
import Derived.Test.YtbkamkmmljbedaaEng14
set_option linter.unusedVariables false
set_option linter.unusedSimpArgs false
namespace Go.Eng
open Go.RowKit

/-- What is owned, as data that is only read. -/
def frz1 : D → Option T
  | .own (.list n l) => some (.list n l)
  | .t x => some x
  | _ => none
def frzL : List D → Option (List T)
  | [] => some []
  | d :: ds => match frz1 d with
    | some x => match frzL ds with
      | some xs => some (x :: xs)
      | none => none
    | none => none
def frz : D → Option D
  | .own (.list n l) => some (.t (.list n l))
  | .agg l => match frzL l with
    | some ts => some (.t (.agg ts))
    | none => none
  | _ => none

section
variable {P : Program} {c : Ctx} {s : St} {Q : Exit → St → Prop} {ops : Array Oper} {rest : List Oper} {o : Oper}

theorem frzL_rel {w : World} {F : Nat → Prop} {β : Place} : ∀ {ds : List D} {vs : List Value} {bs : List Nat} {ts : List T}, RelD w F β vs ds bs → frzL ds = some ts → vs.all (·.oneCell') = true → RelL w (fun b => F b ∨ b ∈ bs) vs ts
  | [], vs, bs, ts, h, hf, _ => by
    cases hf
    cases h
    exact .nil
  | d :: ds, vs, bs, ts, h, hf, hv => by
    obtain ⟨v, vs', rfl⟩ : ∃ v vs', vs = v :: vs' := by
      have := h.length
      cases vs with
      | nil => simp at this
      | cons v vs => exact ⟨v, vs, rfl⟩
    obtain ⟨b1, b2, h1, h2, rfl⟩ := h.cons
    rw [List.all_cons, Bool.and_eq_true] at hv
    unfold frzL at hf
    split at hf
    · rename_i x hx
      split at hf
      · rename_i xs hxs
        cases hf
        refine RelL.cons' ?_ ((frzL_rel h2 hxs hv.2).mono (w := w) (w' := w) (fun b hb => ?_) fun _ _ => rfl)
        · unfold frz1 at hx
          split at hx
          · cases hx
            cases h1 with
            | own q1 q2 => cases q2; exact q1.rel fun b hb => .inr (by simp at hb ⊢; exact .inl hb)
          · cases hx
            cases h1 with
            | t q1 q2 => exact q1.mono (w := w) (w' := w) (fun b hb => .inl hb) fun _ _ => rfl
            | tagg q1 q2 => simp [Value.oneCell'] at hv
          · cases hx
        · rcases hb with hb | hb
          · exact .inl hb
          · exact .inr (by simp [hb])
      · cases hf
    · cases hf

theorem relB_wider {w : World} {F F' : Nat → Prop} {β : Place} {id : Nat} {k : Blk} {bs : List Nat} (h : RelB w F β id k bs) (hF : ∀ b, F b → F' b) : RelB w F' β id k bs := by
  cases k with
  | L n xs => exact h
  | box cells =>
    obtain ⟨b, arr, e, bs', h1, h2, h3, h4⟩ := h
    exact ⟨b, arr, e, bs', h1, h2, h3.mono (w := w) (w' := w) hF (fun _ _ => rfl) (fun _ _ => rfl) fun _ => rfl, h4⟩
  | raw b sz vs ts => exact h
  | rawV vs ts => exact h
  | ro vs ts => exact ⟨h.1.mono hF fun _ _ => rfl, h.2⟩

/-- What a temporary owns is from now on only read. -/
theorem Le.freeze {u : Nat} {d : D} (h : frz (look s.fr u) = some d) : Le c s ⟨(u, d) :: s.fr, s.M⟩ := by
  classical
  rintro a w ⟨F, β, fb, mb, ow, hi⟩
  have hr := hi.fr u
  have key : RelD w (fun b => F b ∨ b ∈ fb u) β [a.tmps.getD u undef] [d] [] := by
    unfold frz at h
    generalize hlk : look s.fr u = lk at h hr
    generalize a.tmps.getD u undef = x at hr
    generalize fb u = bs at hr
    split at h
    · cases h
      cases hr with
      | own q1 q2 => cases q2; exact .t (q1.rel fun b hb => .inr (by simpa using hb)) .done
    · split at h
      · rename_i ts hts
        cases h
        cases hr with
        | agg h0 q1 q2 => cases q2; exact .tagg ((frzL_rel q1 hts h0).mono (w := w) (w' := w) (fun b hb => by simpa using hb) fun _ _ => rfl) .done
      · cases h
    · cases h
  have hfb : ∀ b, b ∈ fb u → ow b = some (.inl u) := fun b hb => hi.ofr u b hb
  refine ⟨fun b => F b ∨ b ∈ fb u, β, fun v => if u = v then [] else fb v, mb, fun b => if b ∈ fb u then none else ow b, ?_⟩
  exact { hi with
    fr := fun v => by
      simp only [look]
      split
      · rename_i e; subst e; exact key
      · exact (hi.fr v).mono (w := w) (w' := w) (fun _ h => .inl h) (fun _ _ => rfl) (fun _ _ => rfl) fun _ => rfl
    mem := fun id => by
      have := hi.mem id
      cases hM : lookM s.M id with
      | none => rw [hM] at this; simp only [hM]; exact this
      | some k => rw [hM] at this; simp only [hM]; exact relB_wider this (fun _ h => .inl h)
    ofr := fun v b hb => by
      split at hb
      · cases hb
      · rename_i hv
        have h3 := hi.ofr v b hb
        rw [if_neg (fun h => ?_)]
        · exact h3
        · rw [hfb b h] at h3; cases h3; exact hv rfl
    omem := fun id b hb => by
      have h3 := hi.omem id b hb
      rw [if_neg (fun h => ?_)]
      · exact h3
      · rw [hfb b h] at h3; cases h3
    nfr := fun v => by
      split
      · simp
      · exact hi.nfr v
    own := fun b hb => by
      split at hb
      · exact absurd rfl hb
      · rename_i hn
        obtain ⟨q1, q2, q3⟩ := hi.own b hb
        exact ⟨fun h => h.elim q1 hn, q2, q3⟩
    fin := fun b hb => hb.elim (hi.fin b) fun h => (hi.own b (by rw [hfb b h]; simp)).2.1
    f0 := fun b hb => .inl (hi.f0 b hb)
    fnew := fun b hb => hb.elim (hi.fnew b) fun h => .inr (hi.own b (by rw [hfb b h]; simp)).2.2 }


theorem relD_tops {w : World} {F : Nat → Prop} {β : Place} : ∀ (vs : List Value), RelD w F β vs (List.replicate vs.length D.top) []
  | [] => .done
  | v :: vs => .top (relD_tops vs)

/-- A struct is moved out of its variable. -/
theorem WO_loadMove {Γ : Tys} (hΓ : Γ.ok P) {ty t id : Nat} {x : Operand} {ti : TI} {cells : List D} (hg : o.guard = none) (hd : o.dst = some t) (ht : t < c.n) (ho : o.op = .load ty x)
    (h1 : tyOf Γ ty = some ti) (h2 : ti.kind.isAgg = true) (hx : opd s.fr x = .ref id 0 0) (hM : lookM s.M id = some (.box cells)) (hl : cells.length = ti.size)
    (k : WO P c ops rest ⟨(t, .agg cells) :: s.fr, (id, .box (List.replicate cells.length .top)) :: s.M⟩ Q) : WO P c ops (o :: rest) s Q := by
  classical
  rintro a w ⟨F, β, fb, mb, ow, hi⟩
  have hm := hi.mem id
  rw [hM] at hm
  obtain ⟨b, arr, e, bs, q1, q2, q3, q4, q5⟩ := hm
  obtain ⟨bx, hrx, _⟩ := hi.opd x
  rw [hx] at hrx
  generalize hev : a.eval x = xv at hrx
  have hlen := q3.length
  simp only [Array.length_toList] at hlen
  cases hrx with
  | ref r1 r2 =>
    rw [q1] at r1
    cases r1
    have hrun : (loadVar ty ⟨b, 0 * cells.length + 0, none⟩).run P w = .ok (.agg arr) w := by
      have := run_loadVar_agg (w := w) (a := ⟨b, 0, none⟩) (cs := arr.toList) (hΓ.get h1) h2 (by simp [hlen, hl]) fun j v hj => by
        rw [add_none, cell_of q2, Nat.zero_add]; simpa using hj
      simpa using this
    refine wpList_plain hg fun K hK => ?_
    unfold Oper.wp
    have hex : (execOp a.eval o).run P w = .ok (.value (.agg arr)) w := by
      simp only [Nat.zero_mul, Nat.add_zero] at hrun
      simp [execOp, ho, hev, Instr.loadAt, Instr.sureAddr, Sem.run_bind, hrun, Result.andThen_ok]
    rw [hex, Oper.upon_value, hd]
    have hnd := hi.nmem id
    rw [q5] at hnd
    obtain ⟨hn1, hn2⟩ := List.nodup_cons.1 hnd
    have hbs : ∀ b', b' ∈ bs → ow b' = some (.inr id) := fun b' hb' => hi.omem id b' (by rw [q5]; simp [hb'])
    have hob : ow b = some (.inr id) := hi.omem id b (by rw [q5]; simp)
    refine hK _ _ (k _ _ ⟨F, β, fun u => if t = u then bs else fb u, fun i => if id = i then [b] else mb i, fun b' => if b' ∈ bs then some (.inl t) else ow b', ?_⟩)
    exact { hi with
      fr := fun u => by
        rw [getD_put _ _ _ _ (by rw [hi.tmps]; exact ht)]
        simp only [look]
        split
        · have := RelD.agg (vs := []) (ds := []) (bs' := []) q4 q3 .done
          simpa using this
        · exact hi.fr u
      mem := fun i => by
        simp only [lookM]
        by_cases hid : id = i
        · subst hid
          rw [if_pos rfl]
          simp only [if_true]
          refine ⟨b, arr, e, [], by rw [q1, List.length_replicate], q2, ?_, q4, rfl⟩
          rw [← hlen]
          simpa using relD_tops arr.toList
        · rw [if_neg hid]
          have := hi.mem i
          cases hMi : lookM s.M i with
          | none => rw [hMi] at this; simp only [if_neg hid]; exact this
          | some kk => rw [hMi] at this; simp only [if_neg hid]; exact this
      ofr := fun u b' hb' => by
        split at hb'
        · rename_i e; subst e; rw [if_pos hb']
        · have h3 := hi.ofr u b' hb'
          rw [if_neg (fun h => ?_)]
          · exact h3
          · rw [hbs b' h] at h3; cases h3
      omem := fun i b' hb' => by
        split at hb'
        · rename_i e; subst e
          rw [List.mem_singleton] at hb'
          subst hb'
          rw [if_neg hn1]; exact hob
        · rename_i hne
          have h3 := hi.omem i b' hb'
          rw [if_neg (fun h => ?_)]
          · exact h3
          · rw [hbs b' h] at h3; cases h3; exact hne rfl
      nfr := fun u => by
        split
        · exact hn2
        · exact hi.nfr u
      nmem := fun i => by
        split
        · simp
        · exact hi.nmem i
      own := fun b' hb' => by
        split at hb'
        · rename_i h; exact hi.own b' (by rw [hbs b' h]; simp)
        · exact hi.own b' hb'
      defers := (defers_put a _ _).trans hi.defers
      tmps := (size_put a _ _).trans hi.tmps }
theorem Le.keep (ks : List Nat) : Le c s ⟨keepF s.fr ks, s.M⟩ :=
  Le.of (fun t => by
    show look (keepF s.fr ks) t = _ ∨ _
    unfold keepF
    induction ks with
    | nil => exact .inr rfl
    | cons k ks ih =>
      rw [List.map_cons, look]
      split
      · rename_i e; subst e; exact .inl rfl
      · exact ih) (fun t => .inl rfl)
/-- What is not looked at any more is let go. -/
theorem W_keep {x : Code} (ks : List Nat) {s' : St} (h : forceS ⟨keepF s.fr ks, s.M⟩ = some s') (k : W P c x s' Q) : W P c x s Q := W_le (Le.keep ks) (W_norm h k)
theorem WO_keep (ks : List Nat) {s' : St} (h : forceS ⟨keepF s.fr ks, s.M⟩ = some s') (k : WO P c ops rest s' Q) : WO P c ops rest s Q := WO_le (Le.keep ks) (WO_norm h k)

/-- Truths, as they are said. -/
theorem HS : (∀ p [Decidable p], (decide p = true) = p) ∧ (∀ p [Decidable p], (decide p = false) = ¬ p) ∧ (∀ b : Bool, ((!b) = true) = (b = false)) ∧ (∀ b : Bool, ((!b) = false) = (b = true)) ∧ ((!true) = false) ∧ ((!false) = true) ∧
    (∀ {α β : Type} (f : α → β) (l : List α), (l.map f).length = l.length) ∧ (∀ a b : Int, (¬ a < b) = (b ≤ a)) ∧ (∀ a b : Int, (¬ a ≤ b) = (b < a)) ∧ (∀ {α : Type} (a b : α), (a ≠ b) = ¬ a = b) ∧ (∀ p [Decidable p], (¬ ¬ p) = p) ∧
    (∀ b : Bool, (true = b) = (b = true)) ∧ (∀ b : Bool, (false = b) = (b = false)) ∧ (∀ a b : Bool, ((a == b) = true) = (a = b)) ∧ (∀ a b : Bool, ((a != b) = true) = (a ≠ b)) ∧ (∀ a b : Bool, ((a == b) = false) = (a ≠ b)) ∧ (∀ a b : Bool, ((a != b) = false) = (a = b)) := by
  refine ⟨fun p _ => by simp, fun p _ => by simp, by decide, by decide, rfl, rfl, fun f l => by simp, fun a b => by simp, fun a b => by simp, fun a b => rfl, fun p _ => by simp, by decide, by decide, by decide, by decide, by decide, by decide⟩

def AllEq : List (Nat × Nat) → Prop
  | [] => True
  | (a, b) :: l => a = b ∧ AllEq l
theorem AllEq.nil' : AllEq [] := trivial
theorem AllEq.cons' {a b : Nat} {l : List (Nat × Nat)} (h : a = b) (k : AllEq l) : AllEq ((a, b) :: l) := ⟨h, k⟩

/-- What is handed over, as it can be read; and which lengths must be the same. -/
def capF (s : St) : D → Option D
  | .t x => some (.t x)
  | .rp x o => some (.rp x o)
  | .ref id 0 off => match lookM s.M id with
    | some (.box cells) => match frzL cells with
      | some ts => some (.rp (.agg ts) off)
      | none => none
    | _ => none
  | _ => none
def capsF (s : St) : List D → Option (List D)
  | [] => some []
  | d :: ds => match capF s d with
    | some e => match capsF s ds with
      | some es => some (e :: es)
      | none => none
    | none => none
def resF1 (s : St) : D → Option (D × List (Nat × Nat))
  | .t x => some (.t x, [])
  | .rp x o => some (.rp x o, [])
  | .nil => some (.nil, [])
  | .own (.list n l) => some (.t (.list n l), [])
  | .sl id 0 len => match lookM s.M id with
    | some (.L n xs) => some (.t (.list n xs), [(xs.length, len)])
    | _ => none
  | .ref id 0 off => match lookM s.M id with
    | some (.box cells) => match frzL cells with
      | some ts => some (.rp (.agg ts) off, [])
      | none => none
    | _ => none
  | .agg l => match frzL l with
    | some ts => some (.t (.agg ts), [])
    | none => none
  | .clo f l => match capsF s l with
    | some es => some (.clo f es, [])
    | none => none
  | _ => none
def resFL (s : St) : List D → Option (List D × List (Nat × Nat))
  | [] => some ([], [])
  | d :: ds => match resF1 s d with
    | some (e, cs) => match resFL s ds with
      | some (es, cs') => some (e :: es, cs ++ cs')
      | none => none
    | none => none

theorem AllEq.left {l l' : List (Nat × Nat)} : AllEq (l ++ l') → AllEq l := by
  induction l with
  | nil => intro _; trivial
  | cons p l ih => obtain ⟨a, b⟩ := p; intro h; exact ⟨h.1, ih h.2⟩
theorem AllEq.right {l l' : List (Nat × Nat)} : AllEq (l ++ l') → AllEq l' := by
  induction l with
  | nil => intro h; exact h
  | cons p l ih => obtain ⟨a, b⟩ := p; intro h; exact ih h.2

theorem frzL_res : ∀ {ds : List D} {ts : List T}, frzL ds = some ts → ResL s ds (ts.map .t)
  | [], ts, h => by cases h; exact .done
  | d :: ds, ts, h => by
    unfold frzL at h
    split at h
    · rename_i x hx
      split at h
      · rename_i xs hxs
        cases h
        have ih := frzL_res hxs
        unfold frz1 at hx
        split at hx
        · cases hx; exact .own ih
        · cases hx; exact .t ih
        · cases hx
      · cases h
    · cases h
theorem capsF_res : ∀ {ds es : List D}, capsF s ds = some es → ResL s ds es
  | [], es, h => by cases h; exact .done
  | d :: ds, es, h => by
    unfold capsF at h
    split at h
    · rename_i x hx
      split at h
      · rename_i xs hxs
        cases h
        have ih := capsF_res hxs
        unfold capF at hx
        split at hx
        · cases hx; exact .t ih
        · cases hx; exact .rp ih
        · split at hx
          · rename_i hM
            split at hx
            · rename_i ts hts; cases hx; exact .ref hM (frzL_res hts) ih
            · cases hx
          · cases hx
        · cases hx
      · cases h
    · cases h
theorem resFL_res : ∀ {ds es : List D} {cs : List (Nat × Nat)}, resFL s ds = some (es, cs) → AllEq cs → ResL s ds es
  | [], es, cs, h, _ => by cases h; exact .done
  | d :: ds, es, cs, h, hc => by
    unfold resFL at h
    split at h
    · rename_i x c1 hx
      split at h
      · rename_i xs c2 hxs
        cases h
        have ih := resFL_res hxs hc.right
        have hc1 := hc.left
        unfold resF1 at hx
        split at hx
        · cases hx; exact .t ih
        · cases hx; exact .rp ih
        · cases hx; exact .nil' ih
        · cases hx; exact .own ih
        · split at hx
          · rename_i hM; cases hx; exact .slA hM hc1.1 ih
          · cases hx
        · split at hx
          · rename_i hM
            split at hx
            · rename_i ts hts; cases hx; exact .ref hM (frzL_res hts) ih
            · cases hx
          · cases hx
        · split at hx
          · rename_i ts hts; cases hx; exact .aggT (frzL_res hts) ih
          · cases hx
        · split at hx
          · rename_i es hes; cases hx; exact .clo (capsF_res hes) ih
          · cases hx
        · cases hx
      · cases h
    · cases h

theorem callB {t : Nat} {fo : Operand} {args : Array Operand} {tys : Array TypeId} {f : FuncId} {caps es : List D} {cs : List (Nat × Nat)} (h : ∃ r : D, Fun P f es r ∧ r.noImm = true ∧ WO P c ops rest ⟨(t, r) :: s.fr, s.M⟩ Q)
    (hg : o.guard = none := by exact rfl) (hd : o.dst = some t := by exact rfl) (ht : t < c.n := by exact lt_of rfl) (ho : o.op = .call { callee := .value fo, args := args, argTypes := tys } := by exact rfl) (hf : opd s.fr fo = .clo f caps := by exact rfl)
    (hes : resFL s (args.toList.map (opd s.fr) ++ caps) = some (es, cs) := by exact rfl) (hcs : AllEq cs := by repeat (first | exact AllEq.nil' | refine AllEq.cons' (by first | rfl | (simp; done) | (simp; omega) | omega) ?_)) : WO P c ops (o :: rest) s Q := by
  obtain ⟨r, hc, hn, k⟩ := h
  exact WO_call hg hd ht ho hf (resFL_res hes hcs) hc hn k
theorem callBQ {Q : St → Prop} {t : Nat} {fo : Operand} {args : Array Operand} {tys : Array TypeId} {f : FuncId} {caps es : List D} {cs : List (Nat × Nat)} (h : ∃ r : D, Fun P f es r ∧ r.noImm = true ∧ QL P c ops rest ⟨(t, r) :: s.fr, s.M⟩ Q)
    (hg : o.guard = none := by exact rfl) (hd : o.dst = some t := by exact rfl) (ht : t < c.n := by exact lt_of rfl) (ho : o.op = .call { callee := .value fo, args := args, argTypes := tys } := by exact rfl) (hf : opd s.fr fo = .clo f caps := by exact rfl)
    (hes : resFL s (args.toList.map (opd s.fr) ++ caps) = some (es, cs) := by exact rfl) (hcs : AllEq cs := by repeat (first | exact AllEq.nil' | refine AllEq.cons' (by first | rfl | (simp; done) | (simp; omega) | omega) ?_)) : QL P c ops (o :: rest) s Q := by
  obtain ⟨r, hc, hn, k⟩ := h
  exact QL_call hg hd ht ho hf (resFL_res hes hcs) hc hn k

end
end Go.Eng
