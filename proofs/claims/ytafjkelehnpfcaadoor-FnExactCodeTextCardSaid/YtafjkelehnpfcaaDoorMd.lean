import Derived.Test.YtafjkelehnpfcaaDoorMc
import Derived.Laws.CopyOwn

section
/- A part of a struct that is a value; what is known of a value is owned again. -/
set_option linter.unusedVariables false
set_option linter.unusedSimpArgs false
namespace Go.Eng
open Go.RowKit

section
variable {P : Program} {c : Ctx} {s : St} {Q : Exit → St → Prop} {ops : Array Oper} {rest : List Oper} {o : Oper}

end
end Go.Eng
end

section
/- What a cell of a variable reads, known by its value, or its elements by theirs. -/
set_option linter.unusedVariables false
set_option linter.unusedSimpArgs false
namespace Go.Eng
open Go.RowKit

theorem RelL.ones {w : World} {F : Nat → Prop} {vs : List Value} {ts : List T} (h : RelL w F vs ts) : ∀ v, v ∈ vs → v.oneCell' = true := by
  induction h with
  | nil => intro v hv; cases hv
  | v h1 _ ih => intro v hv; rcases List.mem_cons.1 hv with rfl | hv; exact h1; exact ih v hv
  | none _ ih => intro v hv; rcases List.mem_cons.1 hv with rfl | hv; rfl; exact ih v hv
  | list _ _ _ _ _ _ _ _ ih2 => intro v hv; rcases List.mem_cons.1 hv with rfl | hv; rfl; exact ih2 v hv
section
variable {P : Program} {c : Ctx} {s : St} {Q : Exit → St → Prop} {ops : Array Oper} {rest : List Oper} {o : Oper}

end
end Go.Eng
end

section
/- append, in open order, of what a temporary owns, to what another does; its elements are values. -/
set_option linter.unusedVariables false
set_option linter.unusedSimpArgs false
namespace Go.Eng
open Go.RowKit

section
variable {P : Program} {c : Ctx} {s : St} {ops : Array Oper} {rest : List Oper} {o : Oper} {M0 : List (Nat × Blk)} {acc : List Dl}

theorem Cl.freeze {t v n : Nat} {ys : List T} {s : St} (h : Cl t s) : Cl t ⟨(v, .t (.list n ys)) :: s.fr, s.M⟩ := by
  refine ⟨fun u => ?_, h.2.1, h.2.2⟩
  simp only [look]
  split
  · rfl
  · exact h.1 u

end
end Go.Eng
namespace Go.Eng
section
variable {P : Program} {c : Ctx} {s : St} {ops : Array Oper} {rest : List Oper} {o : Oper} {M0 : List (Nat × Blk)} {acc : List Dl}
end
end Go.Eng
end

section
/- The elements of a list that is read, known by their values, cell by cell; and read again. -/
set_option linter.unusedVariables false
set_option linter.unusedSimpArgs false
namespace Go.Eng
open Go.RowKit

section
variable {P : Program} {c : Ctx} {s : St} {Q : Exit → St → Prop} {ops : Array Oper} {rest : List Oper} {o : Oper}

end
end Go.Eng
end

section
/- Functions that are given a variable of the caller's by its place, and write into it and into what it leads to. -/
set_option linter.unusedVariables false
set_option linter.unusedSimpArgs false
namespace Go.Eng
open Go.RowKit

/-- A function that is given a variable by its place, and another argument that is read. -/
def WriteP (P : Program) (f : FuncId) (l : List T) (d1 : D) (r : Option Value) (l' : List T) : Prop :=
  Callable P f ∧ l'.length = l.length ∧ ∀ (w : World) (F : Nat → Prop) (b0 : Nat) (arr : Array Value) (e0 : TypeId) (v1 : Value) (bs : List Nat), (∀ b, F b → b < w.heap.size) → RelD w F (fun _ => none) [v1] [d1] [] →
    w.heap[b0]? = some (.cells arr e0 (0, 0)) → OwnL w arr.toList l bs → (b0 :: bs).Nodup → (∀ b, b ∈ b0 :: bs → b < w.heap.size ∧ ¬ F b) →
    Calls P f #[.pointer (some ⟨b0, 0, none⟩), v1] w fun e w' => ∃ u, e = .returned u ∧ (∀ x, r = some x → u = x) ∧ ∃ arr' e' bs', w'.heap[b0]? = some (.cells arr' e' (0, 0)) ∧ OwnL w' arr'.toList l' bs' ∧ (b0 :: bs').Nodup ∧
      (∀ b, b ∈ bs' → b ∈ bs ∨ (w.heap.size ≤ b ∧ b < w'.heap.size)) ∧ w'.os = w.os ∧ w'.tape = w.tape ∧ w'.output = w.output ∧ w.heap.size ≤ w'.heap.size ∧ ∀ b, b < w.heap.size → b ∉ b0 :: bs → w'.heap[b]? = w.heap[b]?

section
variable {P : Program} {c : Ctx} {s : St} {Q : Exit → St → Prop} {ops : Array Oper} {rest : List Oper} {o : Oper}

theorem WriteP.intro {f : FuncId} {fn : Func} {code : Code} (hf : P.funcs[f]? = some fn) (hb : fn.body = some code) (hname : (fn.name == "runtime.NumGoroutine") = false) {N : Nat} (hN : 2 + (fn.ntmps - 2) = N) {l l' : List T} {d1 : D} {r : Option Value} (hll : l'.length = l.length)
    (hwalk : ∀ (b0 : Nat) (vs : List Value), vs.length = l.length → ∀ w0 G F0, W P ⟨w0, G, F0, N⟩ code ⟨[(0, .t (.v (.pointer (some ⟨b0, 0, none⟩)))), (1, d1)], [(N, .raw b0 l.length vs l)]⟩
      (EndsW fn r N fun blk => ∃ vs' : List Value, vs'.length = l.length ∧ blk = .raw b0 l.length vs' l')) : WriteP P f l d1 r l' := by
  refine ⟨⟨fn, hf, by rw [hb]; rfl, hname⟩, hll, fun w F b0 arr e0 v1 bs hF hv1 hh hO hnd hlt => ?_⟩
  have hlen := hO.length
  refine (write_run hf hb hname hN (hwalk b0 arr.toList hlen) w (.pointer (some ⟨b0, 0, none⟩)) v1 F (b0 :: bs) hF (.t (.v rfl .nil) .done) hv1 ⟨arr, e0, bs, hh, by simpa using hlen, List.take_length, hO, rfl⟩ hnd hlt).mono ?_
  rintro e' w' ⟨u, rfl, hr, blk', F', β', bs', ⟨vs', hl', rfl⟩, ⟨arr', e1, bs2, q1, q2, q3, q4, rfl⟩, n1, n2, q⟩
  have hv : arr'.toList = vs' := by
    rw [← q3, List.take_of_length_le]
    have := Array.length_toList (xs := arr')
    omega
  refine ⟨u, rfl, hr, arr', e1, bs2, q1, by rw [hv]; exact q4, n1, fun b hb => ?_, q⟩
  rcases n2 b (List.mem_cons_of_mem _ hb) with h | h
  · rcases List.mem_cons.1 h with rfl | h
    · exact absurd hb (List.nodup_cons.1 n1).1
    · exact .inl h
  · exact .inr h
end
end Go.Eng
end

section
/- Functions that are given the places of variables, that write into them, and that answer: a contract, the rule of its call, and how it is shown. -/
set_option linter.unusedVariables false
set_option linter.unusedSimpArgs false
namespace Go.Eng
open Go.RowKit

/-- Memory that can be lent: it has no names of the one who lends, and nothing that is only read. -/
def Blk.shut : Blk → Bool
  | .obox _ cells => D.noImm.noImmL cells
  | .raw _ _ _ _ => true
  | .rawV _ _ => true
  | .bld _ _ _ _ => true
  | _ => false
theorem RelB.shut {w : World} {F F' : Nat → Prop} {β β' : Place} {id id' : Nat} {k : Blk} {bs : List Nat} (h : RelB w F β id k bs) (hk : k.shut = true) : RelB w F' β' id' k bs := by
  cases k with
  | L n xs => simp [Blk.shut] at hk
  | box cells => simp [Blk.shut] at hk
  | raw b sz vs ts => exact h
  | rawV vs ts => exact h
  | ro vs ts => simp [Blk.shut] at hk
  | pin i b n c => simp [Blk.shut] at hk
  | obox pv cells =>
    simp only [Blk.shut] at hk
    rcases h with h | ⟨b, arr, e, bs', h1, h2, h3, h4, h5⟩
    · exact .inl h
    · exact .inr ⟨b, arr, e, bs', h1, h2, h3.noImm hk, h4, h5⟩
  | bld T e b l => exact h

def nowhere : Place := fun _ => none
def nothing : Nat → Prop := fun _ => False

/-- What is lent, and whose it is. -/
def RelMs (w : World) : List Blk → List Nat → Prop
  | [], bs => bs = []
  | k :: ks, bs => ∃ b1 b2, RelB w nothing nowhere 0 k b1 ∧ RelMs w ks b2 ∧ bs = b1 ++ b2

theorem relMs_of {w : World} {mb : Nat → List Nat} : ∀ {ids : List Nat} {ks : List Blk}, ids.length = ks.length → (∀ p, p ∈ ids.zip ks → RelB w nothing nowhere 0 p.2 (mb p.1)) → RelMs w ks (ids.flatMap mb)
  | [], [], _, _ => rfl
  | [], _ :: _, h, _ => by simp at h
  | _ :: _, [], h, _ => by simp at h
  | i :: ids, k :: ks, h, hk => ⟨mb i, ids.flatMap mb, hk (i, k) (by simp), relMs_of (by simpa using h) fun p hp => hk p (by simp [hp]), by simp⟩

theorem relMs_split {w : World} : ∀ {ids : List Nat} {ks : List Blk} {bs : List Nat}, ids.length = ks.length → ids.Nodup → RelMs w ks bs → ∃ mb : Nat → List Nat, (∀ p, p ∈ ids.zip ks → RelB w nothing nowhere 0 p.2 (mb p.1)) ∧ bs = ids.flatMap mb
  | [], [], bs, _, _, h => ⟨fun _ => [], by simp, by rw [show bs = [] from h]; rfl⟩
  | [], _ :: _, _, h, _, _ => by simp at h
  | _ :: _, [], _, h, _, _ => by simp at h
  | i :: ids, k :: ks, bs, hl, hn, h => by
    obtain ⟨b1, b2, h1, h2, rfl⟩ := h
    obtain ⟨n1, n2⟩ := List.nodup_cons.1 hn
    obtain ⟨mb, h3, rfl⟩ := relMs_split (ids := ids) (by simpa using hl) n2 h2
    refine ⟨fun j => if j = i then b1 else mb j, fun p hp => ?_, ?_⟩
    · rw [List.zip_cons_cons] at hp
      rcases List.mem_cons.1 hp with rfl | hp
      · simpa using h1
      · have hne : ¬ p.1 = i := fun e => n1 (e ▸ (List.of_mem_zip (a := p.1) (b := p.2) hp).1)
        simpa [hne] using h3 p hp
    · rw [List.flatMap_cons, if_pos rfl]
      congr 1
      have : ∀ l : List Nat, i ∉ l → l.flatMap mb = l.flatMap fun j => if j = i then b1 else mb j := by
        intro l hl
        induction l with
        | nil => rfl
        | cons j l ih =>
          rw [List.mem_cons, not_or] at hl
          rw [List.flatMap_cons, List.flatMap_cons, if_neg (fun e => hl.1 e.symm), ← ih hl.2]
      exact this ids n1

theorem flat_uniq {mb : Nat → List Nat} : ∀ {ids : List Nat}, (ids.flatMap mb).Nodup → ∀ {i j b : Nat}, i ∈ ids → j ∈ ids → b ∈ mb i → b ∈ mb j → i = j
  | [], _, _, _, _, h, _, _, _ => by simp at h
  | k :: ids, hn, i, j, b, hi, hj, h1, h2 => by
    rw [List.flatMap_cons] at hn
    obtain ⟨n1, n2, n3⟩ := List.nodup_append.1 hn
    rcases List.mem_cons.1 hi with rfl | hi'
    · rcases List.mem_cons.1 hj with rfl | hj'
      · rfl
      · exact absurd rfl (n3 b h1 b (List.mem_flatMap.2 ⟨j, hj', h2⟩))
    · rcases List.mem_cons.1 hj with rfl | hj'
      · exact absurd rfl (n3 b h2 b (List.mem_flatMap.2 ⟨i, hi', h1⟩))
      · exact flat_uniq n2 hi' hj' h1 h2
theorem flat_nodup {mb : Nat → List Nat} : ∀ {ids : List Nat}, ids.Nodup → (∀ i, i ∈ ids → (mb i).Nodup) → (∀ i j b, i ∈ ids → j ∈ ids → b ∈ mb i → b ∈ mb j → i = j) → (ids.flatMap mb).Nodup
  | [], _, _, _ => by simp
  | i :: ids, hn, h1, h2 => by
    obtain ⟨n1, n2⟩ := List.nodup_cons.1 hn
    rw [List.flatMap_cons]
    refine List.nodup_append.2 ⟨h1 i (by simp), flat_nodup n2 (fun j hj => h1 j (by simp [hj])) (fun j k b hj hk => h2 j k b (by simp [hj]) (by simp [hk])), fun p hp q hq e => ?_⟩
    subst e
    obtain ⟨j, hj, hpj⟩ := List.mem_flatMap.1 hq
    exact n1 ((h2 i j p (by simp) (by simp [hj]) hp hpj) ▸ hj)
theorem flat_nodup_at {mb : Nat → List Nat} : ∀ {ids : List Nat}, (ids.flatMap mb).Nodup → ∀ {i : Nat}, i ∈ ids → (mb i).Nodup
  | [], _, _, h => by simp at h
  | k :: ids, hn, i, hi => by
    rw [List.flatMap_cons] at hn
    obtain ⟨n1, n2, n3⟩ := List.nodup_append.1 hn
    rcases List.mem_cons.1 hi with rfl | hi'
    · exact n1
    · exact flat_nodup_at n2 hi'

theorem lookM_zip : ∀ {ids : List Nat} {ks : List Blk} {M : List (Nat × Blk)} {i : Nat}, ids.length = ks.length → i ∈ ids → ∃ k, lookM (ids.zip ks ++ M) i = some k ∧ (i, k) ∈ ids.zip ks
  | [], _, _, _, _, h => by simp at h
  | _ :: _, [], _, _, h, _ => by simp at h
  | j :: ids, k :: ks, M, i, hl, hi => by
    rw [List.zip_cons_cons, List.cons_append]
    simp only [lookM]
    by_cases h : j = i
    · subst h; exact ⟨k, by rw [if_pos rfl], by simp⟩
    · rw [if_neg h]
      obtain ⟨k', h1, h2⟩ := lookM_zip (M := M) (by simpa using hl) ((List.mem_cons.1 hi).resolve_left fun e => h e.symm)
      exact ⟨k', h1, by simp [h2]⟩
theorem lookM_zip' : ∀ {ids : List Nat} {ks : List Blk} {M : List (Nat × Blk)} {i : Nat}, i ∉ ids → lookM (ids.zip ks ++ M) i = lookM M i
  | [], _, _, _, _ => rfl
  | _ :: _, [], _, _, _ => rfl
  | j :: ids, k :: ks, M, i, hi => by
    rw [List.mem_cons, not_or] at hi
    rw [List.zip_cons_cons, List.cons_append]
    simp only [lookM]
    rw [if_neg fun e => hi.1 e.symm]
    exact lookM_zip' hi.2

/-- A function that is given what it reads, and memory that it may write into; its answer, and that memory after. -/
def Proc (P : Program) (f : FuncId) (ds : List D) (rv : List Value) (rt : List T) (ks : List Blk) (r : D) (ks' : List Blk) : Prop :=
  Callable P f ∧ ∀ (w : World) (F : Nat → Prop) (args : Array Value) (bs : List Nat), (∀ b, F b → b < w.heap.size) → RelD w F nowhere args.toList ds [] → RelL w F rv rt → RelMs w ks bs → bs.Nodup → (∀ b, b ∈ bs → b < w.heap.size ∧ ¬ F b) →
    Calls P f args w fun e w' => ∃ v br bs', e = .returned v ∧ RelD w' nothing nowhere [v] [r] br ∧ RelMs w' ks' bs' ∧ (br ++ bs').Nodup ∧ (∀ b, b ∈ br ++ bs' → b ∈ bs ∨ (w.heap.size ≤ b ∧ b < w'.heap.size)) ∧
      w'.os = w.os ∧ w'.tape = w.tape ∧ w'.output = w.output ∧ w.heap.size ≤ w'.heap.size ∧ ∀ b, b < w.heap.size → b ∉ bs → w'.heap[b]? = w.heap[b]?

def LookMs (M : List (Nat × Blk)) : List Nat → List Blk → Prop
  | [], [] => True
  | i :: ids, k :: ks => lookM M i = some k ∧ k.shut = true ∧ LookMs M ids ks
  | _, _ => False
theorem LookMs.len {M : List (Nat × Blk)} : ∀ {ids : List Nat} {ks : List Blk}, LookMs M ids ks → ids.length = ks.length
  | [], [], _ => rfl
  | [], _ :: _, h => h.elim
  | _ :: _, [], h => h.elim
  | _ :: ids, _ :: ks, h => by simpa using LookMs.len h.2.2
theorem LookMs.at {M : List (Nat × Blk)} : ∀ {ids : List Nat} {ks : List Blk}, LookMs M ids ks → ∀ p, p ∈ ids.zip ks → lookM M p.1 = some p.2 ∧ p.2.shut = true
  | [], [], _, _, hp => by simp at hp
  | [], _ :: _, h, _, _ => h.elim
  | _ :: _, [], h, _, _ => h.elim
  | i :: ids, k :: ks, h, p, hp => by
    rw [List.zip_cons_cons] at hp
    rcases List.mem_cons.1 hp with rfl | hp
    · exact ⟨h.1, h.2.1⟩
    · exact LookMs.at h.2.2 p hp

section
variable {P : Program} {c : Ctx} {s : St} {Q : Exit → St → Prop} {ops : Array Oper} {rest : List Oper} {o : Oper}

/-- How such a body must end. -/
def EndsP (Γ : Tys) (fn : Func) (ids : List Nat) (r : D) (ks' : List Blk) : Exit → St → Prop
  | .normal, s | .ret, s => ∃ ds' ys, RetOk Γ s fn.results.toList ds' ys ∧ tupD ds' = r ∧ ys.Nodup ∧ D.noImm.noImmL ds' = true ∧ LookMs s.M ids ks' ∧ ∀ id, id ∈ ids → Sum.inr id ∉ ys
  | _, _ => False
theorem Proc.intro {Γ : Tys} (hΓ : Γ.ok P) {f : FuncId} {fn : Func} {code : Code} (hf : P.funcs[f]? = some fn) (hb : fn.body = some code) (hname : (fn.name == "runtime.NumGoroutine") = false) {N : Nat} {ds : List D} {rv : List Value} {rt : List T} {ks : List Blk} {r : D} {ks' : List Blk} (ids : List Nat) (rid : Nat) (fr : List (Nat × D)) (M : List (Nat × Blk))
    (hN : ds.length + (fn.ntmps - ds.length) = N) (hfr : (List.range ds.length).zip ds = fr) (hM : ids.zip ks ++ [(rid, .ro rv rt)] = M) (hids : ids.length = ks.length) (hnd : ids.Nodup) (hrid : rid ∉ ids) (hsh : ks.all Blk.shut = true)
    (h : ∀ w0 G F0, W P ⟨w0, G, F0, N⟩ code ⟨fr, M⟩ (EndsP Γ fn ids r ks')) : Proc P f ds rv rt ks r ks' := by
  classical
  subst hfr hM
  refine ⟨⟨fn, hf, by rw [hb]; rfl, hname⟩, ?_⟩
  intro w F args bs hF hargs hrd hms hbn hblt
  have hlen := hargs.length
  simp only [Array.length_toList] at hlen
  obtain ⟨mb0, hmb, rfl⟩ := relMs_split hids hnd hms
  have hshut : ∀ p, p ∈ ids.zip ks → p.2.shut = true := fun p hp => by
    rw [List.all_eq_true] at hsh
    exact hsh p.2 (List.of_mem_zip (a := p.1) (b := p.2) hp).2
  have hin : ∀ {i b}, i ∈ ids → b ∈ mb0 i → b ∈ ids.flatMap mb0 := fun hi hb => List.mem_flatMap.2 ⟨_, hi, hb⟩
  refine calls_of_wp hf hb ?_
  have h0 : Is ⟨w, fun b => b ∈ ids.flatMap mb0, F, N⟩ ⟨(List.range ds.length).zip ds, ids.zip ks ++ [(rid, .ro rv rt)]⟩ { tmps := args ++ Array.replicate (fn.ntmps - args.size) undef, defers := [] } w := by
    refine ⟨F, fun _ => none, fun _ => [], fun i => if i ∈ ids then mb0 i else [], fun b => if h : ∃ i, i ∈ ids ∧ b ∈ mb0 i then some (.inr h.choose) else none, ?_⟩
    have hlook : ∀ (l : List D) (k t : Nat), look ((List.range' k l.length).zip l) (k + t) = (l[t]?).getD .top := by
      intro l
      induction l with
      | nil => intro k t; simp [look]
      | cons d l ih =>
        intro k t
        rw [List.length_cons, List.range'_succ, List.zip_cons_cons]
        simp only [look]
        cases t with
        | zero => simp
        | succ t =>
          rw [if_neg (by omega), show k + (t + 1) = k + 1 + t from by omega, ih]
          simp
    have hl0 : ∀ t, look ((List.range ds.length).zip ds) t = (ds[t]?).getD .top := fun t => by
      have := hlook ds 0 t
      simpa [List.range_eq_range'] using this
    exact {
      fr := fun t => by
        rw [hl0]
        cases hd : ds[t]? with
        | none => exact .top .done
        | some d =>
          have hlt := (List.getElem?_eq_some_iff.1 hd).1
          obtain ⟨v, h1, h2⟩ := hargs.get0 t hd
          have hlt2 : t < args.size := by rw [hlen]; exact hlt
          have hv : (args ++ Array.replicate (fn.ntmps - args.size) undef).getD t undef = v := by
            rw [Array.getD_eq_getD_getElem?, Array.getElem?_append_left hlt2]
            have : args[t]? = some v := by simpa using h1
            rw [this]; rfl
          rw [hv]
          exact h2
      mem := fun i => by
        by_cases hi : i ∈ ids
        · obtain ⟨k, h1, h2⟩ := lookM_zip (M := [(rid, .ro rv rt)]) hids hi
          rw [h1]
          simp only [if_pos hi]
          exact (hmb _ h2).shut (hshut _ h2)
        · rw [lookM_zip' hi]
          simp only [lookM, if_neg hi]
          by_cases hr : rid = i
          · rw [if_pos hr]; exact ⟨hrd, rfl⟩
          · rw [if_neg hr]; trivial
      ofr := by simp
      omem := fun i b hb => by
        split at hb
        · rename_i hi
          have hex : ∃ i, i ∈ ids ∧ b ∈ mb0 i := ⟨i, hi, hb⟩
          rw [dif_pos hex]
          have := hex.choose_spec
          rw [flat_uniq hbn this.1 hi this.2 hb]
        · cases hb
      nfr := by simp
      nmem := fun i => by
        split
        · rename_i hi; exact flat_nodup_at hbn hi
        · simp
      own := fun b hb => by
        split at hb
        · rename_i hex
          obtain ⟨h1, h2⟩ := hex.choose_spec
          have := hblt b (hin h1 h2)
          exact ⟨this.2, this.1, .inr (hin h1 h2)⟩
        · exact absurd rfl hb
      fin := hF
      f0 := fun _ h => h
      fnew := fun _ h => .inl h
      f0in := fun b h => ⟨hF b h, fun h2 => (hblt b h2).2 h⟩
      gin := fun b h => (hblt b h).1
      os := rfl
      tape := rfl
      output := rfl
      size := Nat.le_refl _
      keep := fun _ _ _ => rfl
      defers := rfl
      tmps := by simp [hlen, hN] }
  refine Code.wp_mono ?_ (h w _ F _ _ h0)
  rintro e a' w' ⟨s', ⟨F', β, fb, mb, ow, hi⟩, hq⟩
  have key : (∃ ds' ys, RetOk Γ s' fn.results.toList ds' ys ∧ tupD ds' = r ∧ ys.Nodup ∧ D.noImm.noImmL ds' = true ∧ LookMs s'.M ids ks' ∧ ∀ id, id ∈ ids → Sum.inr id ∉ ys) → a'.defers = [] ∧ ∃ v, (results fn a'.tmps).run P w' = .ok v w' ∧
      ∃ v' br bs', Ending.returned v = .returned v' ∧ RelD w' nothing nowhere [v'] [r] br ∧ RelMs w' ks' bs' ∧ (br ++ bs').Nodup ∧ (∀ b, b ∈ br ++ bs' → b ∈ ids.flatMap mb0 ∨ (w.heap.size ≤ b ∧ b < w'.heap.size)) ∧
      w'.os = w.os ∧ w'.tape = w.tape ∧ w'.output = w.output ∧ w.heap.size ≤ w'.heap.size ∧ ∀ b, b < w.heap.size → b ∉ ids.flatMap mb0 → w'.heap[b]? = w.heap[b]? := by
    rintro ⟨ds', ys, h1, hr, h2, h3, h4, h5⟩
    obtain ⟨vs, br, q1, q2, q3, q4⟩ := ret_vals hΓ hi h1 h2
    have q5 := q2.noImm (F' := nothing) (β' := nowhere) h3
    have hres := results_run (P := P) fn a'.tmps q1
    have hfn : (ids.flatMap mb).Nodup := flat_nodup hnd (fun i _ => hi.nmem i) fun i j b _ _ h6 h7 => by
      have e1 := hi.omem i b h6
      rw [hi.omem j b h7] at e1
      cases e1; rfl
    refine ⟨hi.defers, _, hres, _, br, ids.flatMap mb, rfl, ?_, relMs_of h4.len fun p hp => ?_, List.nodup_append.2 ⟨q3, hfn, fun p hp q hq e => ?_⟩, fun b hb => ?_, hi.os, hi.tape, hi.output, hi.size, fun b hb hn => hi.keep b hb hn⟩
    · rw [← hr]
      have hl := q5.length
      match vs, ds', hl, q5 with
      | [], [], _, q5 => cases q5; exact RelD.tup (arr := #[]) (l := []) .done .done
      | [v], [d], _, q5 => exact q5
      | v :: v2 :: vs, d :: d2 :: ds', _, q5 => simpa [tupD] using RelD.tup (arr := (v :: v2 :: vs).toArray) q5 .done
    · obtain ⟨g1, g2⟩ := h4.at p hp
      have := hi.mem p.1
      rw [g1] at this
      exact this.shut g2
    · subst e
      obtain ⟨y, g1, g2⟩ := q4 p hp
      obtain ⟨i, hii, hpi⟩ := List.mem_flatMap.1 hq
      rw [hi.omem i p hpi] at g1
      cases g1
      exact h5 i hii g2
    · have : ow b ≠ none := by
        rcases List.mem_append.1 hb with hb | hb
        · obtain ⟨y, g1, _⟩ := q4 b hb; rw [g1]; simp
        · obtain ⟨i, hii, hpi⟩ := List.mem_flatMap.1 hb; rw [hi.omem i b hpi]; simp
      obtain ⟨_, g2, g3⟩ := hi.own b this
      exact g3.symm.imp (fun h => h) fun h => ⟨h, g2⟩
  cases e with
  | normal => exact key hq
  | ret => exact key hq
  | _ => exact hq.elim

/-- What is handed over: read, or a place. -/
inductive ResP (s : St) (ids : List Nat) : List D → List D → Prop
  | done : ResP s ids [] []
  | t {x ds es} : ResP s ids ds es → ResP s ids (.t x :: ds) (.t x :: es)
  | nil {ds es} (n : Nat) : ResP s ids ds es → ResP s ids (.nil :: ds) (.t (.list n []) :: es)
  | nil' {ds es} : ResP s ids ds es → ResP s ids (.nil :: ds) (.nil :: es)
  | own {n l ds es} : ResP s ids ds es → ResP s ids (.own (.list n l) :: ds) (.t (.list n l) :: es)
  | sl {id off len n xs ds es} : lookM s.M id = some (.L n xs) → ids.contains id = false → off + len ≤ xs.length → ResP s ids ds es → ResP s ids (.sl id off len :: ds) (.t (.list n ((xs.drop off).take len)) :: es)
  | pin {id i off b n cc ds es} (pid : Nat) : lookM s.M pid = some (.pin id b n cc) → ResP s ids ds es → ResP s ids (.ref id i off :: ds) (.t (.v (.pointer (some ⟨b, i * n + off, none⟩))) :: es)
  | agg {l l' ds es} : ResP s ids l l' → ResP s ids ds es → ResP s ids (.agg l :: ds) (.agg l' :: es)
  | aggT {l ts ds es} : ResP s ids l (ts.map D.t) → ResP s ids ds es → ResP s ids (.agg l :: ds) (.t (.agg ts) :: es)
  | top {d ds es} : ResP s ids ds es → ResP s ids (d :: ds) (.top :: es)

theorem ResP.sound {a : Act} {w : World} {F β fb mb ow} (hi : Conc c s a w F β fb mb ow) {ids : List Nat} {ds es : List D} (h : ResP s ids ds es) : ∀ {vs bs}, RelD w F β vs ds bs → (∀ b, b ∈ bs → ∃ t, ow b = some (.inl t)) →
    RelD w (fun b => b < w.heap.size ∧ ∀ i, i ∈ ids → b ∉ mb i) nowhere vs es [] := by
  have hFa : ∀ b, F b → b < w.heap.size ∧ ∀ i, i ∈ ids → b ∉ mb i := fun b hb => ⟨hi.fin b hb, fun i _ h => (hi.own b (by rw [hi.omem i b h]; simp)).1 hb⟩
  have hFt : ∀ b t, ow b = some (.inl t) → b < w.heap.size ∧ ∀ i, i ∈ ids → b ∉ mb i := fun b t hb => ⟨(hi.own b (by rw [hb]; simp)).2.1, fun i _ h => by rw [hi.omem i b h] at hb; cases hb⟩
  induction h with
  | done => intro vs bs hr _; cases hr; exact .done
  | t _ ih =>
    intro vs bs hr hb
    cases hr with
    | t h1 h2 => exact .t (h1.mono hFa fun _ _ => rfl) (ih h2 hb)
    | tagg h1 h2 => exact .tagg (h1.mono hFa fun _ _ => rfl) (ih h2 hb)
  | nil n _ ih =>
    intro vs bs hr hb
    cases hr with
    | nil h2 => exact .t (.none .nil) (ih h2 hb)
  | nil' _ ih =>
    intro vs bs hr hb
    cases hr with
    | nil h2 => exact .nil (ih h2 hb)
  | own _ ih =>
    intro vs bs hr hb
    cases hr with
    | own h1 h2 => exact .t (h1.rel fun b h => by obtain ⟨t, ht⟩ := hb b (by simp [h]); exact hFt b t ht) (ih h2 fun b h => hb b (by simp [h]))
  | @sl id off len n xs ds es hM hni hle _ ih =>
    intro vs bs hr hb
    have hid : id ∉ ids := by simpa using hni
    have hm := hi.mem id
    rw [hM] at hm
    have hFm : ∀ b, b ∈ mb id → b < w.heap.size ∧ ∀ i, i ∈ ids → b ∉ mb i := fun b hb' => ⟨(hi.own b (by rw [hi.omem id b hb']; simp)).2.1, fun i hii h => by
      have e1 := hi.omem i b h
      rw [hi.omem id b hb'] at e1
      cases e1
      exact hid hii⟩
    have hlen : ((xs.drop off).take len).length = len := by simp; omega
    cases hr with
    | slnil q1 q2 =>
      refine .t ?_ (ih q2 hb)
      rw [List.take_zero]
      exact .none .nil
    | @sl _ _ _ ad b n' cap k _ _ _ q1 q2 q3 q4 q5 =>
      refine .t ?_ (ih q5 hb)
      rcases hm with ⟨h, _⟩ | ⟨b1, cap1, arr, e, bs1, h1, h2, h3, h4, h5, h6, h7, h8⟩
      · rw [h] at q1; cases q1
      · rw [h1] at q1
        cases q1
        by_cases h0 : k = 0
        · have hl0 : len = 0 := by omega
          subst hl0
          rw [List.take_zero]
          exact .none .nil
        · have := q4 h0
          subst this
          have hrel := h7.rel (F := fun b => b < w.heap.size ∧ ∀ i, i ∈ ids → b ∉ mb i) fun b' hb' => hFm b' (by rw [h8]; simp [hb'])
          have h9 := (hrel.drop (off * n)).take (len * n)
          rw [flat_drop h4, flat_take fun z hz => h4 z (List.mem_of_mem_drop hz)] at h9
          have h10 := RelL.list (o := off * n) (cap := k) (xs := (xs.drop off).take len) (n := n) (fz := (0, 0)) (F := fun b => b < w.heap.size ∧ ∀ i, i ∈ ids → b ∉ mb i) (hFm b (by rw [h8]; simp)) h2 (fun j hj => by
            simp only [List.length_take, List.length_drop, Array.length_toList] at hj
            simp only [List.getElem?_take, List.getElem?_drop]
            rw [if_pos (by omega), if_pos (by omega)]
            simp) (fun z hz => h4 z (List.mem_of_mem_drop (List.mem_of_mem_take hz))) (by rw [hlen]; exact q2) h9 .nil
          rw [hlen] at h10
          exact h10
  | @pin id i off b n cc ds es pid hM _ ih =>
    intro vs bs hr hb
    have hm := hi.mem pid
    rw [hM] at hm
    cases hr with
    | ref q1 q2 =>
      have := hm.1
      rw [this] at q1
      cases q1
      exact .t (.v rfl .nil) (ih q2 hb)
  | agg _ _ ih1 ih2 =>
    intro vs bs hr hb
    cases hr with
    | agg h0 h1 h2 => exact .agg h0 (ih1 h1 fun b h => hb b (by simp [h])) (ih2 h2 fun b h => hb b (by simp [h]))
  | aggT _ _ ih1 ih2 =>
    intro vs bs hr hb
    cases hr with
    | agg h0 h1 h2 => exact .tagg (relL_of_ts (ih1 h1 fun b h => hb b (by simp [h])) h0) (ih2 h2 fun b h => hb b (by simp [h]))
  | top _ ih =>
    intro vs bs hr hb
    cases vs with
    | nil => cases hr
    | cons v vs =>
      obtain ⟨b1, b2, _, h2, rfl⟩ := hr.cons
      exact .top (ih h2 fun b h => hb b (by simp [h]))

theorem relD_ops' {a : Act} {w : World} {F β fb mb ow} (h : Conc c s a w F β fb mb ow) : ∀ l : List Operand, ∃ bs, RelD w F β (l.map a.eval) (l.map (opd s.fr)) bs ∧ ∀ b, b ∈ bs → ∃ t, ow b = some (.inl t)
  | [] => ⟨[], .done, by simp⟩
  | x :: l => by
    obtain ⟨bs, hr, h1⟩ := h.opd x
    obtain ⟨bs', hr', h2⟩ := relD_ops' h l
    refine ⟨bs ++ bs', RelD.cons' hr hr', fun b hb => ?_⟩
    rcases List.mem_append.1 hb with hb | hb
    · rcases h1 with rfl | ⟨t, _, rfl⟩
      · cases hb
      · exact ⟨t, h.ofr t b hb⟩
    · exact h2 b hb

/-- Behind such a call. -/
theorem Conc.lent {a : Act} {w w' : World} {F β fb mb ow} (hi : Conc c s a w F β fb mb ow) {t : Nat} (ht : t < c.n) {v : Value} {r : D} {br bs' : List Nat} {ids : List Nat} {ks' : List Blk} (hnd : ids.Nodup) (hl : ids.length = ks'.length) (hsh : ks'.all Blk.shut = true) (hrn : r.noImm = true)
    (q1 : RelD w' nothing nowhere [v] [r] br) (q2 : RelMs w' ks' bs') (q3 : (br ++ bs').Nodup) (q4 : ∀ b, b ∈ br ++ bs' → b ∈ ids.flatMap mb ∨ (w.heap.size ≤ b ∧ b < w'.heap.size))
    (q5 : w'.os = w.os) (q6 : w'.tape = w.tape) (q7 : w'.output = w.output) (q8 : w.heap.size ≤ w'.heap.size) (q9 : ∀ b, b < w.heap.size → b ∉ ids.flatMap mb → w'.heap[b]? = w.heap[b]?) : Is c ⟨(t, r) :: s.fr, ids.zip ks' ++ s.M⟩ (a.put (some t) v) w' := by
  classical
  obtain ⟨mbn, hmb, rfl⟩ := relMs_split hl hnd q2
  obtain ⟨n1, n2, n3⟩ := List.nodup_append.1 q3
  have hshut : ∀ p, p ∈ ids.zip ks' → p.2.shut = true := fun p hp => by
    rw [List.all_eq_true] at hsh
    exact hsh p.2 (List.of_mem_zip (a := p.1) (b := p.2) hp).2
  have hlent : ∀ b, b ∈ ids.flatMap mb → ∃ i, i ∈ ids ∧ ow b = some (.inr i) := fun b hb => by
    obtain ⟨i, h1, h2⟩ := List.mem_flatMap.1 hb
    exact ⟨i, h1, hi.omem i b h2⟩
  -- a block of what is not lent
  have stay : ∀ b y, ow b = some y → (∀ i, i ∈ ids → y ≠ .inr i) → b ∉ ids.flatMap mb ∧ b ∉ br ∧ (¬ ∃ i, i ∈ ids ∧ b ∈ mbn i) ∧ w'.heap[b]? = w.heap[b]? := fun b y hy hne => by
    have h1 : b ∉ ids.flatMap mb := fun h => by
      obtain ⟨i, h2, h3⟩ := hlent b h
      rw [hy] at h3; cases h3
      exact hne i h2 rfl
    have hlt := (hi.own b (by rw [hy]; simp)).2.1
    have h2 : b ∉ br ++ ids.flatMap mbn := fun h => by
      rcases q4 b h with h | h
      · exact h1 h
      · omega
    refine ⟨h1, fun h => h2 (by simp [h]), fun ⟨i, h3, h4⟩ => h2 (List.mem_append_right _ (List.mem_flatMap.2 ⟨i, h3, h4⟩)), q9 b hlt h1⟩
  have hFw : ∀ b, F b → w'.heap[b]? = w.heap[b]? := fun b hb => q9 b (hi.fin b hb) fun h => by
    obtain ⟨i, _, h3⟩ := hlent b h
    exact (hi.own b (by rw [h3]; simp)).1 hb
  refine ⟨F, β, fun u => if t = u then br else fb u, fun i => if i ∈ ids then mbn i else mb i, fun b => if b ∈ br then some (.inl t) else if h : ∃ i, i ∈ ids ∧ b ∈ mbn i then some (.inr h.choose) else if b ∈ ids.flatMap mb then none else ow b, ?_⟩
  have howof : ∀ b y, ow b = some y → (∀ i, i ∈ ids → y ≠ .inr i) → (if b ∈ br then some (.inl t) else if h : ∃ i, i ∈ ids ∧ b ∈ mbn i then some (.inr h.choose) else if b ∈ ids.flatMap mb then none else ow b) = some y := fun b y hy hne => by
    obtain ⟨h1, h2, h3, _⟩ := stay b y hy hne
    rw [if_neg h2, dif_neg h3, if_neg h1, hy]
  exact { hi with
    fr := fun u => by
      rw [getD_put _ _ _ _ (by rw [hi.tmps]; exact ht)]
      simp only [look]
      split
      · exact q1.noImm (by simp [D.noImm.noImmL, hrn])
      · exact (hi.fr u).mono (fun _ h => h) hFw (fun b h => (stay b _ (hi.ofr u b h) (by simp)).2.2.2) fun _ => rfl
    mem := fun i => by
      by_cases hii : i ∈ ids
      · obtain ⟨k, h1, h2⟩ := lookM_zip (M := s.M) hl hii
        rw [h1]
        simp only [if_pos hii]
        exact (hmb _ h2).shut (hshut _ h2)
      · rw [lookM_zip' hii]
        simp only [if_neg hii]
        have := hi.mem i
        cases h : lookM s.M i with
        | none => rw [h] at this; exact this
        | some k =>
          rw [h] at this
          exact RelB.mono this hFw fun b h => (stay b _ (hi.omem i b h) (fun j hj e => by cases e; exact hii hj)).2.2.2
    ofr := fun u b hb => by
      split at hb
      · rename_i e; subst e; rw [if_pos hb]
      · exact howof b _ (hi.ofr u b hb) (by simp)
    omem := fun i b hb => by
      split at hb
      · rename_i hii
        have hnb : b ∉ br := fun h => n3 b h b (List.mem_flatMap.2 ⟨i, hii, hb⟩) rfl
        have hex : ∃ i, i ∈ ids ∧ b ∈ mbn i := ⟨i, hii, hb⟩
        rw [if_neg hnb, dif_pos hex]
        have := hex.choose_spec
        rw [flat_uniq n2 this.1 hii this.2 hb]
      · rename_i hii
        exact howof b _ (hi.omem i b hb) (fun j hj e => by cases e; exact hii hj)
    nfr := fun u => by
      split
      · exact n1
      · exact hi.nfr u
    nmem := fun i => by
      split
      · rename_i hii; exact flat_nodup_at n2 hii
      · exact hi.nmem i
    own := fun b hb => by
      have hq : b ∈ br ++ ids.flatMap mbn → ¬ F b ∧ b < w'.heap.size ∧ (c.w0.heap.size ≤ b ∨ c.G b) := fun h => by
        rcases q4 b h with h | ⟨h1, h2⟩
        · obtain ⟨i, _, h3⟩ := hlent b h
          obtain ⟨g1, g2, g3⟩ := hi.own b (by rw [h3]; simp)
          exact ⟨g1, Nat.lt_of_lt_of_le g2 q8, g3⟩
        · exact ⟨fun h => by have := hi.fin b h; omega, h2, .inl (Nat.le_trans hi.size h1)⟩
      split at hb
      · rename_i h; exact hq (by simp [h])
      · split at hb
        · rename_i h; obtain ⟨i, h1, h2⟩ := h; exact hq (List.mem_append_right _ (List.mem_flatMap.2 ⟨i, h1, h2⟩))
        · split at hb
          · exact absurd rfl hb
          · obtain ⟨g1, g2, g3⟩ := hi.own b hb
            exact ⟨g1, Nat.lt_of_lt_of_le g2 q8, g3⟩
    fin := fun b h => Nat.lt_of_lt_of_le (hi.fin b h) q8
    os := q5.trans hi.os
    tape := q6.trans hi.tape
    output := q7.trans hi.output
    size := Nat.le_trans hi.size q8
    keep := fun b h hg => by
      rw [q9 b (Nat.lt_of_lt_of_le h hi.size) fun h2 => ?_]
      · exact hi.keep b h hg
      · obtain ⟨i, _, h3⟩ := hlent b h2
        rcases (hi.own b (by rw [h3]; simp)).2.2 with h4 | h4
        · omega
        · exact hg h4
    defers := (defers_put a _ v).trans hi.defers
    tmps := (size_put a _ v).trans hi.tmps }

theorem WO_callP {t rid : Nat} {fo : Operand} {args : Array Operand} {tys : Array TypeId} {f : FuncId} {es : List D} {rv : List Value} {rt : List T} {ks : List Blk} {r : D} {ks' : List Blk} (ids : List Nat) (hg : o.guard = none) (hd : o.dst = some t) (ht : t < c.n)
    (ho : o.op = .call { callee := .value fo, args := args, argTypes := tys }) (hf : opd s.fr fo = .clo f []) (hes : ResP s ids (args.toList.map (opd s.fr)) es) (hro : lookM s.M rid = some (.ro rv rt)) (hM : LookMs s.M ids ks) (hnd : ids.Nodup)
    (hm : Proc P f es rv rt ks r ks') (hr : r.noImm = true) (hl' : ids.length = ks'.length) (hks' : ks'.all Blk.shut = true)
    (k : WO P c ops rest ⟨(t, r) :: s.fr, ids.zip ks' ++ s.M⟩ Q) : WO P c ops (o :: rest) s Q := by
  rintro a w ⟨F, β, fb, mb, ow, hi⟩
  obtain ⟨bf, hrf, h1⟩ := hi.opd fo
  rw [hf] at hrf
  obtain ⟨arr, bs', hv, hr1, rfl⟩ := relD_append' hrf
  have ha : arr = #[] := by
    have := hr1.length
    simpa using this
  subst ha
  obtain ⟨bs, hr2, h2⟩ := relD_ops' hi args.toList
  have hsound := hes.sound hi hr2 h2
  have hrun : (execOp a.eval o).run P w = .ok (.enter f (args.map a.eval)) w := by
    simp [execOp, ho, resolve, hv, Deferred.ofValue, invoke, run_callFunc hm.1]
  refine wpList_plain hg fun K hK => ?_
  unfold Oper.wp
  rw [hrun, Oper.upon_enter]
  have hrel : ∀ p, p ∈ ids.zip ks → RelB w nothing nowhere 0 p.2 (mb p.1) := fun p hp => by
    obtain ⟨g1, g2⟩ := hM.at p hp
    have := hi.mem p.1
    rw [g1] at this
    exact this.shut g2
  have hfn : (ids.flatMap mb).Nodup := flat_nodup hnd (fun i _ => hi.nmem i) fun i j b _ _ h6 h7 => by
    have e1 := hi.omem i b h6
    rw [hi.omem j b h7] at e1
    cases e1; rfl
  have hrr := hi.mem rid
  rw [hro] at hrr
  refine (hm.2 w (fun b => b < w.heap.size ∧ ∀ i, i ∈ ids → b ∉ mb i) (args.map a.eval) (ids.flatMap mb) (fun b h => h.1) (by simpa using hsound) (hrr.1.mono (fun b hb => ⟨hi.fin b hb, fun i _ h => (hi.own b (by rw [hi.omem i b h]; simp)).1 hb⟩) fun _ _ => rfl) (relMs_of hM.len hrel) hfn fun b hb => ?_).mono ?_
  · obtain ⟨i, h3, h4⟩ := List.mem_flatMap.1 hb
    exact ⟨(hi.own b (by rw [hi.omem i b h4]; simp)).2.1, fun h => h.2 i h3 h4⟩
  rintro e w' ⟨v, br, bs', rfl, q1, q2, q3, q4, q5, q6, q7, q8, q9⟩
  dsimp only
  rw [hd]
  exact hK _ _ (k _ _ (hi.lent ht hnd hl' hks' hr q1 q2 q3 q4 q5 q6 q7 q8 q9))

/-! ### Places that are told -/

theorem Is.pin {a : Act} {w : World} (h : Is c s a w) {u pid : Nat} {cells : List D} (hM : lookM s.M u = some (.box cells)) (h2 : lookM s.M pid = none) : ∃ b, Is c ⟨s.fr, (pid, .pin u b cells.length 1) :: s.M⟩ a w := by
  obtain ⟨F, β, fb, mb, ow, hi⟩ := h
  have hm := hi.mem u
  rw [hM] at hm
  obtain ⟨b, arr, e, bs', h1, h3⟩ := hm
  refine ⟨b, F, β, fb, mb, ow, { hi with mem := fun i => ?_ }⟩
  simp only [lookM]
  by_cases hp : pid = i
  · subst hp
    rw [if_pos rfl]
    have := hi.mem pid
    rw [h2] at this
    exact ⟨h1, this⟩
  · rw [if_neg hp]; exact hi.mem i
theorem Le.open {u b n : Nat} {cells : List D} (pid : Nat) (hM : lookM s.M u = some (.obox (.pointer (some ⟨b, 0, none⟩)) cells)) (hp : lookM s.M pid = some (.pin u b n 1)) (hn : n = cells.length) (hc : D.noImm.noImmL cells = true) : Le c s ⟨s.fr, (u, .box cells) :: s.M⟩ := by
  subst hn
  rintro a w ⟨F, β, fb, mb, ow, hi⟩
  have hm := hi.mem u
  rw [hM] at hm
  have h6 := hi.mem pid
  rw [hp] at h6
  rcases hm with ⟨h, _⟩ | ⟨b', arr, e, bs', h1, h2, h3, h4, h5⟩
  · cases h
  cases h1
  refine ⟨F, β, fb, mb, ow, { hi with mem := fun i => ?_ }⟩
  simp only [lookM]
  by_cases hu : u = i
  · subst hu
    rw [if_pos rfl]
    exact ⟨b, arr, e, bs', h6.1, h2, h3.noImm hc, h4, h5⟩
  · rw [if_neg hu]; exact hi.mem i

theorem clMk_look {t : Nat} : ∀ {M : List (Nat × Blk)}, (M.all fun p => cleanB t p.2) = true → ∀ id k, lookM M id = some k → cleanB t k = true
  | [], _, _, _, h => by cases h
  | (j, k0) :: M, h, id, k, hk => by
    rw [List.all_cons, Bool.and_eq_true] at h
    simp only [lookM] at hk
    split at hk
    · cases hk; exact h.1
    · exact clMk_look h.2 id k hk

/-- A told place, named; and told again. -/
theorem Le.named {t u b n cc off : Nat} (pid : Nat) (h1 : look s.fr t = .t (.v (.pointer (some ⟨b, off, none⟩)))) (hp : lookM s.M pid = some (.pin u b n cc)) : Le c s ⟨(t, .ref u 0 off) :: s.fr, s.M⟩ := by
  rintro a w ⟨F, β, fb, mb, ow, hi⟩
  have h6 := hi.mem pid
  rw [hp] at h6
  have hr := hi.fr t
  rw [h1] at hr
  have e1 := relD_t hr
  have hf : fb t = [] := hr.free1 rfl
  refine ⟨F, β, fb, mb, ow, { hi with fr := fun v => ?_ }⟩
  simp only [look]
  split
  · rename_i e
    subst e
    rw [e1, hf]
    have := RelD.ref (w := w) (F := F) (β := β) (i := 0) (off := off) h6.1 RelD.done
    simpa using this
  · exact hi.fr v
end
end Go.Eng
end

section
/- Some of the values of a list kept, the others let go. -/
set_option linter.unusedVariables false
set_option linter.unusedSimpArgs false
namespace Go.Eng
open Go.RowKit
section
variable {P : Program} {c : Ctx} {s : St}
end

end Go.Eng
end

section
/- Statements of open order in which operations write into memory: what each leaves is told, and where two are not ordered they do not meet. -/
set_option linter.unusedVariables false
set_option linter.unusedSimpArgs false
namespace Go.Eng
open Go.RowKit

section
variable {ops : Array Oper} {X : Nat → Bool}
end

/-- The slots and the memory that an operation writes. -/
def Dl.ws (x : Dl) : List Nat := x.t :: x.mv
def dropB (b : List Nat) (M : List (Nat × Blk)) : List (Nat × Blk) := M.filter fun p => !b.contains p.1
section
variable {P : Program} {c : Ctx} {s : St} {Q : Exit → St → Prop} {ops : Array Oper} {rest : List Oper} {o : Oper}

def QH (P : Program) (c : Ctx) (ops : Array Oper) : List (List Nat) → List Oper → St → List Dl → (St → List Dl → Prop) → Prop
  | _, [], s, acc, Q => Q s acc
  | bs, o :: rest, s, acc, Q => ∃ x : Dl, (∀ s', AgreeG ops o s.fr (dropB (bs.headD []) s.M) s' → (x.b = true → Cl x.t s') → StepTo P c ops o s' (x.on s')) ∧ QH P c ops bs.tail rest (x.on s) (acc ++ [x]) Q

theorem QH.steps : ∀ {l : List Oper} {bs : List (List Nat)} {s : St} {acc : List Dl} {Q : St → List Dl → Prop}, QH P c ops bs l s acc Q → ∃ xs : List Dl, xs.length = l.length ∧ Q (onL xs s) (acc ++ xs) ∧
    ∀ i o, l[i]? = some o → ∃ x, xs[i]? = some x ∧ ∀ s', AgreeG ops o (onL (xs.take i) s).fr (dropB (bs.getD i []) (onL (xs.take i) s).M) s' → (x.b = true → Cl x.t s') → StepTo P c ops o s' (x.on s')
  | [], _, s, acc, Q, h => ⟨[], rfl, by rw [List.append_nil]; exact h, by simp⟩
  | o :: rest, bs, s, acc, Q, h => by
    obtain ⟨x, h2, h3⟩ := h
    obtain ⟨xs, q1, q2, q3⟩ := QH.steps h3
    refine ⟨x :: xs, by simp [q1], by simpa [onL] using q2, fun i o' hi => ?_⟩
    cases i with
    | zero =>
      simp at hi; subst hi
      refine ⟨x, rfl, ?_⟩
      have e : bs.getD 0 [] = bs.headD [] := by cases bs <;> rfl
      rw [e]
      exact h2
    | succ i =>
      obtain ⟨y, p1, p3⟩ := q3 i o' (by simpa using hi)
      refine ⟨y, by simpa using p1, ?_⟩
      have e : bs.getD (i + 1) [] = bs.tail.getD i [] := by cases bs <;> simp
      rw [e]
      simpa [onL] using p3

/-! ### The words for it -/
end
end Go.Eng
end

section
/- Rules for what is reached by places: checks for none, cells that are moved out, copies into slices, writes and calls in statements of open order. -/
set_option linter.unusedVariables false
set_option linter.unusedSimpArgs false
namespace Go.Eng
open Go.RowKit

section
variable {P : Program} {c : Ctx} {s : St} {Q : Exit → St → Prop} {ops : Array Oper} {rest : List Oper} {o : Oper}

theorem LookMs.up {M M' : List (Nat × Blk)} (h : ∀ id k, lookM M id = some k → lookM M' id = some k) : ∀ {ids : List Nat} {ks : List Blk}, LookMs M ids ks → LookMs M' ids ks
  | [], [], _ => trivial
  | [], _ :: _, h' => h'.elim
  | _ :: _, [], h' => h'.elim
  | _ :: _, _ :: _, ⟨h1, h2, h3⟩ => ⟨h _ _ h1, h2, LookMs.up h h3⟩
theorem ResP.up {M0 : List (Nat × Blk)} {fr : List (Nat × D)} {s' : St} {ids : List Nat} (hM : ∀ id k, lookM M0 id = some k → lookM s'.M id = some k) {ds es : List D} (h : ResP ⟨fr, M0⟩ ids ds es) : ResP s' ids ds es := by
  induction h with
  | done => exact .done
  | t _ ih => exact .t ih
  | nil n _ ih => exact .nil n ih
  | nil' _ ih => exact .nil' ih
  | own _ ih => exact .own ih
  | sl h1 h2 h3 _ ih => exact .sl (hM _ _ h1) h2 h3 ih
  | pin pid h1 _ ih => exact .pin pid (hM _ _ h1) ih
  | agg _ _ ih1 ih2 => exact .agg ih1 ih2
  | aggT _ _ ih1 ih2 => exact .aggT ih1 ih2
  | top _ ih => exact .top ih
end
end Go.Eng
end

section
/- Copies of plain values into a slice of the function's own. -/
set_option linter.unusedVariables false
set_option linter.unusedSimpArgs false
namespace Go.Eng
open Go.RowKit

section
variable {P : Program} {c : Ctx} {s : St} {Q : Exit → St → Prop} {ops : Array Oper} {rest : List Oper} {o : Oper}

end
end Go.Eng
end

section
/- Slices whose place is told: they are cut, appended to where there is room, and cleared. -/
set_option linter.unusedVariables false
set_option linter.unusedSimpArgs false
namespace Go.Eng
open Go.RowKit

section
variable {P : Program} {c : Ctx} {s : St} {Q : Exit → St → Prop} {ops : Array Oper} {rest : List Oper} {o : Oper}

end
end Go.Eng
end

section
/- Lists of which some cells are told and others owned: they are put together; slices that are told are named. -/
set_option linter.unusedVariables false
set_option linter.unusedSimpArgs false
namespace Go.Eng
open Go.RowKit

/-- Cells of which some are told, and owned elsewhere: those are to be owned here. -/
inductive Mix : List Value → List T → List T → List T → Prop
  | nil : Mix [] [] [] []
  | keep {v t y vs ts ys xs} : Mix vs ts ys xs → Mix (v :: vs) (t :: ts) (y :: ys) (y :: xs)
  | claim {v t vs ts ys xs} : Mix vs ts ys xs → Mix (v :: vs) (t :: ts) (.v v :: ys) (t :: xs)
theorem Mix.len {vs ts ys xs} (h : Mix vs ts ys xs) : vs.length = ys.length ∧ xs.length = ys.length := by
  induction h with
  | nil => exact ⟨rfl, rfl⟩
  | keep _ ih => simpa using ih
  | claim _ ih => simpa using ih
section
variable {P : Program} {c : Ctx} {s : St} {Q : Exit → St → Prop} {ops : Array Oper} {rest : List Oper} {o : Oper}

/-- What a function holds is named anew. -/
theorem Conc.name {a : Act} {w : World} {F β fb mb ow} (hi : Conc c s a w F β fb mb ow) {u b n cc : Nat} (pid : Nat) {k0 k1 : Blk} (hM : lookM s.M u = some k0) (h2 : lookM s.M pid = none) (h3 : clFr u s.fr = true) (h4 : (s.M.all fun p => cleanB u p.2) = true)
    (hk : ∀ β' : Place, β' u = some (b, n, cc) → RelB w F β u k0 (mb u) → RelB w F β' u k1 (mb u)) : Is c ⟨s.fr, (u, k1) :: (pid, .pin u b n cc) :: s.M⟩ a w := by
  have hm := hi.mem u
  rw [hM] at hm
  have hup : ¬ u = pid := fun e => by rw [e, h2] at hM; cases hM
  have hβ : ∀ i, i ≠ u → (fun i => if i = u then some (b, n, cc) else β i) i = β i := fun i h => by simp [h]
  have hcm := clMk_look h4
  refine ⟨F, fun i => if i = u then some (b, n, cc) else β i, fb, mb, ow, { hi with fr := fun t => (hi.fr t).other hβ (by simp only [D.has.hasL, Bool.or_false]; exact clFr_look h3 t), mem := fun i => ?_ }⟩
  simp only [lookM]
  by_cases hu : u = i
  · subst hu
    rw [if_pos rfl]
    exact hk _ (by simp) hm
  · rw [if_neg hu]
    by_cases hp : pid = i
    · subst hp
      rw [if_pos rfl]
      have := hi.mem pid
      rw [h2] at this
      exact ⟨by simp, this⟩
    · rw [if_neg hp]
      have hm := hi.mem i
      cases hk : lookM s.M i with
      | none => rw [hk] at hm; exact hm
      | some k =>
        rw [hk] at hm
        have hck := hcm i k hk
        have hiu : ¬ i = u := fun e => hu e.symm
        cases k with
        | L n' xs' =>
          rcases hm with ⟨g1, g2, g3⟩ | ⟨b, cap, arr', e', bs', g1, g⟩
          · exact .inl ⟨by dsimp only; rw [if_neg hiu]; exact g1, g2, g3⟩
          · exact .inr ⟨b, cap, arr', e', bs', by dsimp only; rw [if_neg hiu]; exact g1, g⟩
        | box cs =>
          obtain ⟨b, arr', e', bs', g1, g2, g3, g4, g5⟩ := hm
          simp only [cleanB, Bool.not_eq_true'] at hck
          exact ⟨b, arr', e', bs', by dsimp only; rw [if_neg hiu]; exact g1, g2, g3.other hβ hck, g4, g5⟩
        | raw _ _ _ _ => exact hm
        | rawV _ _ => exact hm
        | ro _ _ => exact hm
        | pin j b n c =>
          simp only [cleanB, Bool.not_eq_true', beq_eq_false_iff_ne] at hck
          exact ⟨by dsimp only; rw [if_neg hck]; exact hm.1, hm.2⟩
        | obox _ _ => exact hm
        | bld _ _ _ _ => exact hm

end
end Go.Eng
end

section
/- Variables made, and lent as they are, in statements of open order. -/
set_option linter.unusedVariables false
set_option linter.unusedSimpArgs false
namespace Go.Eng
open Go.RowKit

section
variable {P : Program} {c : Ctx} {s : St} {ops : Array Oper} {rest : List Oper} {o : Oper}

theorem ResP.pin0 {s : St} {ids : List Nat} {id off b n cc : Nat} {ds es : List D} (pid : Nat) (h : lookM s.M pid = some (.pin id b n cc)) (k : ResP s ids ds es) : ResP s ids (.ref id 0 off :: ds) (.t (.v (.pointer (some ⟨b, off, none⟩))) :: es) := by
  have := ResP.pin (i := 0) (off := off) pid h k
  rwa [Nat.zero_mul, Nat.zero_add] at this
end
end Go.Eng
end
