/- The table of types held against the program; the words in which a function's walk is typed. -/
import Derived.Test.YtbkamkmmljbedaaEng7
set_option linter.unusedVariables false
set_option linter.unusedSimpArgs false
namespace Go.Eng
open Go.RowKit

def eqV : Value → Value → Bool
  | .int k a, .int k' b => k == k' && a == b
  | .bool a, .bool b => a == b
  | .string a, .string b => a.data.toList == b.data.toList
  | .slice none 0 0, .slice none 0 0 => true
  | .pointer none, .pointer none => true
  | .map none, .map none => true
  | .nilFunc, .nilFunc => true
  | .nilIface, .nilIface => true
  | _, _ => false

theorem eqV_sound {a b : Value} (h : eqV a b = true) : a = b := by
  unfold eqV at h
  split at h <;> first
    | rfl
    | (cases h; done)
    | (simp only [Bool.and_eq_true, beq_iff_eq] at h; rw [h.1, h.2]; done)
    | (simp only [beq_iff_eq] at h; rw [h]; done)
    | (rename_i x y
       cases x; cases y
       simp only [beq_iff_eq] at h
       rw [Array.toList_inj.1 h])

def eqVs : List Value → List Value → Bool
  | [], [] => true
  | a :: l, b :: m => eqV a b && eqVs l m
  | _, _ => false

theorem eqVs_sound : ∀ {a b : List Value}, eqVs a b = true → a = b
  | [], [], _ => rfl
  | [], _ :: _, h => by cases h
  | _ :: _, [], h => by cases h
  | a :: l, b :: m, h => by
    simp only [eqVs, Bool.and_eq_true] at h
    rw [eqV_sound h.1, eqVs_sound h.2]

def TK.okB (P : Program) (t : Nat) (size : Nat) : TK → Bool
  | .one => size == 1 && match P.underlying t with | some (.struct _) => false | some (.array _ _) => false | some _ => true | none => false
  | .bool => size == 1 && match P.underlying t with | some .bool => true | _ => false
  | .str => size == 1 && match P.underlying t with | some .string => true | _ => false
  | .ptr => size == 1 && match P.underlying t with | some (.pointer _) => true | _ => false
  | .slice e => size == 1 && match P.underlying t with | some (.slice e') => e == e' | _ => false
  | .agg offs => match P.underlying t with
    | some (.struct fs) => fs.toList.map (·.offset) == offs && fs.toList.all fun f => match P.info? f.type with | some i => i.size != 0 | none => false
    | _ => false

def TI.okB (P : Program) (t : Nat) (x : TI) : Bool :=
  (match P.info? t with
  | some i => i.size == x.size && i.bytes == x.bytes && match i.zero with | some z => eqVs z.cells.toList x.zero | none => false
  | none => false) && x.kind.okB P t x.size

theorem TI.okB_sound {P : Program} {t : Nat} {x : TI} (h : x.okB P t = true) : x.ok P t := by
  unfold TI.okB at h
  rw [Bool.and_eq_true] at h
  obtain ⟨h1, h2⟩ := h
  refine ⟨?_, ?_⟩
  · split at h1
    · rename_i i hi
      simp only [Bool.and_eq_true, beq_iff_eq] at h1
      obtain ⟨⟨h3, h4⟩, h5⟩ := h1
      split at h5
      · rename_i z hz
        exact ⟨i, z, hi, h3, h4, hz, eqVs_sound h5⟩
      · cases h5
    · cases h1
  · unfold TK.okB at h2
    cases hk : x.kind with
    | one =>
      rw [hk] at h2
      simp only [Bool.and_eq_true, beq_iff_eq] at h2
      refine ⟨h2.1, ?_⟩
      cases hu : P.underlying t with
      | none => rw [hu] at h2; simp at h2
      | some d => rw [hu] at h2; refine ⟨d, rfl, ?_⟩; cases d <;> simp_all
    | bool =>
      rw [hk] at h2
      simp only [Bool.and_eq_true, beq_iff_eq] at h2
      refine ⟨h2.1, ?_⟩
      have h3 := h2.2
      split at h3
      · assumption
      · cases h3
    | str =>
      rw [hk] at h2
      simp only [Bool.and_eq_true, beq_iff_eq] at h2
      refine ⟨h2.1, ?_⟩
      have h3 := h2.2
      split at h3
      · assumption
      · cases h3
    | ptr =>
      rw [hk] at h2
      simp only [Bool.and_eq_true, beq_iff_eq] at h2
      refine ⟨h2.1, ?_⟩
      have h3 := h2.2
      split at h3
      · exact ⟨_, by assumption⟩
      · cases h3
    | slice e =>
      rw [hk] at h2
      simp only [Bool.and_eq_true, beq_iff_eq] at h2
      refine ⟨h2.1, ?_⟩
      have h3 := h2.2
      split at h3
      · rename_i e' he; simp only [beq_iff_eq] at h3; rw [h3]; exact he
      · cases h3
    | agg offs =>
      rw [hk] at h2
      dsimp only at h2 ⊢
      split at h2
      · rename_i fs hfs
        simp only [Bool.and_eq_true, beq_iff_eq, List.all_eq_true] at h2
        refine ⟨fs, hfs, h2.1, fun f hf => ?_⟩
        have h3 := h2.2 f hf
        split at h3
        · rename_i i hi; exact ⟨i, hi, by simpa using h3⟩
        · cases h3
      · cases h2

def Tys.okB (P : Program) (l : Tys) : Bool := l.all fun p => p.2.okB P p.1

theorem Tys.okB_sound {P : Program} : ∀ {l : Tys}, Tys.okB P l = true → Tys.ok P l
  | [], _ => trivial
  | (k, x) :: l, h => by
    simp only [Tys.okB, List.all_cons, Bool.and_eq_true] at h
    exact ⟨TI.okB_sound h.1, Tys.okB_sound h.2⟩

/-! ### A state written out -/

def spineT {α : Type} : List T → (List T → Option α) → Option α
  | [], k => k []
  | x :: l, k => spineT l fun l' => k (x :: l')

def headT {α : Type} (x : T) (k : T → Option α) : Option α := match x with
  | .v y => k (.v y)
  | .list n l => k (.list n l)
  | .agg l => spineT l fun l' => k (.agg l')

def cellD {α : Type} (d : D) (k : D → Option α) : Option α := match d with
  | .t x => headT x fun x' => k (.t x')
  | .nil => k .nil
  | .agg l => k (.agg l)
  | .ref a b c => k (.ref a b c)
  | .sl a b c => k (.sl a b c)
  | .rp x o => k (.rp x o)
  | .clo f l => k (.clo f l)
  | .tup l => k (.tup l)
  | .own x => k (.own x)
  | .top => k .top

def spineD {α : Type} : List D → (List D → Option α) → Option α
  | [], k => k []
  | d :: l, k => cellD d fun d' => spineD l fun l' => k (d' :: l')

def headD {α : Type} (d : D) (k : D → Option α) : Option α := match d with
  | .agg l => spineD l fun l' => k (.agg l')
  | .tup l => spineD l fun l' => k (.tup l')
  | .clo f l => spineD l fun l' => k (.clo f l')
  | d => cellD d k

/-- The same, what a closure has caught left as it is. -/
def headF {α : Type} (d : D) (k : D → Option α) : Option α := match d with
  | .agg l => spineD l fun l' => k (.agg l')
  | .tup l => spineD l fun l' => k (.tup l')
  | d => cellD d k

def spineF {α : Type} : List (Nat × D) → (List (Nat × D) → Option α) → Option α
  | [], k => k []
  | (t, d) :: l, k => headF d fun d' => spineF l fun l' => k ((t, d') :: l')

def spineM {α : Type} : List (Nat × Blk) → (List (Nat × Blk) → Option α) → Option α
  | [], k => k []
  | (t, b) :: l, k => match b with
    | .L n xs => spineM l fun l' => k ((t, .L n xs) :: l')
    | .box cells => spineD cells fun c' => spineM l fun l' => k ((t, .box c') :: l')
    | .raw b sz vs ts => spineM l fun l' => k ((t, .raw b sz vs ts) :: l')
    | .rawV vs ts => spineM l fun l' => k ((t, .rawV vs ts) :: l')
    | .ro vs ts => spineM l fun l' => k ((t, .ro vs ts) :: l')

def forceS (s : St) : Option St := spineF s.fr fun fr => spineM s.M fun M => some ⟨fr, M⟩

theorem spineT_eq {α : Type} : ∀ (l : List T) (k : List T → Option α), spineT l k = k l
  | [], _ => rfl
  | x :: l, k => by rw [spineT, spineT_eq]
theorem headT_eq {α : Type} (x : T) (k : T → Option α) : headT x k = k x := by cases x <;> simp [headT, spineT_eq]
theorem cellD_eq {α : Type} (d : D) (k : D → Option α) : cellD d k = k d := by cases d <;> simp [cellD, headT_eq]
theorem spineD_eq {α : Type} : ∀ (l : List D) (k : List D → Option α), spineD l k = k l
  | [], _ => rfl
  | x :: l, k => by rw [spineD, cellD_eq, spineD_eq]
theorem headD_eq {α : Type} (d : D) (k : D → Option α) : headD d k = k d := by cases d <;> simp [headD, spineD_eq, cellD_eq]
theorem headF_eq {α : Type} (d : D) (k : D → Option α) : headF d k = k d := by cases d <;> simp [headF, spineD_eq, cellD_eq]
theorem spineF_eq {α : Type} : ∀ (l : List (Nat × D)) (k : List (Nat × D) → Option α), spineF l k = k l
  | [], _ => rfl
  | (t, d) :: l, k => by rw [spineF, headF_eq, spineF_eq]
theorem spineM_eq {α : Type} : ∀ (l : List (Nat × Blk)) (k : List (Nat × Blk) → Option α), spineM l k = k l
  | [], _ => rfl
  | (t, .L n xs) :: l, k => by rw [spineM, spineM_eq]
  | (t, .box c) :: l, k => by rw [spineM, spineD_eq, spineM_eq]
  | (t, .raw _ _ _ _) :: l, k => by rw [spineM, spineM_eq]
  | (t, .rawV _ _) :: l, k => by rw [spineM, spineM_eq]
  | (t, .ro _ _) :: l, k => by rw [spineM, spineM_eq]
theorem forceS_eq {s s' : St} (h : forceS s = some s') : s = s' := by
  rw [forceS, spineF_eq, spineM_eq] at h
  exact Option.some.inj h

def evF (Γ : Tys) (s : St) (o : Op) : Option D := match evV Γ s o with
  | some d => (match o with | .makeFunc .. => headD d some | _ => headF d some)
  | none => none

section
variable {P : Program} {c : Ctx} {s : St} {Q : Exit → St → Prop} {ops : Array Oper} {rest : List Oper} {o : Oper} {y : Code}

theorem WO_norm {l : List Oper} {s' : St} (h : forceS s = some s') (k : WO P c ops l s' Q) : WO P c ops l s Q := by rw [forceS_eq h]; exact k
theorem W_norm {x : Code} {s' : St} (h : forceS s = some s') (k : W P c x s' Q) : W P c x s Q := by rw [forceS_eq h]; exact k
theorem WO_evF {Γ : Tys} (hΓ : Γ.ok P) {t : Nat} {d : D} (hg : o.guard = none) (hd : o.dst = some t) (ht : t < c.n) (he : evF Γ s o.op = some d)
    (k : WO P c ops rest ⟨(t, d) :: s.fr, s.M⟩ Q) : WO P c ops (o :: rest) s Q := by
  refine WO_ev hΓ hg hd ht ?_ k
  unfold evF at he
  split at he
  · rename_i d' h
    rw [h]
    split at he
    · rw [← headD_eq d' some, he]
    · rw [← headF_eq d' some, he]
  · cases he

/-- A function, its first frame written out. -/
theorem Fun.begin {Γ : Tys} (hΓ : Γ.ok P) {f : FuncId} {fn : Func} {code : Code} (hf : P.funcs[f]? = some fn) (hb : fn.body = some code) (hname : (fn.name == "runtime.NumGoroutine") = false) {N : Nat} {ds rs : List D} (fr : List (Nat × D)) (hN : ds.length + (fn.ntmps - ds.length) = N)
    (hfr : (List.range ds.length).zip ds = fr)
    (h : ∀ w0 G F0, W P ⟨w0, G, F0, N⟩ code ⟨fr, []⟩ (Ends Γ fn rs)) : Fun P f ds (tupD rs) := by
  subst hfr
  exact Fun.intro hΓ hf hb hname hN h

theorem lt_of {a b : Nat} (h : Nat.blt a b = true) : a < b := by simpa using h
theorem thenQ_n (h : W P c y s Q) : thenQ P c y Q .normal s := h
theorem thenQ_e {id : Nat} (h : Q (.exit id) s) : thenQ P c y Q (.exit id) s := h
theorem thenQ_r (h : Q .ret s) : thenQ P c y Q .ret s := h
theorem inBlk_n {id : Nat} (h : Q .normal s) : inBlk id Q .normal s := h
theorem inBlk_r {id : Nat} (h : Q .ret s) : inBlk id Q .ret s := h
theorem inBlk_y {id : Nat} (h : Q .normal s) : inBlk id Q (.exit id) s := by simp only [inBlk, if_true]; exact h
theorem inBlk_e {id id' : Nat} (hne : (id' == id) = false) (h : Q (.exit id') s) : inBlk id Q (.exit id') s := by
  have : id' ≠ id := by simpa using hne
  simp only [inBlk, if_neg this]; exact h

/-- What is kept of a state at the head of a loop: these temporaries, these ids, as they are; those anew. -/
def keepF (fr : List (Nat × D)) (ks : List Nat) : List (Nat × D) := ks.map fun k => (k, look fr k)
def keepM (M : List (Nat × Blk)) : List Nat → List (Nat × Blk)
  | [] => []
  | k :: ks => match lookM M k with
    | some b => (k, b) :: keepM M ks
    | none => keepM M ks

/-- The end of a round. -/
def loopQ {α : Type} (c : Ctx) (S : α → St) (inv : α → Prop) (μ : α → Nat) (x : α) (Q : Exit → St → Prop) : Exit → St → Prop
  | .normal, s' => ∃ x', Le c s' (S x') ∧ inv x' ∧ μ x' < μ x
  | e, s' => Q e s'

theorem loopQ_e {α : Type} {S : α → St} {inv : α → Prop} {μ : α → Nat} {x : α} {id : Nat} (h : Q (.exit id) s) : loopQ c S inv μ x Q (.exit id) s := h
theorem loopQ_r {α : Type} {S : α → St} {inv : α → Prop} {μ : α → Nat} {x : α} (h : Q .ret s) : loopQ c S inv μ x Q .ret s := h
theorem loopQ_n {α : Type} {S : α → St} {inv : α → Prop} {μ : α → Nat} {x : α} (x' : α) (h1 : Sub (S x').fr s.fr) (h2 : SubM (S x').M s.M) (h3 : inv x') (h4 : μ x' < μ x) : loopQ c S inv μ x Q .normal s :=
  ⟨x', Le.sub h1 h2, h3, h4⟩

theorem W_loopK {α : Type} {body : Code} (ks km : List Nat) (fr : α → List (Nat × D)) (M : α → List (Nat × Blk)) (inv : α → Prop) (μ : α → Nat) (x0 : α)
    (h1 : Sub (fr x0 ++ keepF s.fr ks) s.fr) (h2 : SubM (M x0 ++ keepM s.M km) s.M) (h3 : inv x0)
    (round : ∀ x, inv x → W P c body ⟨fr x ++ keepF s.fr ks, M x ++ keepM s.M km⟩ (loopQ c (fun x => ⟨fr x ++ keepF s.fr ks, M x ++ keepM s.M km⟩) inv μ x Q)) : W P c (.loop body) s Q := by
  refine W_loop (α := { x : α // inv x }) (fun x => ⟨fr x.1 ++ keepF s.fr ks, M x.1 ++ keepM s.M km⟩) (fun x => μ x.1) ⟨x0, h3⟩ (Le.sub h1 h2) fun x => ?_
  refine W_mono (round x.1 x.2) fun e s' h => ?_
  cases e with
  | normal => obtain ⟨x', h4, h5, h6⟩ := h; exact ⟨⟨x', h5⟩, h4, h6⟩
  | _ => exact h

theorem wrap_id {n : Int} (h1 : -9223372036854775808 ≤ n) (h2 : n ≤ 9223372036854775807) : IntKind.i64.wrap n = n := by
  rw [IntKind.wrap_i64]; omega

/-- An integer operation that does not overflow. -/
theorem WO_int {Γ : Tys} (hΓ : Γ.ok P) {t : Nat} {n : Int} (hg : o.guard = none) (hd : o.dst = some t) (ht : t < c.n) (he : evV Γ s o.op = some (.t (.int (IntKind.i64.wrap n)))) (hw : IntKind.i64.wrap n = n)
    (k : WO P c ops rest ⟨(t, .t (.int n)) :: s.fr, s.M⟩ Q) : WO P c ops (o :: rest) s Q := by
  refine WO_ev hΓ hg hd ht he ?_
  rw [hw]; exact k

theorem W_condT {x : Operand} {y z : Code} (h : opd s.fr x = .t (.bool true)) (k : W P c y s Q) : W P c (.cond x y z) s Q :=
  W_cond h (fun _ => k) (fun h => by cases h)
theorem W_condF {x : Operand} {y z : Code} (h : opd s.fr x = .t (.bool false)) (k : W P c z s Q) : W P c (.cond x y z) s Q :=
  W_cond h (fun h => by cases h) (fun _ => k)

theorem getT {α : Type} (f : α → T) (l : List α) {i : Int} (h0 : 0 ≤ i) (h1 : i < l.length) : (l.map f)[i.toNat]? = some (f (l[i.toNat]'(by omega))) := by
  rw [List.getElem?_map, List.getElem?_eq_getElem (by omega)]; rfl

theorem Ends_of {Γ : Tys} {fn : Func} {ds ds' : List D} {e : Exit} {ys : List (Nat ⊕ Nat)} (he : e = .normal ∨ e = .ret) (h : RetOk Γ s fn.results.toList ds' ys) (hn : ys.Nodup) (hc : D.closed.closedL ds' = true) (hd : ds' = ds) : Ends Γ fn ds e s := by
  subst hd
  rcases he with rfl | rfl <;> exact ⟨ys, h, hn, hc⟩

theorem Sub.nil' {fr : List (Nat × D)} : Sub [] fr := trivial
theorem Sub.cons' {fr l : List (Nat × D)} {k : Nat} {d : D} (h : look fr k = d) (h' : Sub l fr) : Sub ((k, d) :: l) fr := ⟨h, h'⟩
theorem SubM.nil' {M : List (Nat × Blk)} : SubM [] M := trivial
theorem SubM.cons' {M l : List (Nat × Blk)} {k : Nat} {d : Blk} (h : lookM M k = some d) (h' : SubM l M) : SubM ((k, d) :: l) M := ⟨h, h'⟩
theorem RetOk.nil' {Γ : Tys} : RetOk Γ s [] [] [] := trivial
theorem RetOk.tmp' {Γ : Tys} {t : Nat} {rs d ds ys} (h : look s.fr t = d) (h' : RetOk Γ s rs ds ys) : RetOk Γ s (.tmp t :: rs) (d :: ds) (.inl t :: ys) := ⟨h, rfl, h'⟩
theorem RetOk.cell' {Γ : Tys} {t ty id : Nat} {cells : List D} {ti : TI} {rs ds ys} (h1 : look s.fr t = .ref id 0 0) (h2 : lookM s.M id = some (.box cells)) (h3 : tyOf Γ ty = some ti) (h4 : ti.kind.isAgg = true) (h5 : cells.length = ti.size)
    (h' : RetOk Γ s rs ds ys) : RetOk Γ s (.cell t ty :: rs) (.agg cells :: ds) (.inr id :: ys) := ⟨⟨id, cells, ti, h1, h2, h3, h4, h5, rfl, rfl⟩, h'⟩
def ret1 (Γ : Tys) (s : St) : ResultVar → Option (D × (Nat ⊕ Nat))
  | .tmp t => some (look s.fr t, .inl t)
  | .cell t ty => match look s.fr t with
    | .ref id 0 0 => match lookM s.M id with
      | some (.box cells) => match tyOf Γ ty with
        | some ti => if ti.kind.isAgg && cells.length == ti.size then some (.agg cells, .inr id) else none
        | none => none
      | _ => none
    | _ => none

def retD (Γ : Tys) (s : St) : List ResultVar → Option (List D × List (Nat ⊕ Nat))
  | [] => some ([], [])
  | r :: rs => match ret1 Γ s r with
    | some (d, y) => match retD Γ s rs with
      | some (ds, ys) => some (d :: ds, y :: ys)
      | none => none
    | none => none

theorem ret_ok {Γ : Tys} : ∀ {rs : List ResultVar} {ds : List D} {ys : List (Nat ⊕ Nat)}, retD Γ s rs = some (ds, ys) → RetOk Γ s rs ds ys
  | [], _, _, h => by cases h; trivial
  | r :: rs, ds, ys, h => by
    simp only [retD] at h
    split at h
    · rename_i d y h1
      split at h
      · rename_i ds' ys' h2
        cases h
        have ih := ret_ok h2
        cases r with
        | tmp t => cases h1; exact ⟨rfl, rfl, ih⟩
        | cell t ty =>
          simp only [ret1] at h1
          split at h1
          · rename_i id hl
            split at h1
            · rename_i cells hM
              split at h1
              · rename_i ti hti
                split at h1
                · rename_i hb
                  cases h1
                  simp only [Bool.and_eq_true, beq_iff_eq] at hb
                  exact ⟨⟨id, cells, ti, hl, hM, hti, hb.1, hb.2, rfl, rfl⟩, ih⟩
                · cases h1
              · cases h1
            · cases h1
          · cases h1
      · cases h
    · cases h

def retF (Γ : Tys) (s : St) (rs : List ResultVar) : Option (List D × List (Nat ⊕ Nat)) := match retD Γ s rs with
  | some (ds, ys) => spineD ds fun ds' => some (ds', ys)
  | none => none

theorem ret_okF {Γ : Tys} {rs : List ResultVar} {ds : List D} {ys : List (Nat ⊕ Nat)} (h : retF Γ s rs = some (ds, ys)) : RetOk Γ s rs ds ys := by
  unfold retF at h
  split at h
  · rename_i ds' ys' h1; rw [spineD_eq] at h; cases h; exact ret_ok h1
  · cases h

theorem AbsL.nil' : AbsL [] [] := trivial
theorem AbsL.v' {x : Value} {ds ts} (h : AbsL ds ts) : AbsL (.t (.v x) :: ds) (.v x :: ts) := ⟨rfl, h⟩
theorem AbsL.own' {x : T} {ds ts} (h : AbsL ds ts) : AbsL (.own x :: ds) (x :: ts) := ⟨by unfold AbsD; cases x <;> rfl, h⟩
theorem AbsL.none' {n : Nat} {ds ts} (h : AbsL ds ts) : AbsL (.nil :: ds) (.list n [] :: ts) := ⟨rfl, h⟩
theorem PartsOk.nil' {fr : List (Nat × D)} {n : Nat} : PartsOk fr n [] [] := trivial
theorem PartsOk.cons' {fr : List (Nat × D)} {n : Nat} {x : Operand} {xs : List Operand} {y : T} {ys : List T} {ds : List D} (h1 : boxD (opd fr x) = some ds) (h2 : AbsL ds y.cells) (h3 : y.cells.length = n) (h : PartsOk fr n xs ys) : PartsOk fr n (x :: xs) (y :: ys) :=
  ⟨⟨ds, h1, h2, h3⟩, h⟩

theorem WO_guardY {j d t : Nat} {want : Bool} (hg : o.guard = some (j, want)) (hj : (ops[j]?).bind (·.dst) = some d) (hl : look s.fr d = .t (.bool want)) (hd : o.dst = some t) (ht : t < c.n)
    (h1 : WO P c ops ({ o with guard := none } :: rest) s Q) : WO P c ops (o :: rest) s Q := by
  refine WO_guard hg hj hl hd ht (fun _ => ?_) (fun h => by cases want <;> cases h)
  refine WO_le ?_ h1
  refine Le.of (fun t => ?_) (fun _ => .inl rfl)
  simp only [look]
  split
  · rename_i e; subst e; exact .inl hl
  · exact .inl rfl

theorem WO_guardN {j d t : Nat} {want b : Bool} (hg : o.guard = some (j, want)) (hj : (ops[j]?).bind (·.dst) = some d) (hl : look s.fr d = .t (.bool b)) (hb : b = !want) (hd : o.dst = some t) (ht : t < c.n)
    (h1 : WO P c ops rest ⟨(t, .tup []) :: s.fr, s.M⟩ Q) : WO P c ops (o :: rest) s Q := by
  subst hb
  refine WO_guard hg hj hl hd ht (fun h => by cases want <;> cases h) (fun _ => ?_)
  refine WO_le ?_ h1
  refine Le.of (fun u => ?_) (fun _ => .inl rfl)
  simp only [look]
  split
  · exact .inl rfl
  · split
    · rename_i e; subst e; exact .inl hl
    · exact .inl rfl

/-- An operation whose guard was itself passed over is passed over. -/
theorem WO_guardS {j d t : Nat} {want : Bool} (hg : o.guard = some (j, want)) (hj : (ops[j]?).bind (·.dst) = some d) (hl : look s.fr d = .tup []) (hd : o.dst = some t) (ht : t < c.n)
    (k : WO P c ops rest ⟨(t, .tup []) :: s.fr, s.M⟩ Q) : WO P c ops (o :: rest) s Q := by
  rintro a w ⟨F, β, fb, mb, ow, hi⟩
  have hr := hi.fr d
  rw [hl] at hr
  have hy : yielded ops a.tmps j = none := by
    unfold yielded
    rw [hj]
    simp only [Option.bind_some]
    rw [Array.getD_eq_getD_getElem?] at hr
    cases hq : a.tmps[d]? with
    | none => rfl
    | some v =>
      rw [hq, Option.getD_some] at hr
      generalize fb d = bs at hr
      cases hr with
      | tup h1 h2 => rfl
  unfold wpList
  have hw : ¬ Region.wanted o (yielded ops a.tmps) = true := by simp [Region.wanted, hg, hy]
  rw [if_neg hw, hd]
  exact k _ _ ⟨_, _, _, _, _, hi.put ht (RelD.tup (arr := #[]) (l := []) .done .done)⟩

/-- A component of a tuple that owns its memory: it is moved. -/
theorem WO_extract {t u k : Nat} {l : List D} {d : D} (hg : o.guard = none) (hd : o.dst = some t) (ht : t < c.n) (ho : o.op = .extract (.tmp u) k) (hu : look s.fr u = .tup l) (hk : l[k]? = some d) (hne : (t == u) = false)
    (kk : WO P c ops rest ⟨(t, d) :: (u, .tup (l.set k .top)) :: s.fr, s.M⟩ Q) : WO P c ops (o :: rest) s Q := by
  have hne' : ¬ t = u := by simpa using hne
  rintro a w ⟨F, β, fb, mb, ow, hi⟩
  have hr := hi.fr u
  rw [hu] at hr
  have hlt := (List.getElem?_eq_some_iff.1 hk).1
  have key : ∃ v b1 b2, (Instr.extract (a.tmps.getD u undef) k).run P w = .ok v w ∧ RelD w F β [v] [d] b1 ∧ RelD w F β [a.tmps.getD u undef] [.tup (l.set k .top)] b2 ∧ (b1 ++ b2).Nodup ∧ ∀ b, b ∈ b1 ++ b2 → b ∈ fb u := by
    have hnd := hi.nfr u
    generalize hfb : fb u = bs at hr hnd
    generalize a.tmps.getD u undef = xv at hr
    cases hr with
    | tup h1 h2 =>
      cases h2
      rename_i arr bs
      rw [List.append_nil] at hfb hnd
      obtain ⟨c1, c2, rfl, s1, s2⟩ := h1.split k
      have hl1 := h1.length
      have hcons : (l.drop k) = d :: l.drop (k + 1) := by
        rw [List.drop_eq_getElem_cons hlt]
        congr 1
        have := (List.getElem?_eq_some_iff.1 hk).2
        exact this
      have hvk : k < arr.toList.length := by rw [hl1]; exact hlt
      rw [hcons, List.drop_eq_getElem_cons hvk] at s2
      obtain ⟨c3, c4, p1, p2, rfl⟩ := s2.cons
      refine ⟨arr.toList[k], c3, c1 ++ c4, ?_, p1, ?_, ?_, ?_⟩
      · have : arr[k]? = some arr.toList[k] := by rw [← Array.getElem?_toList, List.getElem?_eq_getElem hvk]
        simp only [Instr.extract, this, Sem.run_pure]
      · have e1 : l.set k D.top = l.take k ++ (D.top :: l.drop (k + 1)) := by
          rw [List.set_eq_take_append_cons_drop, if_pos hlt]
        have e2 : arr.toList = arr.toList.take k ++ (arr.toList[k] :: arr.toList.drop (k + 1)) := by
          rw [← List.drop_eq_getElem_cons hvk, List.take_append_drop]
        have := s1.append (RelD.top (x := arr.toList[k]) p2)
        rw [← e1, ← e2] at this
        simpa using RelD.tup (arr := arr) this .done
      · rw [List.nodup_append] at hnd ⊢
        obtain ⟨n1, n2, n3⟩ := hnd
        rw [List.nodup_append] at n2
        obtain ⟨n4, n5, n6⟩ := n2
        refine ⟨n4, List.nodup_append.2 ⟨n1, n5, fun p hp q hq => n3 p hp q (by simp [hq])⟩, fun p hp q hq e => ?_⟩
        rcases List.mem_append.1 hq with hq | hq
        · exact n3 q hq p (by simp [hp]) e.symm
        · exact n6 p hp q hq e
      · intro b hb
        rcases List.mem_append.1 hb with h | h
        · simp [h]
        · rcases List.mem_append.1 h with h | h <;> simp [h]
  obtain ⟨v, b1, b2, q1, q2, q3, q4, q5⟩ := key
  have hrun : (execOp a.eval o).run P w = .ok (.value v) w := by
    simp only [execOp, ho, Act.eval, Sem.run_bind, q1, Result.andThen_ok]
    rfl
  refine wpList_plain hg fun K hK => ?_
  unfold Oper.wp
  rw [hrun, Oper.upon_value, hd]
  refine hK _ _ (kk _ _ ⟨F, β, fun x => if t = x then b1 else if u = x then b2 else fb x, mb, fun b => if b ∈ b1 then some (.inl t) else ow b, ?_⟩)
  have hob : ∀ b, b ∈ b1 ++ b2 → ow b = some (.inl u) := fun b hb => hi.ofr u b (q5 b hb)
  exact { hi with
    fr := fun x => by
      rw [getD_put _ _ _ _ (by rw [hi.tmps]; exact ht)]
      simp only [look]
      split
      · exact q2
      · split
        · rename_i e; subst e; exact q3
        · exact hi.fr x
    ofr := fun x b hb => by
      split at hb
      · rename_i e; subst e; rw [if_pos hb]
      · have hb1 : b ∉ b1 := fun h => by
          split at hb
          · exact (List.nodup_append.1 q4).2.2 b h b hb rfl
          · rename_i h1 h2
            have h3 := hi.ofr x b hb
            rw [hob b (by simp [h])] at h3
            cases h3
            exact h2 rfl
        rw [if_neg hb1]
        split at hb
        · rename_i e; subst e; exact hob b (by simp [hb])
        · exact hi.ofr x b hb
    omem := fun id b hb => by
      have h3 := hi.omem id b hb
      rw [if_neg (fun h => ?_)]
      · exact h3
      · rw [hob b (by simp [h])] at h3; cases h3
    nfr := fun x => by
      split
      · exact (List.nodup_append.1 q4).1
      · split
        · exact (List.nodup_append.1 q4).2.1
        · exact hi.nfr x
    own := fun b hb => by
      split at hb
      · rename_i h; exact hi.own b (by rw [hob b (by simp [h])]; simp)
      · exact hi.own b hb
    defers := (defers_put a _ v).trans hi.defers
    tmps := (size_put a _ v).trans hi.tmps }

end
end Go.Eng
