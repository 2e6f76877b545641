/- Rules for conversions of whole numbers, and for arrays of two. -/
import Derived.Test.YtbkamkmmljbedaaEng20
set_option linter.unusedVariables false
set_option linter.unusedSimpArgs false
namespace Go.Eng
open Go.RowKit

section
variable {P : Program} {c : Ctx} {s : St} {Q : Exit → St → Prop} {ops : Array Oper} {rest : List Oper} {o : Oper}

theorem WO_conv {src dst t : Nat} {x : Operand} {td : TypeDesc} {k k0 : IntKind} {n : Int} (hg : o.guard = none) (hd : o.dst = some t) (ht : t < c.n) (ho : o.op = .convert src dst x)
    (h1 : P.underlying src = some td) (h2 : P.underlying dst = some (.int k)) (hx : opd s.fr x = .t (.v (.int k0 n)))
    (kk : WO P c ops rest ⟨(t, .t (.v (.int k (k.wrap n)))) :: s.fr, s.M⟩ Q) : WO P c ops (o :: rest) s Q := by
  refine WO_val hg hd ht _ (fun a w F β fb mb ow hi => ?_) kk
  refine ⟨.int k (k.wrap n), ?_, .t (.v rfl .nil) .done⟩
  have e := eval_v hi hx
  simp only [execOp, ho, e, convert, Sem.run_bind, run_underlying h1, run_underlying h2, Result.andThen_ok, Conv.intToInt, Sem.run_pure]

theorem one_slice {w : World} {F : Nat → Prop} {v : Value} {n : Nat} {l : List T} (h : RelL w F [v] [.list n l]) : v.cells = #[v] := by
  cases h with
  | none _ => rfl
  | list _ _ _ _ _ _ _ => rfl

/-- An array of two slices, of what is only read. -/
theorem WO_build2 {t ty e n n' : Nat} {x y : Operand} {l l' : List T} (hg : o.guard = none) (hd : o.dst = some t) (ht : t < c.n) (ho : o.op = .build ty #[(0, x), (1, y)])
    (h1 : P.underlying ty = some (.array 2 e)) (h2 : (match P.info? ty with | some i => (match i.zero with | some z => z.cells.size == 2 | none => false) | none => false) = true)
    (h3 : (match P.info? e with | some i => i.size == 1 | none => false) = true) (hx : opd s.fr x = .t (.list n l)) (hy : opd s.fr y = .t (.list n' l'))
    (kk : WO P c ops rest ⟨(t, .agg [.t (.list n l), .t (.list n' l')]) :: s.fr, s.M⟩ Q) : WO P c ops (o :: rest) s Q := by
  refine WO_val hg hd ht _ (fun a w F β fb mb ow hi => ?_) kk
  obtain ⟨b1, hr1, _⟩ := hi.opd x
  obtain ⟨b2, hr2, _⟩ := hi.opd y
  rw [hx] at hr1
  rw [hy] at hr2
  have f1 : b1 = [] := hr1.free1 rfl
  have f2 : b2 = [] := hr2.free1 rfl
  subst f1; subst f2
  generalize hex : a.eval x = v1 at hr1
  generalize hey : a.eval y = v2 at hr2
  have o1 : v1.cells = #[v1] := by cases hr1 with | t h _ => exact one_slice h
  have o2 : v2.cells = #[v2] := by cases hr2 with | t h _ => exact one_slice h
  have oc1 : v1.oneCell' = true := by cases hr1 with | t h _ => cases h <;> rfl
  have oc2 : v2.oneCell' = true := by cases hr2 with | t h _ => cases h <;> rfl
  split at h2
  · rename_i i hi0
    split at h2
    · rename_i z hz
      split at h3
      · rename_i ie hie
        have hz2 : z.cells.size = 2 := by simpa using h2
        have hie1 : ie.size = 1 := by simpa using h3
        refine ⟨.agg #[v1, v2], ?_, by simpa using RelD.agg (arr := #[v1, v2]) (by simp [oc1, oc2]) (RelD.cons' hr1 hr2) .done⟩
        have hzv : (zeroValue ty).run P w = .ok z w := by simp [zeroValue, typeInfo, hi0, hz]
        have hsz : (sizeOf e).run P w = .ok 1 w := by simp [sizeOf, typeInfo, hie, hie1]
        have hfill : Instr.fill (fun i => some (i * 1, 1)) z.cells [(0, v1), (1, v2)] = some #[v1, v2] := by
          generalize z.cells = arr at hz2
          match arr, hz2 with
          | ⟨[p, q]⟩, _ => simp [Instr.fill, o1, o2]
        simp only [execOp, ho, Instr.build, Sem.run_bind, hzv, Result.andThen_ok, run_underlying h1, hsz]
        simp [hex, hey]
        simp at hfill
        rw [hfill]
        rfl
      · cases h3
    · cases h2
  · cases h2

/-- An element of such an array. -/
theorem WO_index2 {t ty e len : Nat} {x y : Operand} {ds : List D} {d : D} {i : Int} (hg : o.guard = none) (hd : o.dst = some t) (ht : t < c.n) (ho : o.op = .index ty x y)
    (h1 : P.underlying ty = some (.array len e)) (h2 : (match P.underlying e with | some (.slice _) => true | _ => false) = true)
    (h3 : (match P.info? e with | some i => i.size == 1 | none => false) = true) (hx : opd s.fr x = .agg ds) (hy : opd s.fr y = .t (.int i)) (hl : len = ds.length) (h0 : 0 ≤ i) (hd1 : ds[i.toNat]? = some d) (hf : d.free = true)
    (kk : WO P c ops rest ⟨(t, d) :: s.fr, s.M⟩ Q) : WO P c ops (o :: rest) s Q := by
  refine WO_val hg hd ht _ (fun a w F β fb mb ow hi => ?_) kk
  obtain ⟨b1, hr1, _⟩ := hi.opd x
  rw [hx] at hr1
  have hey := eval_v hi hy
  generalize hex : a.eval x = v1 at hr1
  cases hr1 with
  | @agg arr _ _ _ _ _ q0 q1 q2 =>
    cases q2
    obtain ⟨v, b, hv, hrv⟩ := q1.get i.toNat hd1
    have := hrv.free1 hf
    subst this
    refine ⟨v, ?_, hrv⟩
    split at h3
    · rename_i ie hie
      have hie1 : ie.size = 1 := by simpa using h3
      have hsz : (sizeOf e).run P w = .ok 1 w := by simp [sizeOf, typeInfo, hie, hie1]
      have hlt : i < len := by
        have := (List.getElem?_eq_some_iff.1 hd1).1
        omega
      split at h2
      · rename_i e' he'
        have hag : (isAgg e).run P w = .ok false w := by simp [isAgg, run_underlying he']
        simp only [execOp, ho, Instr.index, Sem.run_bind, hex, hey, asIntOf, Sem.run_pure, Result.andThen_ok, run_underlying h1, h0, hlt, and_self, if_true, hsz, part, hag]
        have : arr[i.toNat]? = some v := by simpa using hv
        simp [this]
      · cases h2
    · cases h3

end
end Go.Eng
