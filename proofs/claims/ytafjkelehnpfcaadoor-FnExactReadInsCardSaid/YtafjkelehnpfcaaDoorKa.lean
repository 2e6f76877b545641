/- The types of images: their mirrors, and the functions that size, lay anew and compare them. -/
import Derived.Test.YtafjkelehnpfcaaDoorFs
set_option linter.unusedVariables false
set_option linter.unusedSimpArgs false
set_option maxRecDepth 10000
namespace Go.Proofs.YtafjkelehnpfcaaDoor
open Go.Eng

structure Ins where
  op : Int
  n : Int

def Ins.tt (x : Ins) : T := .agg [T.int x.op, T.int x.n]

def eqIns (a b : Ins) : Bool := eqI a.op b.op && eqI a.n b.n && true

theorem eqIns_refl (a : Ins) : eqIns a a = true := by
  unfold eqIns; simp only [eqI_refl, Bool.and_self]

theorem eqIns_fun (a b : Ins) : Fun Tryd.prog 12 [.t (Ins.tt a), .t (Ins.tt b)] (tupD [.t (.bool (eqIns a b))]) := by
  refine Fun.begin tys Tryd.func12 rfl rfl (N := 15) [(0, .t (Ins.tt a)), (1, .t (Ins.tt b))] rfl rfl (fun w0 G F0 => ?_)
  refine W_seq ?_
  refine W_region ?_
  refine WO_box rfl rfl (lt_of rfl) rfl rfl ?_
  refine WO_norm rfl ?_
  refine WO_box rfl rfl (lt_of rfl) rfl rfl ?_
  refine WO_norm rfl ?_
  refine ev ?_
  refine WO_nil ?_
  refine thenQ_n ?_
  iterate 2 (refine W_seq ?_)
  refine W_region ?_
  iterate 5 (refine ev ?_)
  refine WO_nil ?_
  refine thenQ_n ?_
  refine W_cond rfl (fun h1 => ?_) (fun h1 => ?_)
  ·
    try simp only [HS] at h1
    refine W_seq ?_
    refine W_keep [2, 3, 4] rfl ?_
    refine W_region ?_
    refine ev ?_
    refine WO_nil ?_
    refine thenQ_n ?_
    refine W_ret ?_
    refine thenQ_r ?_
    refine Ends_of (.inr rfl) (ret_okF rfl) (by decide) rfl ?_
    · simp_all [eqIns, eqI, eqB]
  try simp only [HS] at h1
  refine W_skip ?_
  refine thenQ_n ?_
  iterate 2 (refine W_seq ?_)
  refine W_keep [2, 3, 4] rfl ?_
  refine W_region ?_
  iterate 5 (refine ev ?_)
  refine WO_nil ?_
  refine thenQ_n ?_
  refine W_cond rfl (fun h2 => ?_) (fun h2 => ?_)
  ·
    try simp only [HS] at h2
    refine W_seq ?_
    refine W_region ?_
    refine ev ?_
    refine WO_nil ?_
    refine thenQ_n ?_
    refine W_ret ?_
    refine thenQ_r ?_
    refine Ends_of (.inr rfl) (ret_okF rfl) (by decide) rfl ?_
    · simp_all [eqIns, eqI, eqB]
  try simp only [HS] at h2
  refine W_skip ?_
  refine thenQ_n ?_
  refine W_seq ?_
  refine W_region ?_
  refine ev ?_
  refine WO_nil ?_
  refine thenQ_n ?_
  refine W_ret ?_
  refine Ends_of (.inr rfl) (ret_okF rfl) (by decide) rfl ?_
  · simp_all [eqIns, eqI, eqB]

abbrev T.Inss (l : List Ins) : T := .list 2 (l.map Ins.tt)

structure Row where
  lo : Int
  hi : Int
  pad : Int

def Row.tt (x : Row) : T := .agg [T.int x.lo, T.int x.hi, T.int x.pad]

abbrev T.Rows (l : List Row) : T := .list 3 (l.map Row.tt)

structure Code where
  params : Int
  vars : Int
  sites : List Int
  ins : List (Ins)
  rows : List (Row)

def Code.tt (x : Code) : T := .agg [T.int x.params, T.int x.vars, T.ints x.sites, T.Inss x.ins, T.Rows x.rows]

def Code.ok (B : Nat) (x : Code) : Prop := okN B x.sites ∧ okN B x.ins ∧ okN B x.rows ∧ True

abbrev T.Codes (l : List (Code)) : T := .list 5 (l.map Code.tt)
structure Image where
  codes : List (Code)

def Image.tt (x : Image) : T := .agg [T.Codes x.codes]

def Image.ok (B : Nat) (x : Image) : Prop := okL B (Code.ok B) x.codes ∧ True

end Go.Proofs.YtafjkelehnpfcaaDoor
