/- What programs are read into. -/
import Derived.Test.YtimpganophnehaaGreatRd
import Derived.Test.YtimpganophnehaaGreatFp
set_option linter.unusedVariables false
set_option linter.unusedSimpArgs false
set_option maxRecDepth 10000
namespace Go.Proofs.YtimpganophnehaaGreat
open Go.Eng

theorem rd_tok {x : T} (h : Rd Tryz.prog 249 x) : ∃ a : Tok, x = a.tt ∧ True := by
 obtain ⟨xs, rfl, h1⟩ := rd_struct (ts := [3, 3]) (by kernel_rfl) h
 match xs, h1 with
 | [x1, x2], ⟨h1, h2, _⟩ =>
  obtain ⟨k, rfl, _⟩ := rd_i h1
  obtain ⟨c, rfl, _⟩ := rd_i h2
  exact ⟨⟨k, c⟩, rfl, trivial⟩
theorem rd_toks {x : T} (h : Rd Tryz.prog 193 x) : ∃ l : List Tok, x = T.Toks l ∧ okN 9223372036854775807 l := by
 obtain ⟨l, rfl, h1, _⟩ := rd_list (e := 249) (n := 2) (by kernel_rfl) (by kernel_rfl) (fun y hy => rd_tok hy) h
 exact ⟨l, rfl, h1⟩
theorem rd_stmt {x : T} (h : Rd Tryz.prog 195 x) : ∃ a : Stmt, x = a.tt ∧ a.ok 9223372036854775807 := by
 obtain ⟨xs, rfl, h1⟩ := rd_struct (ts := [3, 3, 193, 25, 25]) (by kernel_rfl) h
 match xs, h1 with
 | [x1, x2, x3, x4, x5], ⟨h1, h2, h3, h4, h5, _⟩ =>
  obtain ⟨k, rfl, _⟩ := rd_i h1
  obtain ⟨c, rfl, _⟩ := rd_i h2
  obtain ⟨a, rfl, q1⟩ := rd_toks h3
  obtain ⟨b, rfl, q2⟩ := rd_ints h4
  obtain ⟨d, rfl, q3⟩ := rd_ints h5
  exact ⟨⟨k, c, a, b, d⟩, rfl, q1, q2, q3, trivial⟩
theorem rd_stmts {x : T} (h : Rd Tryz.prog 106 x) : ∃ l : List Stmt, x = T.Stmts l ∧ okL 9223372036854775807 (Stmt.ok 9223372036854775807) l :=
 rd_list (e := 195) (n := 5) (by kernel_rfl) (by kernel_rfl) (fun y hy => rd_stmt hy) h
theorem rd_func {x : T} (h : Rd Tryz.prog 108 x) : ∃ a : Func, x = a.tt ∧ a.ok 9223372036854775807 := by
 obtain ⟨xs, rfl, h1⟩ := rd_struct (ts := [3, 3, 25, 106]) (by kernel_rfl) h
 match xs, h1 with
 | [x1, x2, x3, x4], ⟨h1, h2, h3, h4, _⟩ =>
  obtain ⟨k, rfl, _⟩ := rd_i h1
  obtain ⟨c, rfl, _⟩ := rd_i h2
  obtain ⟨a, rfl, q1⟩ := rd_ints h3
  obtain ⟨b, rfl, q2⟩ := rd_stmts h4
  exact ⟨⟨k, c, a, b⟩, rfl, q1, q2, trivial⟩
theorem rd_funcs {x : T} (h : Rd Tryz.prog 22 x) : ∃ l : List Func, x = T.Funcs l ∧ okL 9223372036854775807 (Func.ok 9223372036854775807) l :=
 rd_list (e := 108) (n := 4) (by kernel_rfl) (by kernel_rfl) (fun y hy => rd_func hy) h
theorem rd_prog {x : T} (h : Rd Tryz.prog 24 x) : ∃ a : Prog, x = a.tt ∧ a.ok 9223372036854775807 := by
 obtain ⟨xs, rfl, h1⟩ := rd_struct (ts := [22]) (by kernel_rfl) h
 match xs, h1 with
 | [x1], ⟨h1, _⟩ =>
  obtain ⟨b, rfl, q2⟩ := rd_funcs h1
  exact ⟨⟨b⟩, rfl, q2, trivial⟩

end Go.Proofs.YtimpganophnehaaGreat
