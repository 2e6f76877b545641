/- The types of the program that the walks meet, held against the program itself. -/
import Derived.Test.YtnkhkmhhfpokhaaEng16
import Derived.Test.YtnkhkmhhfpokhaaProg
import Derived.KernelRfl
namespace Go.Proofs.Ytnkhkmhhfpokhaa
open Go.Eng
def Ty : Tys := [
  (1, ⟨.one, 1, 8, [.nilFunc]⟩),
  (2, ⟨.one, 1, 8, [.int .i64 0]⟩),
  (3, ⟨.one, 1, 8, [.int .i64 0]⟩),
  (4, ⟨.bool, 1, 1, [.bool false]⟩),
  (5, ⟨.one, 1, 1, [.int .u8 0]⟩),
  (6, ⟨.one, 1, 1, [.int .u8 0]⟩),
  (7, ⟨.agg [0, 1, 2, 3], 4, 24, [.int .i64 0, .int .i64 0, .bool false, .int .u8 0]⟩),
  (8, ⟨.agg [0, 1, 2, 3], 4, 24, [.int .i64 0, .int .i64 0, .bool false, .int .u8 0]⟩),
  (9, ⟨.str, 1, 16, [.string ⟨#[]⟩]⟩),
  (10, ⟨.str, 1, 16, [.string ⟨#[]⟩]⟩),
  (11, ⟨.str, 1, 16, [.string ⟨#[]⟩]⟩),
  (12, ⟨.one, 1, 8, [.int .u64 0]⟩),
  (13, ⟨.agg [0, 1], 2, 24, [.string ⟨#[]⟩, .int .u64 0]⟩),
  (14, ⟨.agg [0, 1], 2, 24, [.string ⟨#[]⟩, .int .u64 0]⟩),
  (15, ⟨.ptr, 1, 8, [.pointer none]⟩),
  (16, ⟨.ptr, 1, 8, [.pointer none]⟩),
  (17, ⟨.ptr, 1, 8, [.pointer none]⟩),
  (18, ⟨.agg [0], 1, 8, [.pointer none]⟩),
  (19, ⟨.agg [0], 1, 8, [.pointer none]⟩),
  (20, ⟨.one, 1, 16, [.nilIface]⟩),
  (21, ⟨.one, 1, 4, [.int .i32 0]⟩),
  (22, ⟨.slice 33, 1, 24, [.slice none 0 0]⟩),
  (23, ⟨.one, 1, 8, [.nilFunc]⟩),
  (25, ⟨.one, 1, 8, [.nilFunc]⟩),
  (26, ⟨.one, 1, 8, [.nilFunc]⟩),
  (27, ⟨.one, 1, 8, [.nilFunc]⟩),
  (28, ⟨.one, 1, 8, [.nilFunc]⟩),
  (30, ⟨.one, 1, 8, [.nilFunc]⟩),
  (32, ⟨.one, 1, 8, [.nilFunc]⟩),
  (33, ⟨.slice 3, 1, 24, [.slice none 0 0]⟩),
  (34, ⟨.slice 4, 1, 24, [.slice none 0 0]⟩),
  (35, ⟨.slice 80, 1, 24, [.slice none 0 0]⟩),
  (36, ⟨.agg [0, 1, 2, 3, 4], 5, 120, [.slice none 0 0, .slice none 0 0, .slice none 0 0, .slice none 0 0, .slice none 0 0]⟩),
  (37, ⟨.agg [0, 1, 2, 3, 4], 5, 120, [.slice none 0 0, .slice none 0 0, .slice none 0 0, .slice none 0 0, .slice none 0 0]⟩),
  (38, ⟨.one, 1, 8, [.nilFunc]⟩),
  (39, ⟨.one, 1, 8, [.nilFunc]⟩),
  (40, ⟨.slice 59, 1, 24, [.slice none 0 0]⟩),
  (41, ⟨.agg [0, 1, 2, 3, 4], 5, 120, [.slice none 0 0, .slice none 0 0, .slice none 0 0, .slice none 0 0, .slice none 0 0]⟩),
  (42, ⟨.agg [0, 1, 2, 3, 4], 5, 120, [.slice none 0 0, .slice none 0 0, .slice none 0 0, .slice none 0 0, .slice none 0 0]⟩),
  (43, ⟨.one, 1, 8, [.nilFunc]⟩),
  (44, ⟨.one, 1, 8, [.nilFunc]⟩),
  (45, ⟨.one, 1, 8, [.nilFunc]⟩),
  (46, ⟨.one, 1, 8, [.nilFunc]⟩),
  (47, ⟨.one, 1, 8, [.nilFunc]⟩),
  (48, ⟨.one, 1, 8, [.nilFunc]⟩),
  (49, ⟨.one, 1, 8, [.nilFunc]⟩),
  (50, ⟨.one, 1, 8, [.nilFunc]⟩),
  (51, ⟨.one, 1, 8, [.nilFunc]⟩),
  (52, ⟨.one, 1, 8, [.nilFunc]⟩),
  (53, ⟨.one, 1, 8, [.nilFunc]⟩),
  (54, ⟨.one, 1, 8, [.nilFunc]⟩),
  (55, ⟨.one, 1, 8, [.nilFunc]⟩),
  (56, ⟨.one, 1, 8, [.nilFunc]⟩),
  (57, ⟨.slice 66, 1, 24, [.slice none 0 0]⟩),
  (58, ⟨.agg [0, 1, 2, 3], 4, 48, [.slice none 0 0, .int .i64 0, .int .i64 0, .int .i64 0]⟩),
  (59, ⟨.agg [0, 1, 2, 3], 4, 48, [.slice none 0 0, .int .i64 0, .int .i64 0, .int .i64 0]⟩),
  (60, ⟨.one, 1, 8, [.nilFunc]⟩),
  (61, ⟨.one, 1, 8, [.nilFunc]⟩),
  (62, ⟨.one, 1, 8, [.nilFunc]⟩),
  (63, ⟨.one, 1, 8, [.nilFunc]⟩),
  (64, ⟨.one, 1, 8, [.nilFunc]⟩),
  (65, ⟨.agg [0, 1, 2, 3], 4, 48, [.int .i64 0, .int .i64 0, .int .i64 0, .slice none 0 0]⟩),
  (66, ⟨.agg [0, 1, 2, 3], 4, 48, [.int .i64 0, .int .i64 0, .int .i64 0, .slice none 0 0]⟩),
  (67, ⟨.one, 1, 8, [.nilFunc]⟩),
  (68, ⟨.one, 1, 8, [.nilFunc]⟩),
  (69, ⟨.one, 1, 8, [.nilFunc]⟩),
  (70, ⟨.one, 1, 8, [.nilFunc]⟩),
  (71, ⟨.one, 1, 8, [.nilFunc]⟩),
  (72, ⟨.one, 1, 8, [.nilFunc]⟩),
  (73, ⟨.one, 1, 8, [.nilFunc]⟩),
  (74, ⟨.one, 1, 8, [.nilFunc]⟩),
  (75, ⟨.one, 1, 8, [.nilFunc]⟩),
  (76, ⟨.one, 1, 8, [.nilFunc]⟩),
  (77, ⟨.one, 1, 8, [.nilFunc]⟩),
  (78, ⟨.slice 93, 1, 24, [.slice none 0 0]⟩),
  (79, ⟨.agg [0, 1, 2, 3], 4, 48, [.slice none 0 0, .int .i64 0, .int .i64 0, .int .i64 0]⟩),
  (80, ⟨.agg [0, 1, 2, 3], 4, 48, [.slice none 0 0, .int .i64 0, .int .i64 0, .int .i64 0]⟩),
  (81, ⟨.one, 1, 8, [.nilFunc]⟩),
  (82, ⟨.one, 1, 8, [.nilFunc]⟩),
  (83, ⟨.one, 1, 8, [.nilFunc]⟩),
  (84, ⟨.one, 1, 8, [.nilFunc]⟩),
  (85, ⟨.one, 1, 8, [.nilFunc]⟩),
  (86, ⟨.one, 1, 8, [.nilFunc]⟩),
  (87, ⟨.one, 1, 8, [.nilFunc]⟩),
  (88, ⟨.one, 1, 8, [.nilFunc]⟩),
  (89, ⟨.one, 1, 8, [.nilFunc]⟩),
  (90, ⟨.one, 1, 8, [.nilFunc]⟩),
  (91, ⟨.one, 1, 8, [.nilFunc]⟩),
  (92, ⟨.agg [0, 1, 2, 3], 4, 48, [.int .i64 0, .int .i64 0, .int .i64 0, .slice none 0 0]⟩),
  (93, ⟨.agg [0, 1, 2, 3], 4, 48, [.int .i64 0, .int .i64 0, .int .i64 0, .slice none 0 0]⟩),
  (94, ⟨.one, 1, 8, [.nilFunc]⟩),
  (95, ⟨.one, 1, 8, [.nilFunc]⟩),
  (96, ⟨.agg [0, 1, 2, 3], 4, 40, [.pointer none, .pointer none, .pointer none, .string ⟨#[]⟩]⟩),
  (97, ⟨.agg [0, 1, 2, 3], 4, 40, [.pointer none, .pointer none, .pointer none, .string ⟨#[]⟩]⟩),
  (101, ⟨.one, 1, 8, [.nilFunc]⟩),
  (102, ⟨.one, 1, 4, [.int .u32 0]⟩),
  (103, ⟨.one, 1, 1, [.int .u8 0]⟩),
  (104, ⟨.one, 1, 1, [.int .u8 0]⟩),
  (105, ⟨.one, 1, 8, [.nilFunc]⟩),
  (106, ⟨.ptr, 1, 8, [.pointer none]⟩),
  (107, ⟨.one, 1, 4, [.int .i32 0]⟩),
  (108, ⟨.one, 1, 4, [.int .i32 0]⟩),
  (109, ⟨.agg [0, 1, 2, 3, 4, 5, 6, 7, 8, 9, 10], 11, 48, [.int .u64 0, .int .u64 0, .int .u32 0, .int .u8 0, .int .u8 0, .int .u8 0, .int .u8 0, .nilFunc, .pointer none, .int .i32 0, .int .i32 0]⟩),
  (110, ⟨.agg [0, 1, 2, 3, 4, 5, 6, 7, 8, 9, 10], 11, 48, [.int .u64 0, .int .u64 0, .int .u32 0, .int .u8 0, .int .u8 0, .int .u8 0, .int .u8 0, .nilFunc, .pointer none, .int .i32 0, .int .i32 0]⟩),
  (111, ⟨.one, 1, 8, [.nilFunc]⟩),
  (112, ⟨.one, 1, 8, [.pointer none]⟩)]

theorem tys : Ty.ok Try.prog := Tys.okB_sound (by kernel_rfl)
theorem mixed : Try.prog.follows .mixedOrders = true := by kernel_rfl
section
variable {c : Ctx} {s : St} {Q : Exit → St → Prop} {R : St → Prop} {ops : Array Oper} {rest : List Oper} {o : Oper} {t : Nat} {d : D} {n m : Int}
/-- One operation, by what it is told to yield. -/
theorem ev (k : WO Try.prog c ops rest ⟨(t, d) :: s.fr, s.M⟩ Q) (hg : o.guard = none := by exact rfl) (hd : o.dst = some t := by exact rfl) (ht : t < c.n := by exact lt_of rfl) (he : evF Ty s o.op = some d := by exact rfl) : WO Try.prog c ops (o :: rest) s Q :=
  WO_evF tys hg hd ht he k
theorem evQ (k : QL Try.prog c ops rest ⟨(t, d) :: s.fr, s.M⟩ R) (hg : o.guard = none := by exact rfl) (hd : o.dst = some t := by exact rfl) (ht : t < c.n := by exact lt_of rfl) (he : evF Ty s o.op = some d := by exact rfl) : QL Try.prog c ops (o :: rest) s R :=
  QL_ev tys hg hd ht he k
theorem evI (k : WO Try.prog c ops rest ⟨(t, .t (.int n)) :: s.fr, s.M⟩ Q) (hg : o.guard = none := by exact rfl) (hd : o.dst = some t := by exact rfl) (ht : t < c.n := by exact lt_of rfl) (he : evV Ty s o.op = some (.t (.int (IntKind.i64.wrap n))) := by exact rfl)
    (h1 : -9223372036854775808 ≤ n := by omega) (h2 : n ≤ 9223372036854775807 := by omega) : WO Try.prog c ops (o :: rest) s Q := WO_int tys hg hd ht he (wrap_id h1 h2) k
theorem evIQ (k : QL Try.prog c ops rest ⟨(t, .t (.int n)) :: s.fr, s.M⟩ R) (hg : o.guard = none := by exact rfl) (hd : o.dst = some t := by exact rfl) (ht : t < c.n := by exact lt_of rfl) (he : evV Ty s o.op = some (.t (.int (IntKind.i64.wrap n))) := by exact rfl)
    (h1 : -9223372036854775808 ≤ n := by omega) (h2 : n ≤ 9223372036854775807 := by omega) : QL Try.prog c ops (o :: rest) s R := QL_int tys hg hd ht he (wrap_id h1 h2) k
theorem evE (k : WO Try.prog c ops rest ⟨(t, .t (.int m)) :: s.fr, s.M⟩ Q) (hg : o.guard = none := by exact rfl) (hd : o.dst = some t := by exact rfl) (ht : t < c.n := by exact lt_of rfl) (he : evF Ty s o.op = some (.t (.int n)) := by exact rfl)
    (h1 : n = m := by first | exact lenM | exact rfl) : WO Try.prog c ops (o :: rest) s Q := WO_evE tys hg hd ht he h1 k
theorem evEQ (k : QL Try.prog c ops rest ⟨(t, .t (.int m)) :: s.fr, s.M⟩ R) (hg : o.guard = none := by exact rfl) (hd : o.dst = some t := by exact rfl) (ht : t < c.n := by exact lt_of rfl) (he : evF Ty s o.op = some (.t (.int n)) := by exact rfl)
    (h1 : n = m := by first | exact lenM | exact rfl) : QL Try.prog c ops (o :: rest) s R := QL_evE tys hg hd ht he h1 k
end
end Go.Proofs.Ytnkhkmhhfpokhaa
