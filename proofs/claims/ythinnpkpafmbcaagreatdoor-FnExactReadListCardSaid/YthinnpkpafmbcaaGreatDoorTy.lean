/- The types of the program that the walks meet, held against the program itself. -/
import Derived.Test.YthinnpkpafmbcaaGreatDoorMa
import Derived.Test.YthinnpkpafmbcaaGreatDoorMb
import Derived.Test.YthinnpkpafmbcaaGreatDoorMc
import Derived.Test.YthinnpkpafmbcaaGreatDoorMd
import Derived.Test.YthinnpkpafmbcaaGreatDoorMe
import Derived.Test.YthinnpkpafmbcaaGreatDoorProg
import Derived.KernelRfl
namespace Go.Proofs.YthinnpkpafmbcaaGreatDoor
open Go.Eng
def Ty : Tys := [
 (1, ⟨.one, 1, 8, [.nilFunc]⟩),
 (2, ⟨.one, 1, 8, [.int .i64 0]⟩),
 (3, ⟨.one, 1, 8, [.int .i64 0]⟩),
 (4, ⟨.bool, 1, 1, [.bool false]⟩),
 (5, ⟨.one, 1, 1, [.int .u8 0]⟩),
 (6, ⟨.one, 1, 1, [.int .u8 0]⟩),
 (7, ⟨.agg [0, 1, 2, 3], 4, 24, [.int .i64 0, .int .i64 0, .bool false, .int .u8 0]⟩),
 (8, ⟨.agg [0, 1, 2, 3], 4, 24, [.int .i64 0, .int .i64 0, .bool false, .int .u8 0]⟩),
 (9, ⟨.str, 1, 16, [.string ⟨#[]⟩]⟩),
 (10, ⟨.str, 1, 16, [.string ⟨#[]⟩]⟩),
 (11, ⟨.str, 1, 16, [.string ⟨#[]⟩]⟩),
 (12, ⟨.one, 1, 8, [.int .u64 0]⟩),
 (13, ⟨.agg [0, 1], 2, 24, [.string ⟨#[]⟩, .int .u64 0]⟩),
 (14, ⟨.agg [0, 1], 2, 24, [.string ⟨#[]⟩, .int .u64 0]⟩),
 (15, ⟨.ptr, 1, 8, [.pointer none]⟩),
 (16, ⟨.ptr, 1, 8, [.pointer none]⟩),
 (17, ⟨.ptr, 1, 8, [.pointer none]⟩),
 (18, ⟨.agg [0], 1, 8, [.pointer none]⟩),
 (19, ⟨.agg [0], 1, 8, [.pointer none]⟩),
 (20, ⟨.one, 1, 16, [.nilIface]⟩),
 (21, ⟨.one, 1, 4, [.int .i32 0]⟩),
 (22, ⟨.slice 3, 1, 24, [.slice none 0 0]⟩),
 (23, ⟨.slice 68, 1, 24, [.slice none 0 0]⟩),
 (24, ⟨.slice 66, 1, 24, [.slice none 0 0]⟩),
 (25, ⟨.agg [0, 1, 2, 3, 4], 5, 88, [.int .i64 0, .int .i64 0, .slice none 0 0, .slice none 0 0, .slice none 0 0]⟩),
 (26, ⟨.agg [0, 1, 2, 3, 4], 5, 88, [.int .i64 0, .int .i64 0, .slice none 0 0, .slice none 0 0, .slice none 0 0]⟩),
 (28, ⟨.one, 1, 8, [.nilFunc]⟩),
 (29, ⟨.one, 1, 8, [.nilFunc]⟩),
 (30, ⟨.one, 1, 8, [.nilFunc]⟩),
 (31, ⟨.one, 1, 8, [.nilFunc]⟩),
 (32, ⟨.slice 108, 1, 24, [.slice none 0 0]⟩),
 (33, ⟨.agg [0], 1, 24, [.slice none 0 0]⟩),
 (34, ⟨.agg [0], 1, 24, [.slice none 0 0]⟩),
 (36, ⟨.one, 1, 8, [.nilFunc]⟩),
 (37, ⟨.one, 1, 8, [.nilFunc]⟩),
 (38, ⟨.one, 1, 8, [.nilFunc]⟩),
 (39, ⟨.slice 9, 1, 24, [.slice none 0 0]⟩),
 (40, ⟨.one, 1, 8, [.nilFunc]⟩),
 (41, ⟨.one, 1, 8, [.nilFunc]⟩),
 (42, ⟨.ptr, 1, 8, [.pointer none]⟩),
 (44, ⟨.one, 1, 8, [.nilFunc]⟩),
 (45, ⟨.one, 1, 8, [.nilFunc]⟩),
 (47, ⟨.one, 1, 8, [.nilFunc]⟩),
 (48, ⟨.one, 1, 8, [.nilFunc]⟩),
 (49, ⟨.one, 1, 8, [.nilFunc]⟩),
 (50, ⟨.one, 1, 8, [.nilFunc]⟩),
 (51, ⟨.one, 1, 8, [.nilFunc]⟩),
 (52, ⟨.one, 1, 8, [.nilFunc]⟩),
 (53, ⟨.one, 1, 8, [.nilFunc]⟩),
 (54, ⟨.one, 1, 8, [.nilFunc]⟩),
 (55, ⟨.one, 1, 8, [.nilFunc]⟩),
 (56, ⟨.one, 1, 8, [.nilFunc]⟩),
 (57, ⟨.one, 1, 8, [.nilFunc]⟩),
 (58, ⟨.ptr, 1, 8, [.pointer none]⟩),
 (59, ⟨.slice 133, 1, 24, [.slice none 0 0]⟩),
 (60, ⟨.agg [0, 1, 2], 3, 56, [.slice none 0 0, .slice none 0 0, .int .i64 0]⟩),
 (61, ⟨.agg [0, 1, 2], 3, 56, [.slice none 0 0, .slice none 0 0, .int .i64 0]⟩),
 (62, ⟨.one, 1, 8, [.nilFunc]⟩),
 (63, ⟨.one, 1, 8, [.nilFunc]⟩),
 (64, ⟨.one, 1, 8, [.nilFunc]⟩),
 (65, ⟨.agg [0, 1, 2], 3, 24, [.int .i64 0, .int .i64 0, .int .i64 0]⟩),
 (66, ⟨.agg [0, 1, 2], 3, 24, [.int .i64 0, .int .i64 0, .int .i64 0]⟩),
 (67, ⟨.agg [0, 1], 2, 16, [.int .i64 0, .int .i64 0]⟩),
 (68, ⟨.agg [0, 1], 2, 16, [.int .i64 0, .int .i64 0]⟩),
 (70, ⟨.one, 1, 8, [.nilFunc]⟩),
 (71, ⟨.one, 1, 8, [.nilFunc]⟩),
 (72, ⟨.one, 1, 8, [.nilFunc]⟩),
 (73, ⟨.one, 1, 8, [.nilFunc]⟩),
 (74, ⟨.one, 1, 8, [.nilFunc]⟩),
 (75, ⟨.one, 1, 8, [.nilFunc]⟩),
 (76, ⟨.one, 1, 8, [.nilFunc]⟩),
 (77, ⟨.one, 1, 8, [.nilFunc]⟩),
 (78, ⟨.one, 1, 8, [.nilFunc]⟩),
 (79, ⟨.ptr, 1, 8, [.pointer none]⟩),
 (80, ⟨.slice 5, 1, 24, [.slice none 0 0]⟩),
 (81, ⟨.agg [0, 1], 2, 32, [.pointer none, .slice none 0 0]⟩),
 (82, ⟨.agg [0, 1], 2, 32, [.pointer none, .slice none 0 0]⟩),
 (83, ⟨.one, 1, 16, [.nilIface]⟩),
 (84, ⟨.one, 1, 16, [.nilIface]⟩),
 (86, ⟨.one, 1, 8, [.nilFunc]⟩),
 (87, ⟨.one, 1, 8, [.nilFunc]⟩),
 (88, ⟨.one, 1, 8, [.int .u64 0]⟩),
 (89, ⟨.one, 1, 8, [.nilFunc]⟩),
 (90, ⟨.one, 1, 8, [.nilFunc]⟩),
 (91, ⟨.one, 1, 8, [.nilFunc]⟩),
 (92, ⟨.one, 1, 8, [.nilFunc]⟩),
 (93, ⟨.one, 1, 8, [.nilFunc]⟩),
 (94, ⟨.one, 1, 8, [.nilFunc]⟩),
 (95, ⟨.one, 1, 8, [.nilFunc]⟩),
 (96, ⟨.one, 1, 8, [.nilFunc]⟩),
 (97, ⟨.one, 1, 8, [.nilFunc]⟩),
 (98, ⟨.slice 146, 1, 24, [.slice none 0 0]⟩),
 (99, ⟨.agg [0, 1, 2, 3, 4], 5, 88, [.int .i64 0, .int .i64 0, .slice none 0 0, .slice none 0 0, .slice none 0 0]⟩),
 (100, ⟨.agg [0, 1, 2, 3, 4], 5, 88, [.int .i64 0, .int .i64 0, .slice none 0 0, .slice none 0 0, .slice none 0 0]⟩),
 (102, ⟨.one, 1, 8, [.nilFunc]⟩),
 (103, ⟨.one, 1, 8, [.nilFunc]⟩),
 (104, ⟨.one, 1, 8, [.nilFunc]⟩),
 (105, ⟨.one, 1, 8, [.nilFunc]⟩),
 (106, ⟨.slice 100, 1, 24, [.slice none 0 0]⟩),
 (107, ⟨.agg [0, 1, 2, 3], 4, 64, [.int .i64 0, .int .i64 0, .slice none 0 0, .slice none 0 0]⟩),
 (108, ⟨.agg [0, 1, 2, 3], 4, 64, [.int .i64 0, .int .i64 0, .slice none 0 0, .slice none 0 0]⟩),
 (109, ⟨.one, 1, 8, [.nilFunc]⟩),
 (110, ⟨.one, 1, 8, [.nilFunc]⟩),
 (111, ⟨.ptr, 1, 8, [.pointer none]⟩),
 (112, ⟨.slice 4, 1, 24, [.slice none 0 0]⟩),
 (113, ⟨.agg [0, 1, 2, 3], 4, 80, [.slice none 0 0, .bool false, .slice none 0 0, .slice none 0 0]⟩),
 (114, ⟨.agg [0, 1, 2, 3], 4, 80, [.slice none 0 0, .bool false, .slice none 0 0, .slice none 0 0]⟩),
 (115, ⟨.one, 1, 8, [.nilFunc]⟩),
 (116, ⟨.one, 1, 8, [.nilFunc]⟩),
 (117, ⟨.one, 1, 8, [.nilFunc]⟩),
 (119, ⟨.one, 1, 8, [.nilFunc]⟩),
 (120, ⟨.one, 1, 8, [.nilFunc]⟩),
 (121, ⟨.one, 1, 8, [.nilFunc]⟩),
 (122, ⟨.one, 1, 8, [.nilFunc]⟩),
 (123, ⟨.one, 1, 8, [.nilFunc]⟩),
 (125, ⟨.one, 1, 8, [.nilFunc]⟩),
 (126, ⟨.one, 1, 8, [.nilFunc]⟩),
 (128, ⟨.one, 1, 8, [.nilFunc]⟩),
 (129, ⟨.one, 1, 8, [.nilFunc]⟩),
 (130, ⟨.one, 1, 8, [.int .u64 0]⟩),
 (131, ⟨.ptr, 1, 8, [.pointer none]⟩),
 (132, ⟨.agg [0, 1], 2, 16, [.int .i64 0, .bool false]⟩),
 (133, ⟨.agg [0, 1], 2, 16, [.int .i64 0, .bool false]⟩),
 (134, ⟨.ptr, 1, 8, [.pointer none]⟩),
 (135, ⟨.one, 1, 8, [.nilFunc]⟩),
 (137, ⟨.one, 1, 8, [.nilFunc]⟩),
 (138, ⟨.one, 1, 8, [.nilFunc]⟩),
 (139, ⟨.one, 1, 8, [.nilFunc]⟩),
 (140, ⟨.one, 1, 8, [.nilFunc]⟩),
 (141, ⟨.one, 1, 8, [.nilFunc]⟩),
 (142, ⟨.one, 1, 8, [.nilFunc]⟩),
 (143, ⟨.one, 1, 8, [.nilFunc]⟩),
 (144, ⟨.one, 1, 8, [.nilFunc]⟩),
 (145, ⟨.one, 1, 8, [.nilFunc]⟩),
 (146, ⟨.agg [0, 1], 2, 16, [.int .i64 0, .int .i64 0]⟩),
 (148, ⟨.one, 1, 8, [.nilFunc]⟩),
 (149, ⟨.slice 26, 1, 24, [.slice none 0 0]⟩),
 (150, ⟨.agg [0], 1, 24, [.slice none 0 0]⟩),
 (151, ⟨.agg [0], 1, 24, [.slice none 0 0]⟩),
 (152, ⟨.one, 1, 8, [.nilFunc]⟩),
 (154, ⟨.one, 1, 8, [.nilFunc]⟩),
 (155, ⟨.one, 1, 8, [.nilFunc]⟩),
 (156, ⟨.one, 1, 8, [.nilFunc]⟩),
 (157, ⟨.one, 1, 8, [.nilFunc]⟩),
 (158, ⟨.one, 1, 8, [.pointer none]⟩),
 (159, ⟨.one, 1, 8, [.nilFunc]⟩),
 (160, ⟨.one, 1, 8, [.nilFunc]⟩),
 (161, ⟨.slice 22, 1, 24, [.slice none 0 0]⟩),
 (162, ⟨.one, 1, 8, [.nilFunc]⟩),
 (163, ⟨.ptr, 1, 8, [.pointer none]⟩),
 (165, ⟨.one, 1, 8, [.nilFunc]⟩),
 (166, ⟨.one, 1, 8, [.nilFunc]⟩),
 (167, ⟨.one, 1, 8, [.nilFunc]⟩),
 (168, ⟨.one, 1, 8, [.nilFunc]⟩),
 (169, ⟨.one, 1, 8, [.nilFunc]⟩),
 (170, ⟨.one, 1, 8, [.nilFunc]⟩),
 (171, ⟨.one, 1, 8, [.int .i64 0]⟩),
 (173, ⟨.one, 1, 8, [.nilFunc]⟩),
 (174, ⟨.ptr, 1, 8, [.pointer none]⟩),
 (175, ⟨.one, 1, 8, [.nilFunc]⟩),
 (176, ⟨.one, 1, 8, [.nilFunc]⟩),
 (178, ⟨.one, 1, 8, [.nilFunc]⟩),
 (179, ⟨.one, 1, 8, [.nilFunc]⟩),
 (181, ⟨.one, 1, 8, [.nilFunc]⟩),
 (182, ⟨.one, 1, 8, [.nilFunc]⟩),
 (183, ⟨.one, 1, 8, [.nilFunc]⟩),
 (184, ⟨.one, 1, 8, [.nilFunc]⟩),
 (185, ⟨.one, 1, 8, [.nilFunc]⟩),
 (187, ⟨.agg [0, 1], 2, 2, [.int .u8 0, .int .u8 0]⟩),
 (188, ⟨.agg [0, 1], 2, 2, [.int .u8 0, .int .u8 0]⟩),
 (190, ⟨.one, 1, 4, [.int .u32 0]⟩),
 (192, ⟨.one, 1, 8, [.nilFunc]⟩),
 (194, ⟨.one, 1, 8, [.nilFunc]⟩),
 (195, ⟨.one, 1, 8, [.nilFunc]⟩),
 (196, ⟨.agg [0, 1, 2], 3, 48, [.string ⟨#[]⟩, .string ⟨#[]⟩, .nilIface]⟩),
 (197, ⟨.agg [0, 1, 2], 3, 48, [.string ⟨#[]⟩, .string ⟨#[]⟩, .nilIface]⟩),
 (198, ⟨.one, 1, 8, [.nilFunc]⟩),
 (199, ⟨.one, 1, 8, [.nilFunc]⟩),
 (202, ⟨.one, 1, 8, [.nilFunc]⟩),
 (203, ⟨.one, 1, 8, [.nilFunc]⟩),
 (204, ⟨.one, 1, 8, [.nilFunc]⟩),
 (205, ⟨.one, 1, 8, [.nilFunc]⟩),
 (206, ⟨.one, 1, 8, [.nilFunc]⟩),
 (207, ⟨.ptr, 1, 8, [.pointer none]⟩),
 (208, ⟨.agg [0], 1, 16, [.string ⟨#[]⟩]⟩),
 (209, ⟨.agg [0], 1, 16, [.string ⟨#[]⟩]⟩),
 (210, ⟨.one, 1, 8, [.nilFunc]⟩),
 (214, ⟨.agg [0, 1, 2, 3], 4, 40, [.pointer none, .pointer none, .pointer none, .string ⟨#[]⟩]⟩),
 (215, ⟨.agg [0, 1, 2, 3], 4, 40, [.pointer none, .pointer none, .pointer none, .string ⟨#[]⟩]⟩),
 (219, ⟨.one, 1, 1, [.int .u8 0]⟩),
 (220, ⟨.one, 1, 1, [.int .u8 0]⟩),
 (221, ⟨.one, 1, 8, [.nilFunc]⟩),
 (222, ⟨.one, 1, 4, [.int .i32 0]⟩),
 (223, ⟨.one, 1, 4, [.int .i32 0]⟩),
 (224, ⟨.agg [0, 1, 2, 3, 4, 5, 6, 7, 8, 9, 10], 11, 48, [.int .u64 0, .int .u64 0, .int .u32 0, .int .u8 0, .int .u8 0, .int .u8 0, .int .u8 0, .nilFunc, .pointer none, .int .i32 0, .int .i32 0]⟩),
 (225, ⟨.agg [0, 1, 2, 3, 4, 5, 6, 7, 8, 9, 10], 11, 48, [.int .u64 0, .int .u64 0, .int .u32 0, .int .u8 0, .int .u8 0, .int .u8 0, .int .u8 0, .nilFunc, .pointer none, .int .i32 0, .int .i32 0]⟩)]
theorem tys : Ty.ok Tryz.prog := Tys.okB_sound (by kernel_rfl)
theorem mixed : Tryz.prog.follows .mixedOrders = true := by kernel_rfl
section
variable {c : Ctx} {s : St} {Q : Exit → St → Prop} {R : St → Prop} {ops : Array Oper} {rest : List Oper} {o : Oper} {t : Nat} {d : D} {n m : Int}
theorem ev (k : WO Tryz.prog c ops rest ⟨(t, d) :: s.fr, s.M⟩ Q) (hg : o.guard = none := by exact rfl) (hd : o.dst = some t := by exact rfl) (ht : t < c.n := by exact AA rfl) (he : evF Ty s o.op = some d := by exact rfl) : WO Tryz.prog c ops (o :: rest) s Q :=
 WO_evF tys hg hd ht he k
theorem evQ (k : QL Tryz.prog c ops rest ⟨(t, d) :: s.fr, s.M⟩ R) (hg : o.guard = none := by exact rfl) (hd : o.dst = some t := by exact rfl) (ht : t < c.n := by exact AA rfl) (he : evF Ty s o.op = some d := by exact rfl) : QL Tryz.prog c ops (o :: rest) s R :=
 QL_ev tys hg hd ht he k
theorem evI (k : WO Tryz.prog c ops rest ⟨(t, .t (.int n)) :: s.fr, s.M⟩ Q) (hg : o.guard = none := by exact rfl) (hd : o.dst = some t := by exact rfl) (ht : t < c.n := by exact AA rfl) (he : evV Ty s o.op = some (.t (.int (IntKind.i64.wrap n))) := by exact rfl)
  (h1 : -9223372036854775808 ≤ n := by omega) (h2 : n ≤ 9223372036854775807 := by omega) : WO Tryz.prog c ops (o :: rest) s Q := LR tys hg hd ht he (C8 h1 h2) k
theorem evIQ (k : QL Tryz.prog c ops rest ⟨(t, .t (.int n)) :: s.fr, s.M⟩ R) (hg : o.guard = none := by exact rfl) (hd : o.dst = some t := by exact rfl) (ht : t < c.n := by exact AA rfl) (he : evV Ty s o.op = some (.t (.int (IntKind.i64.wrap n))) := by exact rfl)
  (h1 : -9223372036854775808 ≤ n := by omega) (h2 : n ≤ 9223372036854775807 := by omega) : QL Tryz.prog c ops (o :: rest) s R := QL_int tys hg hd ht he (C8 h1 h2) k
theorem evE (k : WO Tryz.prog c ops rest ⟨(t, .t (.int m)) :: s.fr, s.M⟩ Q) (hg : o.guard = none := by exact rfl) (hd : o.dst = some t := by exact rfl) (ht : t < c.n := by exact AA rfl) (he : evF Ty s o.op = some (.t (.int n)) := by exact rfl)
  (h1 : n = m := by first | exact lenM | exact rfl) : WO Tryz.prog c ops (o :: rest) s Q := WO_evE tys hg hd ht he h1 k
theorem evEQ (k : QL Tryz.prog c ops rest ⟨(t, .t (.int m)) :: s.fr, s.M⟩ R) (hg : o.guard = none := by exact rfl) (hd : o.dst = some t := by exact rfl) (ht : t < c.n := by exact AA rfl) (he : evF Ty s o.op = some (.t (.int n)) := by exact rfl)
  (h1 : n = m := by first | exact lenM | exact rfl) : QL Tryz.prog c ops (o :: rest) s R := QL_evE tys hg hd ht he h1 k
def Hc (n : Nat) (s : St) (o : Oper) : Option St := match o.guard, o.dst with
  | none, some t => match Nat.blt t n, evF Ty s o.op with
    | true, some d => some ⟨(t, d) :: s.fr, s.M⟩
    | _, _ => none
  | _, _ => none
theorem eZ {s' : St} (h : Hc c.n s o = some s') (k : WO Tryz.prog c ops rest s' Q) : WO Tryz.prog c ops (o :: rest) s Q := by
  unfold Hc at h;split at h
  · rename_i hg hd
    split at h
    · rename_i ht he
      cases h;exact WO_evF tys hg hd (Nat.le_of_ble_eq_true ht) he k
    · cases h
  · cases h
def J5 (ops : Array Oper) (n : Nat) (s : St) (o : Oper) : Option Bool := match o.guard, o.dst with
  | some (j, w), some t => match Nat.blt t n, (ops[j]?).bind (·.dst) with
    | true, some a => match Go.Eng.look s.fr a with
      | .t (.v (.bool b)) => some (b == w)
      | .tup [] => some false
      | _ => none
    | _, _ => none
  | _, _ => none
theorem JF {b : Bool} (h : J5 ops c.n s o = some b) : ∃ j w a t, o.guard = some (j, w) ∧ o.dst = some t ∧ t < c.n ∧ (ops[j]?).bind (·.dst) = some a ∧ ((∃ b', Go.Eng.look s.fr a = .t (.bool b') ∧ b = (b' == w)) ∨ (Go.Eng.look s.fr a = .tup [] ∧ b = false)) := by
  unfold J5 at h;split at h
  · rename_i j w t hg hd
    split at h
    · rename_i a ht ha
      refine ⟨j, w, a, t, hg, hd, Nat.le_of_ble_eq_true ht, ha, ?_⟩;split at h
      · rename_i b' hl; cases h; exact .inl ⟨b', hl, rfl⟩
      · rename_i hl; cases h; exact .inr ⟨hl, rfl⟩
      · cases h
    · cases h
  · cases h
theorem gY (h : J5 ops c.n s o = some true) (k : WO Tryz.prog c ops ({ o with guard := none } :: rest) s Q) : WO Tryz.prog c ops (o :: rest) s Q := by
  obtain ⟨j, w, a, t, hg, hd, ht, ha, ⟨b', hl, hb⟩ | ⟨_, hb⟩⟩ := JF h
  · have : b' = w := by simpa using hb.symm
    subst this;exact FR hg ha hl hd ht k
  · cases hb
def gNx (o : Oper) (s : St) : St := match o.dst with
  | some t => ⟨(t, .tup []) :: s.fr, s.M⟩
  | none => s
theorem gN {s' : St} (h : J5 ops c.n s o = some false) (hs : gNx o s = s') (k : WO Tryz.prog c ops rest s' Q) : WO Tryz.prog c ops (o :: rest) s Q := by
  obtain ⟨j, w, a, t, hg, hd, ht, ha, ⟨b', hl, hb⟩ | ⟨hl, _⟩⟩ := JF h
  · have hb' : b' = !w := by clear hl hg; cases b' <;> cases w <;> first | rfl | cases hb
    unfold gNx at hs;rw [hd] at hs;subst hs;exact FS hg ha hl hb' hd ht k
  · unfold gNx at hs
    rw [hd] at hs;subst hs;exact LS hg ha hl hd ht k
def gMs (ops : Array Oper) (n : Nat) (s : St) (o : Oper) : Option St := match J5 ops n s o with
  | some false => some (gNx o s)
  | _ => none
theorem gM {s' : St} (h : gMs ops c.n s o = some s') (k : WO Tryz.prog c ops rest s' Q) : WO Tryz.prog c ops (o :: rest) s Q := by
  unfold gMs at h;split at h
  · rename_i hg; cases h; exact gN hg rfl k
  · cases h
def Mf (s : St) (o : Oper) : Option St := match o.guard, o.dst, o.op with
  | none, none, .store ty x y => match A7 Ty ty, opd s.fr x, boxD (opd s.fr y) with
    | some ti, .ref id 0 off, some ds => match lookM s.M id with
      | some (.box cells) => match Nat.beq ds.length ti.size, Nat.ble (off + ds.length) cells.length with
        | true, true => some ⟨eat y (opd s.fr y) s.fr, (id, .box (Eng.splice cells off ds)) :: s.M⟩
        | _, _ => none
      | _ => none
    | _, _, _ => none
  | _, _, _ => none
theorem sT {s' : St} (h : Mf s o = some s') (k : WO Tryz.prog c ops rest s' Q) : WO Tryz.prog c ops (o :: rest) s Q := by
  unfold Mf at h;split at h
  · rename_i ty x y hg hd ho
    split at h
    · rename_i ti id off ds h1 hx hy
      split at h
      · rename_i cells hM
        split at h
        · rename_i hl hle
          cases h;exact JX tys hg hd ho h1 hx hM hy (Nat.eq_of_beq_eq_true hl) (Nat.le_of_ble_eq_true hle) k
        · cases h
      · cases h
    · cases h
  · cases h
theorem nZ {l : List Oper} {s' : St} (h : B6 s = some s') (k : WO Tryz.prog c ops l s' Q) : WO Tryz.prog c ops l s Q := LQ h k
theorem kZ {l : List Oper} (ks : List Nat) {s' : St} (h : B6 ⟨C5 s.fr ks, s.M⟩ = some s') (k : WO Tryz.prog c ops l s' Q) : WO Tryz.prog c ops l s Q := Nk ks h k
theorem nY {x : Code} {s' : St} (h : B6 s = some s') (k : W Tryz.prog c x s' Q) : W Tryz.prog c x s Q := FP h k
theorem kY {x : Code} (ks : List Nat) {s' : St} (h : B6 ⟨C5 s.fr ks, s.M⟩ = some s') (k : W Tryz.prog c x s' Q) : W Tryz.prog c x s Q := W_keep ks h k
theorem eR {fn : Func} {ds ds' : List Go.Eng.D} {ys : List (Nat ⊕ Nat)} (hd : ds' = ds) (h : retF Ty s fn.results.toList = some (ds', ys) := by exact rfl) (hn : ys.Nodup := by decide) (hc : D.closed.closedL ds' = true := by exact rfl) : Go.Eng.Ends Ty fn ds .ret s := Go.Eng.Ends_of (.inr rfl) (Kc h) hn hc hd
theorem tN {y : Code} (h : W Tryz.prog c y s Q) : EF Tryz.prog c y Q .normal s := h
theorem tR {y : Code} (h : Q .ret s) : EF Tryz.prog c y Q .ret s := h
theorem tE {y : Code} {id : Nat} (h : Q (.exit id) s) : EF Tryz.prog c y Q (.exit id) s := h
theorem bN {id : Nat} (h : Q .normal s) : HU id Q .normal s := h
theorem bR {id : Nat} (h : Q .ret s) : HU id Q .ret s := h
theorem oN (h : Q .normal s) : WO Tryz.prog c ops [] s Q := WO_nil h
theorem sQ {x y : Code} (h : W Tryz.prog c x s (EF Tryz.prog c y Q)) : W Tryz.prog c (.seq x y) s Q := W_seq h
theorem rG {id : Nat} {l : List Oper} (h : WO Tryz.prog c l.toArray l s Q) : W Tryz.prog c (.region id l.toArray false) s Q := MV h
theorem rT (h : Q .ret s) : W Tryz.prog c .ret s Q := W_ret h
def NV (n : Nat) : Nat → St → List Oper → Option (St × List Oper)
  | 0, s, l => some (s, l)
  | _ + 1, _, [] => none
  | k + 1, s, o :: l => match Hc n s o with
    | some s' => NV n k s' l
    | none => none
theorem eK {s' : St} {l' : List Oper} : ∀ (n : Nat) {s : St} {l : List Oper}, NV c.n n s l = some (s', l') → WO Tryz.prog c ops l' s' Q → WO Tryz.prog c ops l s Q
  | 0, s, l, h, k => by cases h; exact k
  | n + 1, s, [], h, k => by cases h
  | n + 1, s, o :: l, h, k => by
    rw [NV] at h;split at h
    · rename_i he; exact eZ he (eK n h k)
    · cases h
theorem lQ {α : Type} {S : α → St} {inv : α → Prop} {μ : α → Nat} {x : α} (x' : α) (h3 : inv x') (h4 : μ x' < μ x) (h1 : Eng.Sub (S x').fr s.fr := by (try dsimp only); repeat (first | exact Sub.nil' | refine Sub.cons' rfl ?_)) (h2 : SubM (S x').M s.M := by (try dsimp only); repeat (first | exact SubM.nil' | refine SubM.cons' rfl ?_)) : Js c S inv μ x Q .normal s := NG x' h1 h2 h3 h4
theorem lK {α : Type} {body : Code} (ks km : List Nat) (fr : α → List (Nat × Go.Eng.D)) (M : α → List (Nat × Blk)) (inv : α → Prop) (μ : α → Nat) (x0 : α) (h3 : inv x0)
 (round : ∀ x, inv x → W Tryz.prog c body ⟨fr x ++ C5 s.fr ks, M x ++ keepM s.M km⟩ (Js c (fun x => ⟨fr x ++ C5 s.fr ks, M x ++ keepM s.M km⟩) inv μ x Q))
 (h1 : Eng.Sub (fr x0 ++ C5 s.fr ks) s.fr := by repeat (first | exact Sub.nil' | refine Sub.cons' rfl ?_)) (h2 : SubM (M x0 ++ keepM s.M km) s.M := by repeat (first | exact SubM.nil' | refine SubM.cons' rfl ?_)) : W Tryz.prog c (.loop body) s Q := Nj ks km fr M inv μ x0 h1 h2 h3 round
theorem jQ {α : Type} {S : α → St} {inv : α → Prop} (x : α) (h3 : inv x) (h1 : Eng.Sub (S x).fr s.fr := by (try dsimp only); repeat (first | exact Sub.nil' | refine Sub.cons' rfl ?_)) (h2 : SubM (S x).M s.M := by (try dsimp only); repeat (first | exact SubM.nil' | refine SubM.cons' rfl ?_)) : L4 S inv Q .normal s := NN x h1 h2 h3
theorem pinK {ids : List Nat} {id off b n cc : Nat} {ds es : List Go.Eng.D} (h : lookM s.M (1000 + id) = some (.pin id b n cc)) (k : ResP s ids ds es) : ResP s ids (.ref id 0 off :: ds) (.t (.v (.pointer (some ⟨b, off, none⟩))) :: es) := ResP.pin0 _ h k
theorem cP {t : Nat} {fo : Operand} {args : Array Operand} {tys : Array TypeId} {f : FuncId} {es : List Go.Eng.D} {rv : List Value} {rt : List T} {ks : List Blk} {r : Go.Eng.D} {ks' : List Blk} (ids : List Nat)
 (hg : o.guard = none := by exact rfl) (hd : o.dst = some t := by exact rfl) (ht : t < c.n := by exact AA rfl) (ho : o.op = .call { callee := .value fo, args := args, argTypes := tys } := by exact rfl) (hf : opd s.fr fo = .clo f [] := by exact rfl)
 (hes : ResP s ids (args.toList.map (opd s.fr)) es := by repeat (first | exact ResP.done | refine pinK rfl ?_ | refine ResP.t ?_ | refine ResP.nil 1 ?_ | refine ResP.nil' ?_ | refine ResP.own ?_ | refine ResP.sl rfl rfl (by first | omega | (simp; omega)) ?_ | refine ResP.aggT (by repeat (first | exact ResP.done | refine ResP.t ?_)) ?_))
 (hro : lookM s.M 99 = some (.ro rv rt) := by exact rfl) (hM : LookMs s.M ids ks := by repeat (first | exact trivial | refine ⟨rfl, rfl, ?_⟩)) (hnd : ids.Nodup := by decide) (hm : Proc Tryz.prog f es rv rt ks r ks') (hr : r.noImm = true := by exact rfl) (hl' : ids.length = ks'.length := by exact rfl) (hks' : ks'.all Blk.shut = true := by exact rfl) (k : WO Tryz.prog c ops rest ⟨(t, r) :: s.fr, ids.zip ks' ++ s.M⟩ Q) : WO Tryz.prog c ops (o :: rest) s Q :=
 MX (rid := 99) ids hg hd ht ho hf hes hro hM hnd hm hr hl' hks' k
theorem eP {fn : Func} {ids : List Nat} {r : Go.Eng.D} (ks : List Blk) {ks' : List Blk} {e : Exit} {ds' : List Go.Eng.D} {ys : List (Nat ⊕ Nat)} (hr : Aq ds' = r) (hk : ks = ks') (he : e = .normal ∨ e = .ret := by first | exact .inr rfl | exact .inl rfl) (h : retF Ty s fn.results.toList = some (ds', ys) := by exact rfl) (hn : ys.Nodup := by decide) (hi : D.noImm.noImmL ds' = true := by exact rfl) (hy : noR ids ys = true := by exact rfl)
 (hl : LookMs s.M ids ks := by repeat (first | exact trivial | refine ⟨rfl, rfl, ?_⟩)) : Lg Ty fn ids r ks' e s := Md he (Kc h) hn hi (L2 hy) hl hr hk
theorem bZ {ty e t len : Nat} {parts : Array (Nat × Operand)} {ti te : TI} (ys : List T) (kk : WO Tryz.prog c ops rest ⟨(t, .sl t 0 ys.length) :: KC (Ai s.fr (parts.toList.map (·.2))) (killF t s.fr), (t, .L te.size ys) :: killM t s.M⟩ Q) (hg : o.guard = none := by exact rfl) (hd : o.dst = some t := by exact rfl) (ht : t < c.n := by exact AA rfl) (ho : o.op = .buildSlice ty len parts := by exact rfl)
 (h1 : A7 Ty ty = some ti := by exact rfl) (h2 : ti.kind = .slice e := by exact rfl) (h3 : A7 Ty e = some te := by exact rfl) (hp : parts.toList.map (·.1) = List.range len := by exact rfl) (hl : len * te.size ≤ 16777216 := by first | exact (AA rfl) | decide)
 (hy : PartsOk s.fr te.size (parts.toList.map (·.2)) ys := by repeat (first | exact PartsOk.nil' | refine PartsOk.cons' rfl (by repeat (first | exact AbsL.nil' | refine AbsL.v' ?_ | refine AbsL.own' ?_ | refine AbsL.none' ?_)) rfl ?_)) (hm : (Ai s.fr (parts.toList.map (·.2))).Nodup := by first | exact List.nodup_nil | exact nodup1 _ | decide | exact nodupB_sound rfl) (hzs : te.zero.length = te.size := by exact rfl) (hpos : 0 < te.size := by decide) : WO Tryz.prog c ops (o :: rest) s Q :=
 Dj tys ys hg hd ht ho h1 h2 h3 hp hl hy hm hzs hpos kk
theorem gB {j d t : Nat} {want b : Bool} (h2 : b = (!want) → WO Tryz.prog c ops rest ⟨(t, .tup []) :: (d, .t (.bool (!want))) :: s.fr, s.M⟩ Q) (h1 : b = want → WO Tryz.prog c ops ({ o with guard := none } :: rest) ⟨(d, .t (.bool want)) :: s.fr, s.M⟩ Q) (hg : o.guard = some (j, want) := by exact rfl) (hj : (ops[j]?).bind (·.dst) = some d := by exact rfl) (hl : Go.Eng.look s.fr d = .t (.bool b) := by exact rfl) (hd : o.dst = some t := by exact rfl) (ht : t < c.n := by exact AA rfl) : WO Tryz.prog c ops (o :: rest) s Q := Gp hg hj hl hd ht h1 h2
theorem iX {ty e t n : Nat} {x ix : Operand} {ti te : TI} {l : List T} {i : Int} (hg : o.guard = none := by exact rfl) (hd : o.dst = some t := by exact rfl) (ht : t < c.n := by exact AA rfl) (ho : o.op = .indexAddr ty x ix := by exact rfl)
 (h1 : A7 Ty ty = some ti := by exact rfl) (h2 : ti.kind = .slice e := by exact rfl) (h3 : A7 Ty e = some te := by exact rfl) (h4 : te.size = n := by exact rfl) (hx : opd s.fr x = .t (.list n l) := by exact rfl) (hix : opd s.fr ix = .t (.int i) := by exact rfl) (h5 : 0 ≤ i) {y : T} (h6 : l[i.toNat]? = some y) (k : WO Tryz.prog c ops rest ⟨(t, .rp y 0) :: s.fr, s.M⟩ Q) : WO Tryz.prog c ops (o :: rest) s Q := Bi tys hg hd ht ho h1 h2 h3 h4 hx hix h5 y h6 k
theorem nA {z : Code} {id : Nat} {l : List Oper} (h : WO Tryz.prog c l.toArray l s (EF Tryz.prog c z Q)) : WO Tryz.prog c ops [] s (EF Tryz.prog c (.seq (.region id l.toArray false) z) Q) := oN (tN (sQ (rG h)))
theorem nB {y : Code} (h : W Tryz.prog c y s Q) : WO Tryz.prog c ops [] s (EF Tryz.prog c y Q) := oN (tN h)
theorem sG {y : Code} {id : Nat} {l : List Oper} (h : WO Tryz.prog c l.toArray l s (EF Tryz.prog c y Q)) : W Tryz.prog c (.seq (.region id l.toArray false) y) s Q := sQ (rG h)
def Mw (ops : Array Oper) (n : Nat) (s : St) (o : Oper) : Option St := match o.guard with
  | none => Hc n s o
  | some _ => match J5 ops n s o with
    | some true => Hc n s { o with guard := none }
    | some false => some (gNx o s)
    | none => none
theorem xZ {s' : St} (h : Mw ops c.n s o = some s') (k : WO Tryz.prog c ops rest s' Q) : WO Tryz.prog c ops (o :: rest) s Q := by
  unfold Mw at h;split at h
  · exact eZ h k
  · split at h
    · rename_i hs; exact gY hs (eZ h k)
    · rename_i hs; cases h; exact gN hs rfl k
    · cases h
def xRun (ops : Array Oper) (n : Nat) : Nat → St → List Oper → Option (St × List Oper)
  | 0, s, l => some (s, l)
  | _ + 1, _, [] => none
  | k + 1, s, o :: l => match Mw ops n s o with
    | some s' => xRun ops n k s' l
    | none => none
theorem xK {s' : St} {l' : List Oper} : ∀ (n : Nat) {s : St} {l : List Oper}, xRun ops c.n n s l = some (s', l') → WO Tryz.prog c ops l' s' Q → WO Tryz.prog c ops l s Q
  | 0, s, l, h, k => by cases h; exact k
  | n + 1, s, [], h, k => by cases h
  | n + 1, s, o :: l, h, k => by
    rw [xRun] at h;split at h
    · rename_i he; exact xZ he (xK n h k)
    · cases h
theorem iY {ty e t n : Nat} {x ix : Operand} {ti te : TI} {α : Type} {f : α → T} {l : List α} {i : Int} (hg : o.guard = none := by exact rfl) (hd : o.dst = some t := by exact rfl) (ht : t < c.n := by exact AA rfl) (ho : o.op = .indexAddr ty x ix := by exact rfl)
 (h1 : A7 Ty ty = some ti := by exact rfl) (h2 : ti.kind = .slice e := by exact rfl) (h3 : A7 Ty e = some te := by exact rfl) (h4 : te.size = n := by exact rfl) (hx : opd s.fr x = .t (.list n (l.map f)) := by exact rfl) (hix : opd s.fr ix = .t (.int i) := by exact rfl) (h5 : 0 ≤ i := by omega) (h6 : i < l.length := by omega) (k : WO Tryz.prog c ops rest ⟨(t, .rp (f (l[i.toNat]'(by omega))) 0) :: s.fr, s.M⟩ Q) : WO Tryz.prog c ops (o :: rest) s Q := Bi tys hg hd ht ho h1 h2 h3 h4 hx hix h5 _ (FW f l h5 h6) k
theorem Z {α : Type _} {a : α} : a = a := rfl
end
end Go.Proofs.YthinnpkpafmbcaaGreatDoor
