/- The types of the program that the walks meet, held against the program itself. -/
import Derived.Test.YtimpganophnehaaGreatMb
import Derived.Test.YtimpganophnehaaGreatProg
import Derived.KernelRfl
namespace Go.Proofs.YtimpganophnehaaGreat
open Go.Eng
def Ty : Tys := [
 (1, ⟨.one, 1, 8, [.nilFunc]⟩),
 (2, ⟨.one, 1, 8, [.int .i64 0]⟩),
 (3, ⟨.one, 1, 8, [.int .i64 0]⟩),
 (4, ⟨.bool, 1, 1, [.bool false]⟩),
 (5, ⟨.one, 1, 1, [.int .u8 0]⟩),
 (6, ⟨.one, 1, 1, [.int .u8 0]⟩),
 (7, ⟨.agg [0, 1, 2, 3], 4, 24, [.int .i64 0, .int .i64 0, .bool false, .int .u8 0]⟩),
 (8, ⟨.agg [0, 1, 2, 3], 4, 24, [.int .i64 0, .int .i64 0, .bool false, .int .u8 0]⟩),
 (9, ⟨.str, 1, 16, [.string ⟨#[]⟩]⟩),
 (10, ⟨.str, 1, 16, [.string ⟨#[]⟩]⟩),
 (11, ⟨.str, 1, 16, [.string ⟨#[]⟩]⟩),
 (12, ⟨.one, 1, 8, [.int .u64 0]⟩),
 (13, ⟨.agg [0, 1], 2, 24, [.string ⟨#[]⟩, .int .u64 0]⟩),
 (14, ⟨.agg [0, 1], 2, 24, [.string ⟨#[]⟩, .int .u64 0]⟩),
 (15, ⟨.ptr, 1, 8, [.pointer none]⟩),
 (16, ⟨.ptr, 1, 8, [.pointer none]⟩),
 (17, ⟨.ptr, 1, 8, [.pointer none]⟩),
 (18, ⟨.agg [0], 1, 8, [.pointer none]⟩),
 (19, ⟨.agg [0], 1, 8, [.pointer none]⟩),
 (20, ⟨.one, 1, 16, [.nilIface]⟩),
 (21, ⟨.one, 1, 4, [.int .i32 0]⟩),
 (22, ⟨.slice 108, 1, 24, [.slice none 0 0]⟩),
 (23, ⟨.agg [0], 1, 24, [.slice none 0 0]⟩),
 (24, ⟨.agg [0], 1, 24, [.slice none 0 0]⟩),
 (25, ⟨.slice 3, 1, 24, [.slice none 0 0]⟩),
 (26, ⟨.one, 1, 8, [.nilFunc]⟩),
 (28, ⟨.one, 1, 8, [.nilFunc]⟩),
 (29, ⟨.slice 83, 1, 24, [.slice none 0 0]⟩),
 (30, ⟨.agg [0], 1, 24, [.slice none 0 0]⟩),
 (31, ⟨.agg [0], 1, 24, [.slice none 0 0]⟩),
 (32, ⟨.one, 1, 8, [.nilFunc]⟩),
 (33, ⟨.one, 1, 8, [.nilFunc]⟩),
 (34, ⟨.one, 1, 8, [.nilFunc]⟩),
 (35, ⟨.one, 1, 8, [.nilFunc]⟩),
 (36, ⟨.one, 1, 8, [.nilFunc]⟩),
 (37, ⟨.slice 121, 1, 24, [.slice none 0 0]⟩),
 (38, ⟨.agg [0], 1, 24, [.slice none 0 0]⟩),
 (39, ⟨.agg [0], 1, 24, [.slice none 0 0]⟩),
 (40, ⟨.slice 25, 1, 24, [.slice none 0 0]⟩),
 (41, ⟨.one, 1, 8, [.nilFunc]⟩),
 (42, ⟨.one, 1, 8, [.nilFunc]⟩),
 (44, ⟨.one, 1, 8, [.nilFunc]⟩),
 (45, ⟨.slice 72, 1, 24, [.slice none 0 0]⟩),
 (46, ⟨.agg [0], 1, 24, [.slice none 0 0]⟩),
 (47, ⟨.agg [0], 1, 24, [.slice none 0 0]⟩),
 (48, ⟨.one, 1, 8, [.nilFunc]⟩),
 (49, ⟨.one, 1, 8, [.nilFunc]⟩),
 (50, ⟨.one, 1, 8, [.nilFunc]⟩),
 (51, ⟨.one, 1, 8, [.nilFunc]⟩),
 (52, ⟨.one, 1, 8, [.nilFunc]⟩),
 (53, ⟨.one, 1, 8, [.nilFunc]⟩),
 (54, ⟨.one, 1, 8, [.nilFunc]⟩),
 (56, ⟨.one, 1, 8, [.nilFunc]⟩),
 (57, ⟨.one, 1, 8, [.nilFunc]⟩),
 (59, ⟨.one, 1, 8, [.nilFunc]⟩),
 (60, ⟨.one, 1, 8, [.nilFunc]⟩),
 (61, ⟨.one, 1, 8, [.nilFunc]⟩),
 (62, ⟨.one, 1, 8, [.nilFunc]⟩),
 (63, ⟨.one, 1, 8, [.nilFunc]⟩),
 (64, ⟨.one, 1, 8, [.nilFunc]⟩),
 (65, ⟨.one, 1, 8, [.nilFunc]⟩),
 (66, ⟨.one, 1, 8, [.nilFunc]⟩),
 (67, ⟨.one, 1, 8, [.nilFunc]⟩),
 (68, ⟨.one, 1, 8, [.nilFunc]⟩),
 (69, ⟨.slice 128, 1, 24, [.slice none 0 0]⟩),
 (70, ⟨.slice 124, 1, 24, [.slice none 0 0]⟩),
 (71, ⟨.agg [0, 1, 2, 3, 4], 5, 88, [.int .i64 0, .int .i64 0, .slice none 0 0, .slice none 0 0, .slice none 0 0]⟩),
 (72, ⟨.agg [0, 1, 2, 3, 4], 5, 88, [.int .i64 0, .int .i64 0, .slice none 0 0, .slice none 0 0, .slice none 0 0]⟩),
 (73, ⟨.one, 1, 8, [.nilFunc]⟩),
 (74, ⟨.slice 4, 1, 24, [.slice none 0 0]⟩),
 (76, ⟨.one, 1, 8, [.nilFunc]⟩),
 (77, ⟨.one, 1, 8, [.nilFunc]⟩),
 (78, ⟨.one, 1, 8, [.nilFunc]⟩),
 (79, ⟨.one, 1, 8, [.nilFunc]⟩),
 (80, ⟨.one, 1, 8, [.nilFunc]⟩),
 (81, ⟨.slice 86, 1, 24, [.slice none 0 0]⟩),
 (82, ⟨.agg [0, 1, 2, 3], 4, 64, [.int .i64 0, .int .i64 0, .slice none 0 0, .slice none 0 0]⟩),
 (83, ⟨.agg [0, 1, 2, 3], 4, 64, [.int .i64 0, .int .i64 0, .slice none 0 0, .slice none 0 0]⟩),
 (84, ⟨.slice 141, 1, 24, [.slice none 0 0]⟩),
 (85, ⟨.agg [0, 1, 2, 3, 4], 5, 88, [.int .i64 0, .int .i64 0, .slice none 0 0, .slice none 0 0, .slice none 0 0]⟩),
 (86, ⟨.agg [0, 1, 2, 3, 4], 5, 88, [.int .i64 0, .int .i64 0, .slice none 0 0, .slice none 0 0, .slice none 0 0]⟩),
 (87, ⟨.one, 1, 8, [.nilFunc]⟩),
 (88, ⟨.one, 1, 8, [.nilFunc]⟩),
 (89, ⟨.one, 1, 8, [.nilFunc]⟩),
 (90, ⟨.ptr, 1, 8, [.pointer none]⟩),
 (91, ⟨.slice 101, 1, 24, [.slice none 0 0]⟩),
 (92, ⟨.slice 191, 1, 24, [.slice none 0 0]⟩),
 (93, ⟨.agg [0, 1, 2, 3, 4, 5, 6], 7, 104, [.slice none 0 0, .slice none 0 0, .int .i64 0, .int .i64 0, .int .i64 0, .int .i64 0, .slice none 0 0]⟩),
 (94, ⟨.agg [0, 1, 2, 3, 4, 5, 6], 7, 104, [.slice none 0 0, .slice none 0 0, .int .i64 0, .int .i64 0, .int .i64 0, .int .i64 0, .slice none 0 0]⟩),
 (95, ⟨.one, 1, 8, [.nilFunc]⟩),
 (96, ⟨.agg [0, 1, 2, 3], 10, 160, [.slice none 0 0, .slice none 0 0, .int .i64 0, .slice none 0 0, .slice none 0 0, .int .i64 0, .int .i64 0, .int .i64 0, .int .i64 0, .slice none 0 0]⟩),
 (97, ⟨.agg [0, 1, 2, 3], 10, 160, [.slice none 0 0, .slice none 0 0, .int .i64 0, .slice none 0 0, .slice none 0 0, .int .i64 0, .int .i64 0, .int .i64 0, .int .i64 0, .slice none 0 0]⟩),
 (98, ⟨.ptr, 1, 8, [.pointer none]⟩),
 (99, ⟨.one, 1, 8, [.nilFunc]⟩),
 (100, ⟨.agg [0, 1, 2, 3, 4, 5, 6, 7, 8, 9, 10], 11, 136, [.int .i64 0, .int .i64 0, .int .i64 0, .slice none 0 0, .slice none 0 0, .slice none 0 0, .int .i64 0, .int .i64 0, .int .i64 0, .int .i64 0, .bool false]⟩),
 (101, ⟨.agg [0, 1, 2, 3, 4, 5, 6, 7, 8, 9, 10], 11, 136, [.int .i64 0, .int .i64 0, .int .i64 0, .slice none 0 0, .slice none 0 0, .slice none 0 0, .int .i64 0, .int .i64 0, .int .i64 0, .int .i64 0, .bool false]⟩),
 (102, ⟨.ptr, 1, 8, [.pointer none]⟩),
 (103, ⟨.agg [0, 1, 2, 3], 10, 160, [.slice none 0 0, .slice none 0 0, .int .i64 0, .slice none 0 0, .slice none 0 0, .int .i64 0, .int .i64 0, .int .i64 0, .int .i64 0, .slice none 0 0]⟩),
 (104, ⟨.agg [0, 1, 2, 3], 10, 160, [.slice none 0 0, .slice none 0 0, .int .i64 0, .slice none 0 0, .slice none 0 0, .int .i64 0, .int .i64 0, .int .i64 0, .int .i64 0, .slice none 0 0]⟩),
 (105, ⟨.one, 1, 8, [.nilFunc]⟩),
 (106, ⟨.slice 195, 1, 24, [.slice none 0 0]⟩),
 (107, ⟨.agg [0, 1, 2, 3], 4, 64, [.int .i64 0, .int .i64 0, .slice none 0 0, .slice none 0 0]⟩),
 (108, ⟨.agg [0, 1, 2, 3], 4, 64, [.int .i64 0, .int .i64 0, .slice none 0 0, .slice none 0 0]⟩),
 (109, ⟨.one, 1, 8, [.nilFunc]⟩),
 (110, ⟨.one, 1, 8, [.nilFunc]⟩),
 (111, ⟨.one, 1, 8, [.nilFunc]⟩),
 (112, ⟨.one, 1, 8, [.nilFunc]⟩),
 (113, ⟨.agg [0, 1, 2, 3], 4, 48, [.int .i64 0, .int .i64 0, .slice none 0 0, .int .i64 0]⟩),
 (114, ⟨.agg [0, 1, 2, 3], 4, 48, [.int .i64 0, .int .i64 0, .slice none 0 0, .int .i64 0]⟩),
 (115, ⟨.one, 1, 8, [.nilFunc]⟩),
 (116, ⟨.one, 1, 8, [.nilFunc]⟩),
 (117, ⟨.one, 1, 8, [.nilFunc]⟩),
 (118, ⟨.slice 219, 1, 24, [.slice none 0 0]⟩),
 (119, ⟨.slice 221, 1, 24, [.slice none 0 0]⟩),
 (120, ⟨.agg [0, 1, 2, 3, 4], 5, 88, [.int .i64 0, .int .i64 0, .slice none 0 0, .slice none 0 0, .slice none 0 0]⟩),
 (121, ⟨.agg [0, 1, 2, 3, 4], 5, 88, [.int .i64 0, .int .i64 0, .slice none 0 0, .slice none 0 0, .slice none 0 0]⟩),
 (122, ⟨.one, 1, 8, [.nilFunc]⟩),
 (123, ⟨.agg [0, 1, 2], 3, 24, [.int .i64 0, .int .i64 0, .int .i64 0]⟩),
 (124, ⟨.agg [0, 1, 2], 3, 24, [.int .i64 0, .int .i64 0, .int .i64 0]⟩),
 (126, ⟨.one, 1, 8, [.nilFunc]⟩),
 (127, ⟨.agg [0, 1], 2, 16, [.int .i64 0, .int .i64 0]⟩),
 (128, ⟨.agg [0, 1], 2, 16, [.int .i64 0, .int .i64 0]⟩),
 (129, ⟨.one, 1, 8, [.nilFunc]⟩),
 (130, ⟨.one, 1, 8, [.nilFunc]⟩),
 (132, ⟨.one, 1, 8, [.nilFunc]⟩),
 (133, ⟨.one, 1, 8, [.nilFunc]⟩),
 (134, ⟨.one, 1, 8, [.nilFunc]⟩),
 (135, ⟨.one, 1, 8, [.nilFunc]⟩),
 (136, ⟨.one, 1, 8, [.nilFunc]⟩),
 (137, ⟨.one, 1, 8, [.nilFunc]⟩),
 (138, ⟨.one, 1, 8, [.nilFunc]⟩),
 (139, ⟨.one, 1, 8, [.nilFunc]⟩),
 (140, ⟨.one, 1, 8, [.nilFunc]⟩),
 (141, ⟨.agg [0, 1], 2, 16, [.int .i64 0, .int .i64 0]⟩),
 (142, ⟨.one, 1, 8, [.nilFunc]⟩),
 (143, ⟨.one, 1, 8, [.nilFunc]⟩),
 (144, ⟨.one, 1, 8, [.nilFunc]⟩),
 (145, ⟨.one, 1, 8, [.nilFunc]⟩),
 (146, ⟨.one, 1, 8, [.nilFunc]⟩),
 (147, ⟨.one, 1, 8, [.nilFunc]⟩),
 (148, ⟨.one, 1, 8, [.nilFunc]⟩),
 (149, ⟨.one, 1, 8, [.nilFunc]⟩),
 (151, ⟨.one, 1, 8, [.nilFunc]⟩),
 (152, ⟨.one, 1, 8, [.nilFunc]⟩),
 (153, ⟨.one, 1, 8, [.nilFunc]⟩),
 (154, ⟨.one, 1, 8, [.nilFunc]⟩),
 (155, ⟨.one, 1, 8, [.nilFunc]⟩),
 (156, ⟨.one, 1, 8, [.nilFunc]⟩),
 (157, ⟨.one, 1, 8, [.nilFunc]⟩),
 (158, ⟨.one, 1, 8, [.nilFunc]⟩),
 (159, ⟨.one, 1, 8, [.nilFunc]⟩),
 (160, ⟨.one, 1, 8, [.nilFunc]⟩),
 (161, ⟨.one, 1, 8, [.nilFunc]⟩),
 (162, ⟨.ptr, 1, 8, [.pointer none]⟩),
 (163, ⟨.agg [0, 1, 2, 3, 4, 5], 9, 120, [.slice none 0 0, .slice none 0 0, .int .i64 0, .int .i64 0, .int .i64 0, .int .i64 0, .int .i64 0, .slice none 0 0, .int .i64 0]⟩),
 (164, ⟨.agg [0, 1, 2, 3, 4, 5], 9, 120, [.slice none 0 0, .slice none 0 0, .int .i64 0, .int .i64 0, .int .i64 0, .int .i64 0, .int .i64 0, .slice none 0 0, .int .i64 0]⟩),
 (165, ⟨.one, 1, 8, [.nilFunc]⟩),
 (166, ⟨.ptr, 1, 8, [.pointer none]⟩),
 (167, ⟨.one, 1, 8, [.nilFunc]⟩),
 (168, ⟨.one, 1, 8, [.nilFunc]⟩),
 (169, ⟨.one, 1, 8, [.nilFunc]⟩),
 (170, ⟨.one, 1, 8, [.nilFunc]⟩),
 (171, ⟨.one, 1, 8, [.nilFunc]⟩),
 (172, ⟨.one, 1, 8, [.nilFunc]⟩),
 (173, ⟨.one, 1, 8, [.nilFunc]⟩),
 (174, ⟨.one, 1, 8, [.nilFunc]⟩),
 (175, ⟨.one, 1, 8, [.nilFunc]⟩),
 (176, ⟨.one, 1, 8, [.nilFunc]⟩),
 (177, ⟨.one, 1, 8, [.nilFunc]⟩),
 (178, ⟨.one, 1, 8, [.nilFunc]⟩),
 (179, ⟨.one, 1, 8, [.nilFunc]⟩),
 (180, ⟨.one, 1, 8, [.nilFunc]⟩),
 (181, ⟨.one, 1, 8, [.nilFunc]⟩),
 (182, ⟨.one, 1, 8, [.nilFunc]⟩),
 (183, ⟨.one, 1, 8, [.nilFunc]⟩),
 (184, ⟨.one, 1, 8, [.nilFunc]⟩),
 (185, ⟨.one, 1, 8, [.nilFunc]⟩),
 (187, ⟨.one, 1, 8, [.nilFunc]⟩),
 (188, ⟨.one, 1, 8, [.nilFunc]⟩),
 (189, ⟨.one, 1, 8, [.nilFunc]⟩),
 (190, ⟨.agg [0, 1, 2], 3, 24, [.int .i64 0, .int .i64 0, .int .i64 0]⟩),
 (191, ⟨.agg [0, 1, 2], 3, 24, [.int .i64 0, .int .i64 0, .int .i64 0]⟩),
 (192, ⟨.one, 1, 8, [.nilFunc]⟩),
 (193, ⟨.slice 249, 1, 24, [.slice none 0 0]⟩),
 (194, ⟨.agg [0, 1, 2, 3, 4], 5, 88, [.int .i64 0, .int .i64 0, .slice none 0 0, .slice none 0 0, .slice none 0 0]⟩),
 (195, ⟨.agg [0, 1, 2, 3, 4], 5, 88, [.int .i64 0, .int .i64 0, .slice none 0 0, .slice none 0 0, .slice none 0 0]⟩),
 (196, ⟨.ptr, 1, 8, [.pointer none]⟩),
 (197, ⟨.agg [0, 1, 2, 3, 4, 5], 6, 96, [.slice none 0 0, .slice none 0 0, .int .i64 0, .int .i64 0, .int .i64 0, .slice none 0 0]⟩),
 (198, ⟨.agg [0, 1, 2, 3, 4, 5], 6, 96, [.slice none 0 0, .slice none 0 0, .int .i64 0, .int .i64 0, .int .i64 0, .slice none 0 0]⟩),
 (199, ⟨.agg [0, 1], 2, 16, [.int .i64 0, .int .i64 0]⟩),
 (200, ⟨.agg [0, 1], 2, 16, [.int .i64 0, .int .i64 0]⟩),
 (202, ⟨.one, 1, 8, [.nilFunc]⟩),
 (203, ⟨.ptr, 1, 8, [.pointer none]⟩),
 (204, ⟨.agg [0, 2], 3, 24, [.int .i64 0, .int .i64 0, .int .i64 0]⟩),
 (205, ⟨.agg [0, 2], 3, 24, [.int .i64 0, .int .i64 0, .int .i64 0]⟩),
 (206, ⟨.one, 1, 8, [.nilFunc]⟩),
 (207, ⟨.one, 1, 8, [.nilFunc]⟩),
 (208, ⟨.one, 1, 8, [.nilFunc]⟩),
 (209, ⟨.one, 1, 8, [.nilFunc]⟩),
 (210, ⟨.one, 1, 8, [.nilFunc]⟩),
 (211, ⟨.ptr, 1, 8, [.pointer none]⟩),
 (212, ⟨.one, 1, 8, [.nilFunc]⟩),
 (213, ⟨.agg [0, 1, 2, 3, 4, 5, 6, 7], 8, 96, [.int .i64 0, .slice none 0 0, .int .i64 0, .slice none 0 0, .int .i64 0, .int .i64 0, .bool false, .pointer none]⟩),
 (214, ⟨.agg [0, 1, 2, 3, 4, 5, 6, 7], 8, 96, [.int .i64 0, .slice none 0 0, .int .i64 0, .slice none 0 0, .int .i64 0, .int .i64 0, .bool false, .pointer none]⟩),
 (215, ⟨.one, 1, 8, [.nilFunc]⟩),
 (216, ⟨.one, 1, 8, [.nilFunc]⟩),
 (217, ⟨.one, 1, 8, [.nilFunc]⟩),
 (218, ⟨.one, 1, 8, [.nilFunc]⟩),
 (219, ⟨.agg [0, 1], 2, 16, [.int .i64 0, .int .i64 0]⟩),
 (220, ⟨.one, 1, 8, [.nilFunc]⟩),
 (221, ⟨.agg [0, 1, 2], 3, 24, [.int .i64 0, .int .i64 0, .int .i64 0]⟩),
 (222, ⟨.one, 1, 8, [.nilFunc]⟩),
 (223, ⟨.one, 1, 8, [.nilFunc]⟩),
 (224, ⟨.one, 1, 8, [.nilFunc]⟩),
 (225, ⟨.one, 1, 8, [.nilFunc]⟩),
 (226, ⟨.one, 1, 8, [.nilFunc]⟩),
 (227, ⟨.one, 1, 8, [.nilFunc]⟩),
 (228, ⟨.one, 1, 8, [.nilFunc]⟩),
 (229, ⟨.one, 1, 8, [.nilFunc]⟩),
 (230, ⟨.ptr, 1, 8, [.pointer none]⟩),
 (231, ⟨.agg [0, 4, 5, 6, 7, 8], 9, 136, [.int .i64 0, .int .i64 0, .slice none 0 0, .slice none 0 0, .slice none 0 0, .slice none 0 0, .int .i64 0, .int .i64 0, .pointer none]⟩),
 (232, ⟨.agg [0, 4, 5, 6, 7, 8], 9, 136, [.int .i64 0, .int .i64 0, .slice none 0 0, .slice none 0 0, .slice none 0 0, .slice none 0 0, .int .i64 0, .int .i64 0, .pointer none]⟩),
 (233, ⟨.one, 1, 8, [.nilFunc]⟩),
 (234, ⟨.one, 1, 8, [.nilFunc]⟩),
 (236, ⟨.one, 1, 8, [.nilFunc]⟩),
 (237, ⟨.one, 1, 8, [.nilFunc]⟩),
 (238, ⟨.one, 1, 8, [.nilFunc]⟩),
 (239, ⟨.one, 1, 8, [.nilFunc]⟩),
 (240, ⟨.one, 1, 8, [.nilFunc]⟩),
 (241, ⟨.one, 1, 8, [.nilFunc]⟩),
 (242, ⟨.one, 1, 8, [.nilFunc]⟩),
 (243, ⟨.one, 1, 8, [.int .u64 0]⟩),
 (245, ⟨.one, 1, 8, [.nilFunc]⟩),
 (246, ⟨.one, 1, 8, [.nilFunc]⟩),
 (247, ⟨.one, 1, 8, [.nilFunc]⟩),
 (248, ⟨.one, 1, 8, [.nilFunc]⟩),
 (249, ⟨.agg [0, 1], 2, 16, [.int .i64 0, .int .i64 0]⟩),
 (250, ⟨.one, 1, 8, [.nilFunc]⟩),
 (251, ⟨.one, 1, 8, [.nilFunc]⟩),
 (252, ⟨.one, 1, 8, [.nilFunc]⟩),
 (253, ⟨.one, 1, 8, [.nilFunc]⟩),
 (254, ⟨.one, 1, 8, [.nilFunc]⟩),
 (255, ⟨.one, 1, 8, [.nilFunc]⟩),
 (256, ⟨.one, 1, 4, [.int .u32 0]⟩),
 (258, ⟨.one, 1, 8, [.nilFunc]⟩),
 (259, ⟨.one, 1, 8, [.int .u64 0]⟩),
 (261, ⟨.one, 1, 8, [.nilFunc]⟩),
 (262, ⟨.one, 1, 8, [.nilFunc]⟩),
 (263, ⟨.one, 1, 8, [.nilFunc]⟩),
 (264, ⟨.one, 1, 8, [.int .i64 0]⟩),
 (266, ⟨.one, 1, 8, [.nilFunc]⟩),
 (267, ⟨.one, 1, 8, [.nilFunc]⟩),
 (268, ⟨.one, 1, 8, [.nilFunc]⟩),
 (269, ⟨.one, 1, 8, [.nilFunc]⟩),
 (270, ⟨.one, 1, 8, [.nilFunc]⟩),
 (271, ⟨.one, 1, 8, [.nilFunc]⟩),
 (272, ⟨.one, 1, 8, [.nilFunc]⟩),
 (273, ⟨.one, 1, 8, [.nilFunc]⟩),
 (274, ⟨.one, 1, 8, [.nilFunc]⟩),
 (275, ⟨.one, 1, 8, [.int .u64 0]⟩),
 (276, ⟨.one, 1, 8, [.nilFunc]⟩),
 (277, ⟨.one, 1, 8, [.nilFunc]⟩),
 (278, ⟨.one, 1, 8, [.nilFunc]⟩),
 (279, ⟨.ptr, 1, 8, [.pointer none]⟩),
 (280, ⟨.one, 1, 8, [.nilFunc]⟩),
 (281, ⟨.one, 1, 8, [.nilFunc]⟩),
 (282, ⟨.ptr, 1, 8, [.pointer none]⟩),
 (283, ⟨.one, 1, 8, [.nilFunc]⟩),
 (284, ⟨.one, 1, 8, [.nilFunc]⟩),
 (285, ⟨.agg [0, 1, 2, 3], 4, 40, [.pointer none, .pointer none, .pointer none, .string ⟨#[]⟩]⟩),
 (286, ⟨.agg [0, 1, 2, 3], 4, 40, [.pointer none, .pointer none, .pointer none, .string ⟨#[]⟩]⟩),
 (290, ⟨.one, 1, 1, [.int .u8 0]⟩),
 (291, ⟨.one, 1, 1, [.int .u8 0]⟩),
 (292, ⟨.one, 1, 8, [.nilFunc]⟩),
 (293, ⟨.ptr, 1, 8, [.pointer none]⟩),
 (294, ⟨.one, 1, 4, [.int .i32 0]⟩),
 (295, ⟨.one, 1, 4, [.int .i32 0]⟩),
 (296, ⟨.agg [0, 1, 2, 3, 4, 5, 6, 7, 8, 9, 10], 11, 48, [.int .u64 0, .int .u64 0, .int .u32 0, .int .u8 0, .int .u8 0, .int .u8 0, .int .u8 0, .nilFunc, .pointer none, .int .i32 0, .int .i32 0]⟩),
 (297, ⟨.agg [0, 1, 2, 3, 4, 5, 6, 7, 8, 9, 10], 11, 48, [.int .u64 0, .int .u64 0, .int .u32 0, .int .u8 0, .int .u8 0, .int .u8 0, .int .u8 0, .nilFunc, .pointer none, .int .i32 0, .int .i32 0]⟩),
 (298, ⟨.one, 1, 8, [.pointer none]⟩)]
theorem tys : Ty.ok Tryz.prog := Tys.okB_sound (by kernel_rfl)
theorem mixed : Tryz.prog.follows .mixedOrders = true := by kernel_rfl
section
variable {c : Ctx} {s : St} {Q : Exit → St → Prop} {R : St → Prop} {ops : Array Oper} {rest : List Oper} {o : Oper} {t : Nat} {d : D} {n m : Int}
theorem ev (k : WO Tryz.prog c ops rest ⟨(t, d) :: s.fr, s.M⟩ Q) (hg : o.guard = none := by exact rfl) (hd : o.dst = some t := by exact rfl) (ht : t < c.n := by exact lt_of rfl) (he : evF Ty s o.op = some d := by exact rfl) : WO Tryz.prog c ops (o :: rest) s Q :=
 WO_evF tys hg hd ht he k
theorem evQ (k : QL Tryz.prog c ops rest ⟨(t, d) :: s.fr, s.M⟩ R) (hg : o.guard = none := by exact rfl) (hd : o.dst = some t := by exact rfl) (ht : t < c.n := by exact lt_of rfl) (he : evF Ty s o.op = some d := by exact rfl) : QL Tryz.prog c ops (o :: rest) s R :=
 QL_ev tys hg hd ht he k
theorem evI (k : WO Tryz.prog c ops rest ⟨(t, .t (.int n)) :: s.fr, s.M⟩ Q) (hg : o.guard = none := by exact rfl) (hd : o.dst = some t := by exact rfl) (ht : t < c.n := by exact lt_of rfl) (he : evV Ty s o.op = some (.t (.int (IntKind.i64.wrap n))) := by exact rfl)
  (h1 : -9223372036854775808 ≤ n := by omega) (h2 : n ≤ 9223372036854775807 := by omega) : WO Tryz.prog c ops (o :: rest) s Q := WO_int tys hg hd ht he (wrap_id h1 h2) k
theorem evIQ (k : QL Tryz.prog c ops rest ⟨(t, .t (.int n)) :: s.fr, s.M⟩ R) (hg : o.guard = none := by exact rfl) (hd : o.dst = some t := by exact rfl) (ht : t < c.n := by exact lt_of rfl) (he : evV Ty s o.op = some (.t (.int (IntKind.i64.wrap n))) := by exact rfl)
  (h1 : -9223372036854775808 ≤ n := by omega) (h2 : n ≤ 9223372036854775807 := by omega) : QL Tryz.prog c ops (o :: rest) s R := QL_int tys hg hd ht he (wrap_id h1 h2) k
theorem evE (k : WO Tryz.prog c ops rest ⟨(t, .t (.int m)) :: s.fr, s.M⟩ Q) (hg : o.guard = none := by exact rfl) (hd : o.dst = some t := by exact rfl) (ht : t < c.n := by exact lt_of rfl) (he : evF Ty s o.op = some (.t (.int n)) := by exact rfl)
  (h1 : n = m := by first | exact lenM | exact rfl) : WO Tryz.prog c ops (o :: rest) s Q := WO_evE tys hg hd ht he h1 k
theorem evEQ (k : QL Tryz.prog c ops rest ⟨(t, .t (.int m)) :: s.fr, s.M⟩ R) (hg : o.guard = none := by exact rfl) (hd : o.dst = some t := by exact rfl) (ht : t < c.n := by exact lt_of rfl) (he : evF Ty s o.op = some (.t (.int n)) := by exact rfl)
  (h1 : n = m := by first | exact lenM | exact rfl) : QL Tryz.prog c ops (o :: rest) s R := QL_evE tys hg hd ht he h1 k
def evStep (n : Nat) (s : St) (o : Oper) : Option St := match o.guard, o.dst with
  | none, some t => match Nat.blt t n, evF Ty s o.op with
    | true, some d => some ⟨(t, d) :: s.fr, s.M⟩
    | _, _ => none
  | _, _ => none
theorem eZ {s' : St} (h : evStep c.n s o = some s') (k : WO Tryz.prog c ops rest s' Q) : WO Tryz.prog c ops (o :: rest) s Q := by
  unfold evStep at h
  split at h
  · rename_i hg hd
    split at h
    · rename_i ht he
      cases h
      exact WO_evF tys hg hd (Nat.le_of_ble_eq_true ht) he k
    · cases h
  · cases h
def gStep (ops : Array Oper) (n : Nat) (s : St) (o : Oper) : Option Bool := match o.guard, o.dst with
  | some (j, w), some t => match Nat.blt t n, (ops[j]?).bind (·.dst) with
    | true, some a => match Go.Eng.look s.fr a with
      | .t (.v (.bool b)) => some (b == w)
      | .tup [] => some false
      | _ => none
    | _, _ => none
  | _, _ => none
theorem gStep_of {b : Bool} (h : gStep ops c.n s o = some b) : ∃ j w a t, o.guard = some (j, w) ∧ o.dst = some t ∧ t < c.n ∧ (ops[j]?).bind (·.dst) = some a ∧ ((∃ b', Go.Eng.look s.fr a = .t (.bool b') ∧ b = (b' == w)) ∨ (Go.Eng.look s.fr a = .tup [] ∧ b = false)) := by
  unfold gStep at h
  split at h
  · rename_i j w t hg hd
    split at h
    · rename_i a ht ha
      refine ⟨j, w, a, t, hg, hd, Nat.le_of_ble_eq_true ht, ha, ?_⟩
      split at h
      · rename_i b' hl; cases h; exact .inl ⟨b', hl, rfl⟩
      · rename_i hl; cases h; exact .inr ⟨hl, rfl⟩
      · cases h
    · cases h
  · cases h
theorem gY (h : gStep ops c.n s o = some true) (k : WO Tryz.prog c ops ({ o with guard := none } :: rest) s Q) : WO Tryz.prog c ops (o :: rest) s Q := by
  obtain ⟨j, w, a, t, hg, hd, ht, ha, ⟨b', hl, hb⟩ | ⟨_, hb⟩⟩ := gStep_of h
  · have : b' = w := by simpa using hb.symm
    subst this
    exact WO_guardY hg ha hl hd ht k
  · cases hb
def gNx (o : Oper) (s : St) : St := match o.dst with
  | some t => ⟨(t, .tup []) :: s.fr, s.M⟩
  | none => s
theorem gN {s' : St} (h : gStep ops c.n s o = some false) (hs : gNx o s = s') (k : WO Tryz.prog c ops rest s' Q) : WO Tryz.prog c ops (o :: rest) s Q := by
  obtain ⟨j, w, a, t, hg, hd, ht, ha, ⟨b', hl, hb⟩ | ⟨hl, _⟩⟩ := gStep_of h
  · have hb' : b' = !w := by clear hl hg; cases b' <;> cases w <;> first | rfl | cases hb
    unfold gNx at hs
    rw [hd] at hs
    subst hs
    exact WO_guardN hg ha hl hb' hd ht k
  · unfold gNx at hs
    rw [hd] at hs
    subst hs
    exact WO_guardS hg ha hl hd ht k
def gMs (ops : Array Oper) (n : Nat) (s : St) (o : Oper) : Option St := match gStep ops n s o with
  | some false => some (gNx o s)
  | _ => none
theorem gM {s' : St} (h : gMs ops c.n s o = some s') (k : WO Tryz.prog c ops rest s' Q) : WO Tryz.prog c ops (o :: rest) s Q := by
  unfold gMs at h
  split at h
  · rename_i hg; cases h; exact gN hg rfl k
  · cases h
def stStep (s : St) (o : Oper) : Option St := match o.guard, o.dst, o.op with
  | none, none, .store ty x y => match tyOf Ty ty, opd s.fr x, boxD (opd s.fr y) with
    | some ti, .ref id 0 off, some ds => match lookM s.M id with
      | some (.box cells) => match Nat.beq ds.length ti.size, Nat.ble (off + ds.length) cells.length with
        | true, true => some ⟨eat y (opd s.fr y) s.fr, (id, .box (splice cells off ds)) :: s.M⟩
        | _, _ => none
      | _ => none
    | _, _, _ => none
  | _, _, _ => none
theorem sT {s' : St} (h : stStep s o = some s') (k : WO Tryz.prog c ops rest s' Q) : WO Tryz.prog c ops (o :: rest) s Q := by
  unfold stStep at h
  split at h
  · rename_i ty x y hg hd ho
    split at h
    · rename_i ti id off ds h1 hx hy
      split at h
      · rename_i cells hM
        split at h
        · rename_i hl hle
          cases h
          exact WO_store tys hg hd ho h1 hx hM hy (Nat.eq_of_beq_eq_true hl) (Nat.le_of_ble_eq_true hle) k
        · cases h
      · cases h
    · cases h
  · cases h
theorem nZ {l : List Oper} {s' : St} (h : forceS s = some s') (k : WO Tryz.prog c ops l s' Q) : WO Tryz.prog c ops l s Q := WO_norm h k
theorem kZ {l : List Oper} (ks : List Nat) {s' : St} (h : forceS ⟨keepF s.fr ks, s.M⟩ = some s') (k : WO Tryz.prog c ops l s' Q) : WO Tryz.prog c ops l s Q := WO_keep ks h k
theorem nY {x : Code} {s' : St} (h : forceS s = some s') (k : W Tryz.prog c x s' Q) : W Tryz.prog c x s Q := W_norm h k
theorem kY {x : Code} (ks : List Nat) {s' : St} (h : forceS ⟨keepF s.fr ks, s.M⟩ = some s') (k : W Tryz.prog c x s' Q) : W Tryz.prog c x s Q := W_keep ks h k
theorem eR {fn : Func} {ds ds' : List Go.Eng.D} {ys : List (Nat ⊕ Nat)} (hd : ds' = ds) (h : retF Ty s fn.results.toList = some (ds', ys) := by exact rfl) (hn : ys.Nodup := by decide) (hc : D.closed.closedL ds' = true := by exact rfl) : Go.Eng.Ends Ty fn ds .ret s := Go.Eng.Ends_of (.inr rfl) (ret_okF h) hn hc hd
theorem tN {y : Code} (h : W Tryz.prog c y s Q) : thenQ Tryz.prog c y Q .normal s := h
theorem tR {y : Code} (h : Q .ret s) : thenQ Tryz.prog c y Q .ret s := h
theorem tE {y : Code} {id : Nat} (h : Q (.exit id) s) : thenQ Tryz.prog c y Q (.exit id) s := h
theorem bN {id : Nat} (h : Q .normal s) : inBlk id Q .normal s := h
theorem bR {id : Nat} (h : Q .ret s) : inBlk id Q .ret s := h
theorem oN (h : Q .normal s) : WO Tryz.prog c ops [] s Q := WO_nil h
theorem sQ {x y : Code} (h : W Tryz.prog c x s (thenQ Tryz.prog c y Q)) : W Tryz.prog c (.seq x y) s Q := W_seq h
theorem rG {id : Nat} {l : List Oper} (h : WO Tryz.prog c l.toArray l s Q) : W Tryz.prog c (.region id l.toArray false) s Q := W_region h
theorem rT (h : Q .ret s) : W Tryz.prog c .ret s Q := W_ret h
def evRun (n : Nat) : Nat → St → List Oper → Option (St × List Oper)
  | 0, s, l => some (s, l)
  | _ + 1, _, [] => none
  | k + 1, s, o :: l => match evStep n s o with
    | some s' => evRun n k s' l
    | none => none
theorem eK {s' : St} {l' : List Oper} : ∀ (n : Nat) {s : St} {l : List Oper}, evRun c.n n s l = some (s', l') → WO Tryz.prog c ops l' s' Q → WO Tryz.prog c ops l s Q
  | 0, s, l, h, k => by cases h; exact k
  | n + 1, s, [], h, k => by cases h
  | n + 1, s, o :: l, h, k => by
    rw [evRun] at h
    split at h
    · rename_i he; exact eZ he (eK n h k)
    · cases h
theorem lQ {α : Type} {S : α → St} {inv : α → Prop} {μ : α → Nat} {x : α} (x' : α) (h3 : inv x') (h4 : μ x' < μ x) (h1 : Eng.Sub (S x').fr s.fr := by (try dsimp only); repeat (first | exact Sub.nil' | refine Sub.cons' rfl ?_)) (h2 : SubM (S x').M s.M := by (try dsimp only); repeat (first | exact SubM.nil' | refine SubM.cons' rfl ?_)) : loopQ c S inv μ x Q .normal s := loopQ_n x' h1 h2 h3 h4
theorem lK {α : Type} {body : Code} (ks km : List Nat) (fr : α → List (Nat × Go.Eng.D)) (M : α → List (Nat × Blk)) (inv : α → Prop) (μ : α → Nat) (x0 : α) (h3 : inv x0)
 (round : ∀ x, inv x → W Tryz.prog c body ⟨fr x ++ keepF s.fr ks, M x ++ keepM s.M km⟩ (loopQ c (fun x => ⟨fr x ++ keepF s.fr ks, M x ++ keepM s.M km⟩) inv μ x Q))
 (h1 : Eng.Sub (fr x0 ++ keepF s.fr ks) s.fr := by repeat (first | exact Sub.nil' | refine Sub.cons' rfl ?_)) (h2 : SubM (M x0 ++ keepM s.M km) s.M := by repeat (first | exact SubM.nil' | refine SubM.cons' rfl ?_)) : W Tryz.prog c (.loop body) s Q := W_loopK ks km fr M inv μ x0 h1 h2 h3 round
theorem Z {α : Type _} {a : α} : a = a := rfl
end
end Go.Proofs.YtimpganophnehaaGreat
