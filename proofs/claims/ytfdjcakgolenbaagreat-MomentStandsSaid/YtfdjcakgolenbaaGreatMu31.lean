/-
  The types of the program, as the abstract run asks for them.
-/
import Derived.Test.YtfdjcakgolenbaaGreatMu30
set_option linter.unusedVariables false
set_option linter.unusedSimpArgs false
namespace Go.Proofs.YtfdjcakgolenbaaGreat
def tyTab : Tab := [
 (3, ⟨1, .int .i64, [.lit .i64 0], []⟩), (4, ⟨1, .bool, [.blit false], []⟩), (5, ⟨1, .int .u8, [.lit .u8 0], []⟩), (1, ⟨1, .other, [.un], []⟩), (2, ⟨1, .int .i64, [.lit .i64 0], []⟩), (7, ⟨4, .struct [(0, 1, false), (1, 1, false), (2, 1, false), (3, 1, false)], [.lit .i64 0, .lit .i64 0, .blit false, .lit .u8 0], []⟩), (9, ⟨1, .str, [.str fun _ => noText], []⟩), (12, ⟨1, .int .u64, [.lit .u64 0], []⟩), (13, ⟨2, .struct [(0, 1, false), (1, 1, false)], [.str fun _ => noText, .lit .u64 0], []⟩), (15, ⟨1, .other, [.un], []⟩), (16, ⟨1, .other, [.un], []⟩), (17, ⟨1, .other, [.un], []⟩), (18, ⟨1, .struct [(0, 1, false)], [.un], []⟩), (21, ⟨1, .int .i32, [.lit .i32 0], []⟩), (22, ⟨1, .slice 47 12 112, [.nil], []⟩), (23, ⟨1, .slice 134 2 32, [.nil], []⟩), (24, ⟨4, .struct [(0, 1, false), (1, 1, false), (2, 1, false), (3, 1, false)], [.lit .i64 0, .lit .i64 0, .lit .i64 0, .lit .i64 0], []⟩), (25, ⟨4, .struct [(0, 1, false), (1, 1, false), (2, 1, false), (3, 1, false)], [.lit .i64 0, .lit .i64 0, .lit .i64 0, .lit .i64 0], [.int .i64, .int .i64, .int .i64, .int .i64]⟩), (26, ⟨1, .slice 185 5 40, [.nil], []⟩), (27, ⟨1, .slice 188 5 40, [.nil], []⟩), (28, ⟨1, .slice 191 6 64, [.nil], []⟩), (29, ⟨4, .struct [(0, 1, false), (1, 1, false), (2, 1, false), (3, 1, false)], [.lit .i64 0, .lit .i64 0, .lit .i64 0, .lit .i64 0], []⟩), (30, ⟨4, .struct [(0, 1, false), (1, 1, false), (2, 1, false), (3, 1, false)], [.lit .i64 0, .lit .i64 0, .lit .i64 0, .lit .i64 0], [.int .i64, .int .i64, .int .i64, .int .i64]⟩), (31, ⟨13, .struct [(0, 1, false), (1, 1, false), (2, 4, true), (6, 1, false), (7, 1, false), (8, 1, false), (9, 4, true)], [.nil, .nil, .lit .i64 0, .lit .i64 0, .lit .i64 0, .lit .i64 0, .nil, .nil, .nil, .lit .i64 0, .lit .i64 0, .lit .i64 0, .lit .i64 0], []⟩), (32, ⟨13, .struct [(0, 1, false), (1, 1, false), (2, 4, true), (6, 1, false), (7, 1, false), (8, 1, false), (9, 4, true)], [.nil, .nil, .lit .i64 0, .lit .i64 0, .lit .i64 0, .lit .i64 0, .nil, .nil, .nil, .lit .i64 0, .lit .i64 0, .lit .i64 0, .lit .i64 0], []⟩), (33, ⟨1, .slice 44 9 64, [.nil], []⟩), (34, ⟨1, .slice 42 4 32, [.nil], []⟩), (35, ⟨1, .other, [.un], []⟩), (36, ⟨1, .other, [.un], []⟩), (38, ⟨1, .other, [.un], []⟩), (39, ⟨3, .struct [(0, 1, false), (1, 1, false), (2, 1, false)], [.lit .i64 0, .lit .i64 0, .lit .u8 0], []⟩), (40, ⟨3, .struct [(0, 1, false), (1, 1, false), (2, 1, false)], [.lit .i64 0, .lit .i64 0, .lit .u8 0], [.int .i64, .int .i64, .int .u8]⟩), (41, ⟨4, .struct [(0, 1, false), (1, 3, true)], [.lit .i64 0, .lit .i64 0, .lit .i64 0, .lit .u8 0], []⟩), (42, ⟨4, .struct [(0, 1, false), (1, 3, true)], [.lit .i64 0, .lit .i64 0, .lit .i64 0, .lit .u8 0], [.int .i64, .int .i64, .int .i64, .int .u8]⟩), (43, ⟨9, .struct [(0, 1, false), (1, 1, false), (2, 1, false), (3, 1, false), (4, 1, false), (5, 1, false), (6, 1, false), (7, 1, false), (8, 1, false)], [.lit .i64 0, .str fun _ => noText, .lit .u8 0, .blit false, .lit .i64 0, .lit .i64 0, .lit .i64 0, .lit .u8 0, .blit false], []⟩), (44, ⟨9, .struct [(0, 1, false), (1, 1, false), (2, 1, false), (3, 1, false), (4, 1, false), (5, 1, false), (6, 1, false), (7, 1, false), (8, 1, false)], [.lit .i64 0, .str fun _ => noText, .lit .u8 0, .blit false, .lit .i64 0, .lit .i64 0, .lit .i64 0, .lit .u8 0, .blit false], [.int .i64, .str, .int .u8, .bool, .int .i64, .int .i64, .int .i64, .int .u8, .bool]⟩), (45, ⟨1, .slice 3 1 8, [.nil], []⟩), (46, ⟨12, .struct [(0, 1, false), (1, 1, false), (2, 1, false), (3, 1, false), (4, 1, false), (5, 1, false), (6, 1, false), (7, 1, false), (8, 1, false), (9, 1, false), (10, 1, false), (11, 1, false)], [.lit .i64 0, .lit .i64 0, .blit false, .lit .i64 0, .lit .i64 0, .lit .i64 0, .lit .i64 0, .lit .i64 0, .nil, .lit .i64 0, .lit .i64 0, .lit .i64 0], []⟩), (47, ⟨12, .struct [(0, 1, false), (1, 1, false), (2, 1, false), (3, 1, false), (4, 1, false), (5, 1, false), (6, 1, false), (7, 1, false), (8, 1, false), (9, 1, false), (10, 1, false), (11, 1, false)], [.lit .i64 0, .lit .i64 0, .blit false, .lit .i64 0, .lit .i64 0, .lit .i64 0, .lit .i64 0, .lit .i64 0, .nil, .lit .i64 0, .lit .i64 0, .lit .i64 0], []⟩), (48, ⟨4, .struct [(0, 1, false), (1, 1, false), (2, 1, false), (3, 1, false)], [.lit .i64 0, .lit .i64 0, .lit .i64 0, .lit .i64 0], [.int .i64, .int .i64, .int .i64, .int .i64]⟩), (49, ⟨1, .other, [.un], []⟩), (50, ⟨1, .slice 48 4 32, [.nil], []⟩), (51, ⟨1, .slice 157 4 4, [.nil], []⟩), (52, ⟨1, .int .u32, [.lit .u32 0], []⟩), (53, ⟨1, .slice 161 4 4, [.nil], []⟩), (54, ⟨1, .other, [.un], []⟩), (55, ⟨3, .array 3 5 1 false, [.lit .u8 0, .lit .u8 0, .lit .u8 0], [.int .u8, .int .u8, .int .u8]⟩), (56, ⟨1, .int .i64, [.lit .i64 0], []⟩), (58, ⟨1, .other, [.un], []⟩), (59, ⟨1, .other, [.un], []⟩), (60, ⟨1, .other, [.un], []⟩), (62, ⟨1, .other, [.un], []⟩), (63, ⟨1, .other, [.un], []⟩), (65, ⟨1, .other, [.un], []⟩), (66, ⟨1, .int .u16, [.lit .u16 0], []⟩), (67, ⟨24, .array 6 48 4 true, [.lit .i64 0, .lit .i64 0, .lit .i64 0, .lit .i64 0, .lit .i64 0, .lit .i64 0, .lit .i64 0, .lit .i64 0, .lit .i64 0, .lit .i64 0, .lit .i64 0, .lit .i64 0, .lit .i64 0, .lit .i64 0, .lit .i64 0, .lit .i64 0, .lit .i64 0, .lit .i64 0, .lit .i64 0, .lit .i64 0, .lit .i64 0, .lit .i64 0, .lit .i64 0, .lit .i64 0], [.int .i64, .int .i64, .int .i64, .int .i64, .int .i64, .int .i64, .int .i64, .int .i64, .int .i64, .int .i64, .int .i64, .int .i64, .int .i64, .int .i64, .int .i64, .int .i64, .int .i64, .int .i64, .int .i64, .int .i64, .int .i64, .int .i64, .int .i64, .int .i64]⟩), (68, ⟨1, .other, [.un], []⟩), (69, ⟨8, .array 8 52 1 false, [.lit .u32 0, .lit .u32 0, .lit .u32 0, .lit .u32 0, .lit .u32 0, .lit .u32 0, .lit .u32 0, .lit .u32 0], [.int .u32, .int .u32, .int .u32, .int .u32, .int .u32, .int .u32, .int .u32, .int .u32]⟩), (70, ⟨17, .struct [(0, 1, false), (1, 8, true), (9, 8, true)], [.blit false, .lit .u32 0, .lit .u32 0, .lit .u32 0, .lit .u32 0, .lit .u32 0, .lit .u32 0, .lit .u32 0, .lit .u32 0, .lit .u32 0, .lit .u32 0, .lit .u32 0, .lit .u32 0, .lit .u32 0, .lit .u32 0, .lit .u32 0, .lit .u32 0], []⟩), (71, ⟨17, .struct [(0, 1, false), (1, 8, true), (9, 8, true)], [.blit false, .lit .u32 0, .lit .u32 0, .lit .u32 0, .lit .u32 0, .lit .u32 0, .lit .u32 0, .lit .u32 0, .lit .u32 0, .lit .u32 0, .lit .u32 0, .lit .u32 0, .lit .u32 0, .lit .u32 0, .lit .u32 0, .lit .u32 0, .lit .u32 0], [.bool, .int .u32, .int .u32, .int .u32, .int .u32, .int .u32, .int .u32, .int .u32, .int .u32, .int .u32, .int .u32, .int .u32, .int .u32, .int .u32, .int .u32, .int .u32, .int .u32]⟩), (72, ⟨51, .struct [(0, 17, true), (17, 17, true), (34, 17, true)], [.blit false, .lit .u32 0, .lit .u32 0, .lit .u32 0, .lit .u32 0, .lit .u32 0, .lit .u32 0, .lit .u32 0, .lit .u32 0, .lit .u32 0, .lit .u32 0, .lit .u32 0, .lit .u32 0, .lit .u32 0, .lit .u32 0, .lit .u32 0, .lit .u32 0, .blit false, .lit .u32 0, .lit .u32 0, .lit .u32 0, .lit .u32 0, .lit .u32 0, .lit .u32 0, .lit .u32 0, .lit .u32 0, .lit .u32 0, .lit .u32 0, .lit .u32 0, .lit .u32 0, .lit .u32 0, .lit .u32 0, .lit .u32 0, .lit .u32 0, .blit false, .lit .u32 0, .lit .u32 0, .lit .u32 0, .lit .u32 0, .lit .u32 0, .lit .u32 0, .lit .u32 0, .lit .u32 0, .lit .u32 0, .lit .u32 0, .lit .u32 0, .lit .u32 0, .lit .u32 0, .lit .u32 0, .lit .u32 0, .lit .u32 0], []⟩), (73, ⟨51, .struct [(0, 17, true), (17, 17, true), (34, 17, true)], [.blit false, .lit .u32 0, .lit .u32 0, .lit .u32 0, .lit .u32 0, .lit .u32 0, .lit .u32 0, .lit .u32 0, .lit .u32 0, .lit .u32 0, .lit .u32 0, .lit .u32 0, .lit .u32 0, .lit .u32 0, .lit .u32 0, .lit .u32 0, .lit .u32 0, .blit false, .lit .u32 0, .lit .u32 0, .lit .u32 0, .lit .u32 0, .lit .u32 0, .lit .u32 0, .lit .u32 0, .lit .u32 0, .lit .u32 0, .lit .u32 0, .lit .u32 0, .lit .u32 0, .lit .u32 0, .lit .u32 0, .lit .u32 0, .lit .u32 0, .blit false, .lit .u32 0, .lit .u32 0, .lit .u32 0, .lit .u32 0, .lit .u32 0, .lit .u32 0, .lit .u32 0, .lit .u32 0, .lit .u32 0, .lit .u32 0, .lit .u32 0, .lit .u32 0, .lit .u32 0, .lit .u32 0, .lit .u32 0, .lit .u32 0], [.bool, .int .u32, .int .u32, .int .u32, .int .u32, .int .u32, .int .u32, .int .u32, .int .u32, .int .u32, .int .u32, .int .u32, .int .u32, .int .u32, .int .u32, .int .u32, .int .u32, .bool, .int .u32, .int .u32, .int .u32, .int .u32, .int .u32, .int .u32, .int .u32, .int .u32, .int .u32, .int .u32, .int .u32, .int .u32, .int .u32, .int .u32, .int .u32, .int .u32, .bool, .int .u32, .int .u32, .int .u32, .int .u32, .int .u32, .int .u32, .int .u32, .int .u32, .int .u32, .int .u32, .int .u32, .int .u32, .int .u32, .int .u32, .int .u32, .int .u32]⟩), (75, ⟨1, .other, [.un], []⟩), (76, ⟨1, .other, [.un], []⟩), (77, ⟨1, .other, [.un], []⟩), (78, ⟨1, .other, [.un], []⟩), (79, ⟨3, .array 3 3 1 false, [.lit .i64 0, .lit .i64 0, .lit .i64 0], [.int .i64, .int .i64, .int .i64]⟩), (80, ⟨51, .array 3 71 17 true, [.blit false, .lit .u32 0, .lit .u32 0, .lit .u32 0, .lit .u32 0, .lit .u32 0, .lit .u32 0, .lit .u32 0, .lit .u32 0, .lit .u32 0, .lit .u32 0, .lit .u32 0, .lit .u32 0, .lit .u32 0, .lit .u32 0, .lit .u32 0, .lit .u32 0, .blit false, .lit .u32 0, .lit .u32 0, .lit .u32 0, .lit .u32 0, .lit .u32 0, .lit .u32 0, .lit .u32 0, .lit .u32 0, .lit .u32 0, .lit .u32 0, .lit .u32 0, .lit .u32 0, .lit .u32 0, .lit .u32 0, .lit .u32 0, .lit .u32 0, .blit false, .lit .u32 0, .lit .u32 0, .lit .u32 0, .lit .u32 0, .lit .u32 0, .lit .u32 0, .lit .u32 0, .lit .u32 0, .lit .u32 0, .lit .u32 0, .lit .u32 0, .lit .u32 0, .lit .u32 0, .lit .u32 0, .lit .u32 0, .lit .u32 0], [.bool, .int .u32, .int .u32, .int .u32, .int .u32, .int .u32, .int .u32, .int .u32, .int .u32, .int .u32, .int .u32, .int .u32, .int .u32, .int .u32, .int .u32, .int .u32, .int .u32, .bool, .int .u32, .int .u32, .int .u32, .int .u32, .int .u32, .int .u32, .int .u32, .int .u32, .int .u32, .int .u32, .int .u32, .int .u32, .int .u32, .int .u32, .int .u32, .int .u32, .bool, .int .u32, .int .u32, .int .u32, .int .u32, .int .u32, .int .u32, .int .u32, .int .u32, .int .u32, .int .u32, .int .u32, .int .u32, .int .u32, .int .u32, .int .u32, .int .u32]⟩), (82, ⟨1, .other, [.un], []⟩), (83, ⟨1, .other, [.un], []⟩), (85, ⟨1, .other, [.un], []⟩), (86, ⟨1, .other, [.un], []⟩), (87, ⟨1, .other, [.un], []⟩), (88, ⟨1, .other, [.un], []⟩), (89, ⟨1, .other, [.un], []⟩), (90, ⟨1, .other, [.un], []⟩), (92, ⟨1, .other, [.un], []⟩), (93, ⟨4, .struct [(0, 1, false), (1, 1, false), (2, 1, false), (3, 1, false)], [.lit .i64 0, .lit .i64 0, .lit .i64 0, .lit .i64 0], [.int .i64, .int .i64, .int .i64, .int .i64]⟩), (95, ⟨1, .other, [.un], []⟩), (96, ⟨1, .other, [.un], []⟩), (97, ⟨1, .other, [.un], []⟩), (98, ⟨1, .other, [.un], []⟩), (99, ⟨1, .other, [.un], []⟩), (100, ⟨1, .other, [.un], []⟩), (101, ⟨1, .other, [.un], []⟩), (102, ⟨1, .slice 93 4 32, [.nil], []⟩), (103, ⟨1, .other, [.un], []⟩), (104, ⟨1, .other, [.un], []⟩), (105, ⟨1, .other, [.un], []⟩), (107, ⟨1, .other, [.un], []⟩), (108, ⟨1, .slice 112 12 88, [.nil], []⟩), (110, ⟨1, .other, [.un], []⟩), (111, ⟨12, .struct [(0, 9, true), (9, 1, false), (10, 1, false), (11, 1, false)], [.lit .i64 0, .str fun _ => noText, .lit .u8 0, .blit false, .lit .i64 0, .lit .i64 0, .lit .i64 0, .lit .u8 0, .blit false, .lit .i64 0, .lit .i64 0, .lit .i64 0], []⟩), (112, ⟨12, .struct [(0, 9, true), (9, 1, false), (10, 1, false), (11, 1, false)], [.lit .i64 0, .str fun _ => noText, .lit .u8 0, .blit false, .lit .i64 0, .lit .i64 0, .lit .i64 0, .lit .u8 0, .blit false, .lit .i64 0, .lit .i64 0, .lit .i64 0], [.int .i64, .str, .int .u8, .bool, .int .i64, .int .i64, .int .i64, .int .u8, .bool, .int .i64, .int .i64, .int .i64]⟩), (113, ⟨1, .slice 56 1 8, [.nil], []⟩), (114, ⟨1, .other, [.un], []⟩), (115, ⟨1, .other, [.un], []⟩), (116, ⟨1, .other, [.un], []⟩), (117, ⟨1, .other, [.un], []⟩), (118, ⟨1, .other, [.un], []⟩), (119, ⟨1, .other, [.un], []⟩), (120, ⟨1, .other, [.un], []⟩), (121, ⟨1, .other, [.un], []⟩), (122, ⟨1, .other, [.un], []⟩), (123, ⟨1, .slice 52 1 4, [.nil], []⟩), (124, ⟨1, .slice 52 1 4, [.nil], []⟩), (126, ⟨1, .other, [.un], []⟩), (127, ⟨1, .other, [.un], []⟩), (128, ⟨1, .other, [.un], []⟩), (129, ⟨1, .other, [.un], []⟩), (130, ⟨1, .other, [.un], []⟩), (131, ⟨1, .int .u64, [.lit .u64 0], []⟩), (132, ⟨1, .other, [.un], []⟩), (133, ⟨2, .struct [(0, 1, false), (1, 1, false)], [.lit .i64 0, .nil], []⟩), (134, ⟨2, .struct [(0, 1, false), (1, 1, false)], [.lit .i64 0, .nil], []⟩), (135, ⟨1, .other, [.un], []⟩), (136, ⟨1, .other, [.un], []⟩), (137, ⟨1, .other, [.un], []⟩), (138, ⟨1, .other, [.un], []⟩), (139, ⟨1, .other, [.un], []⟩), (140, ⟨1, .other, [.un], []⟩), (141, ⟨1, .other, [.un], []⟩), (143, ⟨1, .other, [.un], []⟩), (144, ⟨1, .other, [.un], []⟩), (145, ⟨1, .other, [.un], []⟩), (146, ⟨1, .other, [.un], []⟩), (147, ⟨1, .other, [.un], []⟩), (148, ⟨1, .other, [.un], []⟩), (149, ⟨1, .other, [.un], []⟩), (150, ⟨1, .other, [.un], []⟩), (151, ⟨17, .struct [(0, 1, false), (1, 8, true), (9, 8, true)], [.blit false, .lit .u32 0, .lit .u32 0, .lit .u32 0, .lit .u32 0, .lit .u32 0, .lit .u32 0, .lit .u32 0, .lit .u32 0, .lit .u32 0, .lit .u32 0, .lit .u32 0, .lit .u32 0, .lit .u32 0, .lit .u32 0, .lit .u32 0, .lit .u32 0], [.bool, .int .u32, .int .u32, .int .u32, .int .u32, .int .u32, .int .u32, .int .u32, .int .u32, .int .u32, .int .u32, .int .u32, .int .u32, .int .u32, .int .u32, .int .u32, .int .u32]⟩), (152, ⟨51, .struct [(0, 17, true), (17, 17, true), (34, 17, true)], [.blit false, .lit .u32 0, .lit .u32 0, .lit .u32 0, .lit .u32 0, .lit .u32 0, .lit .u32 0, .lit .u32 0, .lit .u32 0, .lit .u32 0, .lit .u32 0, .lit .u32 0, .lit .u32 0, .lit .u32 0, .lit .u32 0, .lit .u32 0, .lit .u32 0, .blit false, .lit .u32 0, .lit .u32 0, .lit .u32 0, .lit .u32 0, .lit .u32 0, .lit .u32 0, .lit .u32 0, .lit .u32 0, .lit .u32 0, .lit .u32 0, .lit .u32 0, .lit .u32 0, .lit .u32 0, .lit .u32 0, .lit .u32 0, .lit .u32 0, .blit false, .lit .u32 0, .lit .u32 0, .lit .u32 0, .lit .u32 0, .lit .u32 0, .lit .u32 0, .lit .u32 0, .lit .u32 0, .lit .u32 0, .lit .u32 0, .lit .u32 0, .lit .u32 0, .lit .u32 0, .lit .u32 0, .lit .u32 0, .lit .u32 0], []⟩), (153, ⟨51, .struct [(0, 17, true), (17, 17, true), (34, 17, true)], [.blit false, .lit .u32 0, .lit .u32 0, .lit .u32 0, .lit .u32 0, .lit .u32 0, .lit .u32 0, .lit .u32 0, .lit .u32 0, .lit .u32 0, .lit .u32 0, .lit .u32 0, .lit .u32 0, .lit .u32 0, .lit .u32 0, .lit .u32 0, .lit .u32 0, .blit false, .lit .u32 0, .lit .u32 0, .lit .u32 0, .lit .u32 0, .lit .u32 0, .lit .u32 0, .lit .u32 0, .lit .u32 0, .lit .u32 0, .lit .u32 0, .lit .u32 0, .lit .u32 0, .lit .u32 0, .lit .u32 0, .lit .u32 0, .lit .u32 0, .blit false, .lit .u32 0, .lit .u32 0, .lit .u32 0, .lit .u32 0, .lit .u32 0, .lit .u32 0, .lit .u32 0, .lit .u32 0, .lit .u32 0, .lit .u32 0, .lit .u32 0, .lit .u32 0, .lit .u32 0, .lit .u32 0, .lit .u32 0, .lit .u32 0], [.bool, .int .u32, .int .u32, .int .u32, .int .u32, .int .u32, .int .u32, .int .u32, .int .u32, .int .u32, .int .u32, .int .u32, .int .u32, .int .u32, .int .u32, .int .u32, .int .u32, .bool, .int .u32, .int .u32, .int .u32, .int .u32, .int .u32, .int .u32, .int .u32, .int .u32, .int .u32, .int .u32, .int .u32, .int .u32, .int .u32, .int .u32, .int .u32, .int .u32, .bool, .int .u32, .int .u32, .int .u32, .int .u32, .int .u32, .int .u32, .int .u32, .int .u32, .int .u32, .int .u32, .int .u32, .int .u32, .int .u32, .int .u32, .int .u32, .int .u32]⟩), (155, ⟨1, .other, [.un], []⟩), (156, ⟨4, .struct [(0, 1, false), (1, 1, false), (2, 1, false), (3, 1, false)], [.lit .u8 0, .lit .u8 0, .lit .u8 0, .blit false], []⟩), (157, ⟨4, .struct [(0, 1, false), (1, 1, false), (2, 1, false), (3, 1, false)], [.lit .u8 0, .lit .u8 0, .lit .u8 0, .blit false], [.int .u8, .int .u8, .int .u8, .bool]⟩), (159, ⟨1, .other, [.un], []⟩), (160, ⟨4, .struct [(0, 1, false), (1, 1, false), (2, 1, false), (3, 1, false)], [.lit .u8 0, .lit .u8 0, .blit false, .blit false], []⟩), (161, ⟨4, .struct [(0, 1, false), (1, 1, false), (2, 1, false), (3, 1, false)], [.lit .u8 0, .lit .u8 0, .blit false, .blit false], [.int .u8, .int .u8, .bool, .bool]⟩), (162, ⟨1, .slice 40 3 24, [.nil], []⟩), (163, ⟨1, .other, [.un], []⟩), (164, ⟨1, .other, [.un], []⟩), (165, ⟨1, .other, [.un], []⟩), (166, ⟨1, .other, [.un], []⟩), (167, ⟨1, .other, [.un], []⟩), (168, ⟨1, .map 170 3 (.arr 2 (.int .i64)) .int false, [.un], []⟩), (169, ⟨1, .slice 5 1 1, [.nil], []⟩), (170, ⟨2, .array 2 3 1 false, [.lit .i64 0, .lit .i64 0], [.int .i64, .int .i64]⟩), (171, ⟨1, .other, [.un], []⟩), (172, ⟨1, .other, [.un], []⟩), (173, ⟨1, .other, [.un], []⟩), (174, ⟨1, .other, [.un], []⟩), (175, ⟨1, .other, [.un], []⟩), (176, ⟨1, .int .u64, [.lit .u64 0], []⟩), (177, ⟨1, .other, [.un], []⟩), (178, ⟨1, .other, [.un], []⟩), (179, ⟨1, .other, [.un], []⟩), (180, ⟨1, .other, [.un], []⟩), (181, ⟨1, .other, [.un], []⟩), (182, ⟨1, .other, [.un], []⟩), (183, ⟨1, .other, [.un], []⟩), (184, ⟨5, .struct [(0, 1, false), (1, 1, false), (2, 1, false), (3, 1, false), (4, 1, false)], [.lit .i64 0, .lit .i64 0, .lit .i64 0, .lit .i64 0, .lit .i64 0], []⟩), (185, ⟨5, .struct [(0, 1, false), (1, 1, false), (2, 1, false), (3, 1, false), (4, 1, false)], [.lit .i64 0, .lit .i64 0, .lit .i64 0, .lit .i64 0, .lit .i64 0], [.int .i64, .int .i64, .int .i64, .int .i64, .int .i64]⟩), (186, ⟨1, .other, [.un], []⟩), (187, ⟨5, .struct [(0, 1, false), (1, 1, false), (2, 1, false), (3, 1, false), (4, 1, false)], [.lit .i64 0, .lit .i64 0, .lit .i64 0, .lit .i64 0, .lit .i64 0], []⟩), (188, ⟨5, .struct [(0, 1, false), (1, 1, false), (2, 1, false), (3, 1, false), (4, 1, false)], [.lit .i64 0, .lit .i64 0, .lit .i64 0, .lit .i64 0, .lit .i64 0], [.int .i64, .int .i64, .int .i64, .int .i64, .int .i64]⟩), (189, ⟨1, .other, [.un], []⟩), (190, ⟨6, .struct [(0, 1, false), (1, 1, false), (2, 1, false), (3, 1, false), (4, 1, false), (5, 1, false)], [.lit .i64 0, .lit .i64 0, .lit .i64 0, .lit .i64 0, .lit .i64 0, .nil], []⟩), (191, ⟨6, .struct [(0, 1, false), (1, 1, false), (2, 1, false), (3, 1, false), (4, 1, false), (5, 1, false)], [.lit .i64 0, .lit .i64 0, .lit .i64 0, .lit .i64 0, .lit .i64 0, .nil], []⟩), (192, ⟨1, .other, [.un], []⟩), (193, ⟨1, .other, [.un], []⟩), (195, ⟨1, .other, [.un], []⟩), (196, ⟨1, .other, [.un], []⟩), (197, ⟨1, .other, [.un], []⟩), (198, ⟨1, .other, [.un], []⟩), (200, ⟨1, .other, [.un], []⟩), (201, ⟨1, .other, [.un], []⟩), (202, ⟨1, .other, [.un], []⟩), (203, ⟨1, .other, [.un], []⟩), (204, ⟨1, .other, [.un], []⟩), (205, ⟨1, .other, [.un], []⟩), (206, ⟨1, .other, [.un], []⟩), (207, ⟨1, .other, [.un], []⟩), (208, ⟨1, .other, [.un], []⟩), (209, ⟨1, .other, [.un], []⟩), (210, ⟨1, .other, [.un], []⟩), (211, ⟨1, .map 9 3 (.one .str) .int false, [.un], []⟩), (212, ⟨1, .other, [.un], []⟩), (213, ⟨1, .other, [.un], []⟩), (214, ⟨1, .other, [.un], []⟩), (215, ⟨1, .other, [.un], []⟩), (216, ⟨1, .other, [.un], []⟩), (217, ⟨1, .other, [.un], []⟩), (218, ⟨1, .other, [.un], []⟩), (219, ⟨1, .other, [.un], []⟩), (220, ⟨1, .other, [.un], []⟩), (221, ⟨1, .other, [.un], []⟩), (222, ⟨1, .other, [.un], []⟩), (223, ⟨1, .other, [.un], []⟩), (224, ⟨1, .other, [.un], []⟩), (225, ⟨1, .map 79 3 (.arr 3 (.int .i64)) .int false, [.un], []⟩), (226, ⟨1, .other, [.un], []⟩), (227, ⟨1, .other, [.un], []⟩), (228, ⟨1, .other, [.un], []⟩), (229, ⟨1, .other, [.un], []⟩), (230, ⟨1, .other, [.un], []⟩), (231, ⟨1, .other, [.un], []⟩), (232, ⟨1, .other, [.un], []⟩), (233, ⟨1, .slice 36 1 8, [.nil], []⟩), (234, ⟨1, .other, [.un], []⟩), (235, ⟨1, .other, [.un], []⟩), (236, ⟨1, .other, [.un], []⟩), (237, ⟨1, .other, [.un], []⟩), (238, ⟨1, .other, [.un], []⟩), (239, ⟨1, .other, [.un], []⟩), (240, ⟨1, .other, [.un], []⟩), (242, ⟨1, .other, [.un], []⟩), (244, ⟨1, .other, [.un], []⟩), (245, ⟨1, .other, [.un], []⟩), (246, ⟨1, .slice 248 3 24, [.nil], []⟩), (247, ⟨3, .struct [(0, 1, false), (1, 1, false), (2, 1, false)], [.lit .i64 0, .lit .i64 0, .lit .i64 0], []⟩), (248, ⟨3, .struct [(0, 1, false), (1, 1, false), (2, 1, false)], [.lit .i64 0, .lit .i64 0, .lit .i64 0], [.int .i64, .int .i64, .int .i64]⟩), (249, ⟨1, .other, [.un], []⟩), (250, ⟨1, .other, [.un], []⟩), (251, ⟨1, .other, [.un], []⟩), (252, ⟨1, .other, [.un], []⟩), (253, ⟨1, .other, [.un], []⟩), (254, ⟨1, .other, [.un], []⟩), (255, ⟨1, .other, [.un], []⟩), (256, ⟨11, .array 11 228 1 false, [.un, .un, .un, .un, .un, .un, .un, .un, .un, .un, .un], []⟩), (257, ⟨1, .other, [.un], []⟩), (258, ⟨1, .other, [.un], []⟩), (259, ⟨1, .other, [.un], []⟩), (260, ⟨4, .struct [(0, 1, false), (1, 1, false), (2, 1, false), (3, 1, false)], [.un, .un, .un, .str fun _ => noText], []⟩), (262, ⟨0, .array 0 16 1 false, [], []⟩), (263, ⟨0, .struct [(0, 0, true)], [], []⟩), (265, ⟨1, .other, [.un], []⟩), (268, ⟨1, .other, [.un], []⟩), (269, ⟨1, .other, [.un], []⟩), (272, ⟨11, .struct [(0, 1, false), (1, 1, false), (2, 1, false), (3, 1, false), (4, 1, false), (5, 1, false), (6, 1, false), (7, 1, false), (8, 1, false), (9, 1, false), (10, 1, false)], [.lit .u64 0, .lit .u64 0, .lit .u32 0, .lit .u8 0, .lit .u8 0, .lit .u8 0, .lit .u8 0, .un, .un, .lit .i32 0, .lit .i32 0], []⟩)]
set_option maxRecDepth 100000 in
theorem tyTab_all : tyTab.all (fun p => tyB Tryz.prog p.1 p.2) = true := by kernel_rfl
theorem alook_mem {α : Type} : ∀ {l : List (Nat × α)} {k : Nat} {x : α}, alook l k = some x → (k, x) ∈ l
 | (j, y) :: l, k, x, h => by
  rw [alook_cons] at h
  split at h
  · rename_i hk
    subst hk
    cases h
    exact .head _
  · exact .tail _ (alook_mem h)
theorem tyOk_of {P : Program} {tb : Tab} (h : tb.all (fun p => tyB P p.1 p.2) = true) : TyOk P tb := fun _ _ hl => List.all_eq_true.1 h _ (alook_mem hl)
theorem ty_ok : TyOk Tryz.prog tyTab := tyOk_of tyTab_all
def tcTab : List (Nat × Tc) := [(3, .int), (5, .u8), (40, .slot), (42, .stowed), (44, .box), (47, .col), (48, .ld), (52, .u32), (56, .int), (93, .ld), (112, .mid), (134, .cov), (157, .plc), (161, .drp), (185, .hrow), (188, .frm), (191, .tnk), (248, .spn)]
open Go.RowKit
def AllOk : List Con → Prop
 | [] => True
 | c :: cs => ConOk Tryz.prog c ∧ AllOk cs
theorem AllOk.mem : ∀ {cs : List Con}, AllOk cs → ∀ c ∈ cs, ConOk Tryz.prog c
 | [], _, c, hc => by cases hc
 | d :: cs, h, c, hc => by
  rcases List.mem_cons.1 hc with rfl | hc
  · exact h.1
  · exact AllOk.mem h.2 c hc
def FonsOk : List Fon → Prop
 | [] => True
 | c :: cs => FonOk Tryz.prog c ∧ FonsOk cs
theorem FonsOk.mem : ∀ {cs : List Fon}, FonsOk cs → ∀ c ∈ cs, FonOk Tryz.prog c
 | [], _, c, hc => by cases hc
 | d :: cs, h, c, hc => by
  rcases List.mem_cons.1 hc with rfl | hc
  · exact h.1
  · exact FonsOk.mem h.2 c hc
def cxf (cs : List Con) (fs : List Fon) (fz : List (Nat × List Nat)) (fx : Bool) (nb : Nat := 0) : Cx := { ty := tyTab, cs := cs, tc := tcTab, fs := fs, fz := fz, fx := fx, nb := nb }
def cxz (cs : List Con) (fs : List Fon) (fz : List (Nat × List Nat)) : Cx := cxf cs fs fz false
def cx (cs : List Con) (fs : List Fon) : Cx := cxz cs fs []
def cxk (cs : List Con) (fs : List Fon) (fz kp : List (Nat × List Nat)) (sc : List (Nat × Sch)) (ul : List Nat) : Cx := { ty := tyTab, cs := cs, tc := tcTab, fs := fs, fz := fz, kp := kp, sc := sc, ul := ul }
structure Opt where
 fz : List (Nat × List Nat) := []
 kp : List (Nat × List Nat) := []
 sc : List (Nat × Sch) := []
 ul : List Nat := []
 jn : List (Nat × List Nat) := []
 tc : List (Nat × Tc) := []
 lt : List (Nat × Lat) := []
def cxo (o : Opt) (cs : List Con) (fs : List Fon) (fx : Bool) (nb : Nat := 0) : Cx := ⟨tyTab, cs, o.tc ++ tcTab, fs, o.fz, fx, o.kp, o.sc, o.ul, o.jn, o.lt, nb⟩
theorem fnOkO (o : Opt) {c : Con} {fn : Func} (cs : List Con) (hcs : AllOk cs) (fs : List Fon) (hfs : FonsOk fs) (hf : Tryz.prog.funcs[c.f]? = some fn) (hb : (fn.body.isNone || fn.name == "runtime.NumGoroutine" || !codeOk (efs fs) o.sc o.lt fn.ntmps (bodyOf fn)) = false)
 (h : ∀ avs res, c.go avs = some res → res.pre () → ∃ Ls, (fnF (cxo o cs fs false) Ls fn avs res.av).P) : ConOk Tryz.prog c := by
 simp only [Bool.or_eq_false_iff, Bool.not_eq_false'] at hb
 exact conOk_of (C := cxo o cs fs false) ty_ok ⟨hcs.mem, hfs.mem⟩ (by kernel_rfl) hf hb.1.1 hb.1.2 hb.2 h
theorem fonOkO (o : Opt) {c : Fon} {fn : Func} (cs : List Con) (hcs : AllOk cs) (fs : List Fon) (hfs : FonsOk fs) (hf : Tryz.prog.funcs[c.f]? = some fn) (hb : (fn.body.isNone || fn.name == "runtime.NumGoroutine" || !codeOk (efs fs) o.sc o.lt fn.ntmps (bodyOf fn)) = false)
 (h : ∀ avs es res, c.go avs es = some res → res.pre () → ∃ Ls, (fnG (cxo o cs fs c.fix c.n) Ls fn avs es c.n res.av res.es).P) : FonOk Tryz.prog c := by
 simp only [Bool.or_eq_false_iff, Bool.not_eq_false'] at hb
 exact fonOk_of (C := cxo o cs fs c.fix c.n) rfl ty_ok ⟨hcs.mem, hfs.mem⟩ (by kernel_rfl) hf hb.1.1 hb.1.2 hb.2 h
theorem fnOkK (fz kp : List (Nat × List Nat)) (sc : List (Nat × Sch)) {c : Con} {fn : Func} (cs : List Con) (hcs : AllOk cs) (fs : List Fon) (hfs : FonsOk fs) (hf : Tryz.prog.funcs[c.f]? = some fn) (hb : (fn.body.isNone || fn.name == "runtime.NumGoroutine" || !codeOk (efs fs) sc [] fn.ntmps (bodyOf fn)) = false)
 (h : ∀ avs res, c.go avs = some res → res.pre () → ∃ Ls, (fnF (cxk cs fs fz kp sc []) Ls fn avs res.av).P) : ConOk Tryz.prog c := by
 simp only [Bool.or_eq_false_iff, Bool.not_eq_false'] at hb
 exact conOk_of (C := cxk cs fs fz kp sc []) ty_ok ⟨hcs.mem, hfs.mem⟩ (by kernel_rfl) hf hb.1.1 hb.1.2 hb.2 h
theorem fnOkZ (fz : List (Nat × List Nat)) {c : Con} {fn : Func} (cs : List Con) (hcs : AllOk cs) (fs : List Fon) (hfs : FonsOk fs) (hf : Tryz.prog.funcs[c.f]? = some fn) (hb : (fn.body.isNone || fn.name == "runtime.NumGoroutine" || !codeOk (efs fs) [] [] fn.ntmps (bodyOf fn)) = false)
 (h : ∀ avs res, c.go avs = some res → res.pre () → ∃ Ls, (fnF (cxz cs fs fz) Ls fn avs res.av).P) : ConOk Tryz.prog c := by
 simp only [Bool.or_eq_false_iff, Bool.not_eq_false'] at hb
 exact conOk_of (C := cxz cs fs fz) ty_ok ⟨hcs.mem, hfs.mem⟩ (by kernel_rfl) hf hb.1.1 hb.1.2 hb.2 h
theorem fnOkF {c : Con} {fn : Func} (cs : List Con) (hcs : AllOk cs) (fs : List Fon) (hfs : FonsOk fs) (hf : Tryz.prog.funcs[c.f]? = some fn) (hb : (fn.body.isNone || fn.name == "runtime.NumGoroutine" || !codeOk (efs fs) [] [] fn.ntmps (bodyOf fn)) = false)
 (h : ∀ avs res, c.go avs = some res → res.pre () → ∃ Ls, (fnF (cx cs fs) Ls fn avs res.av).P) : ConOk Tryz.prog c := fnOkZ [] cs hcs fs hfs hf hb h
theorem fnOk {c : Con} {fn : Func} (cs : List Con) (hcs : AllOk cs) (hf : Tryz.prog.funcs[c.f]? = some fn) (hb : (fn.body.isNone || fn.name == "runtime.NumGoroutine" || !codeOk [] [] [] fn.ntmps (bodyOf fn)) = false)
 (h : ∀ avs res, c.go avs = some res → res.pre () → ∃ Ls, (fnF (cx cs []) Ls fn avs res.av).P) : ConOk Tryz.prog c := fnOkF cs hcs [] trivial hf hb h
theorem fonOkZ (fz : List (Nat × List Nat)) {c : Fon} {fn : Func} (cs : List Con) (hcs : AllOk cs) (fs : List Fon) (hfs : FonsOk fs) (hf : Tryz.prog.funcs[c.f]? = some fn) (hb : (fn.body.isNone || fn.name == "runtime.NumGoroutine" || !codeOk (efs fs) [] [] fn.ntmps (bodyOf fn)) = false)
 (h : ∀ avs es res, c.go avs es = some res → res.pre () → ∃ Ls, (fnG (cxf cs fs fz c.fix c.n) Ls fn avs es c.n res.av res.es).P) : FonOk Tryz.prog c := by
 simp only [Bool.or_eq_false_iff, Bool.not_eq_false'] at hb
 exact fonOk_of (C := cxf cs fs fz c.fix c.n) rfl ty_ok ⟨hcs.mem, hfs.mem⟩ (by kernel_rfl) hf hb.1.1 hb.1.2 hb.2 h
theorem fonOk {c : Fon} {fn : Func} (cs : List Con) (hcs : AllOk cs) (fs : List Fon) (hfs : FonsOk fs) (hf : Tryz.prog.funcs[c.f]? = some fn) (hb : (fn.body.isNone || fn.name == "runtime.NumGoroutine" || !codeOk (efs fs) [] [] fn.ntmps (bodyOf fn)) = false)
 (h : ∀ avs es res, c.go avs es = some res → res.pre () → ∃ Ls, (fnG (cxf cs fs [] c.fix c.n) Ls fn avs es c.n res.av res.es).P) : FonOk Tryz.prog c := fonOkZ [] cs hcs fs hfs hf hb h
theorem nameIt {α : Type} {G : Prop} (e : α) (h : ∀ x, e = x → G) : G := h e rfl
theorem P_vc (l : List VC) (A : Fm) : (Fm.vc l A).P = (allVC l ∧ A.P) := rfl
theorem P_br (c : Unit → Bool) (A B : Fm) : (Fm.br c A B).P = ((c () = true → A.P) ∧ (c () = false → B.P)) := rfl
theorem P_fin (l : List VC) : (Fm.fin l).P = allVC l := rfl
theorem P_and (A B : Fm) : (Fm.and A B).P = (A.P ∧ B.P) := rfl
theorem T_self (F : Tc → Type) {t : Tc} (h : t = t) (x : F t) : toT F h x = x := rfl
theorem castK (k : Nat) : (NatCast.natCast k : Int) = (k : Int) := rfl
theorem succK (k : Nat) : Nat.succ k = k + 1 := rfl
theorem V_nil : allVC [] = True := rfl
theorem V_one (c : VC) : allVC [c] = c () := rfl
theorem V_cons (c d : VC) (l : List VC) : allVC (c :: d :: l) = (c () ∧ allVC (d :: l)) := rfl
theorem eta {α : Type} (f : Unit → α) : ∃ x, f = fun _ => x := ⟨f (), rfl⟩
theorem predK (k : Nat) : ((k : Int) - 1).toNat = k - 1 := by omega
def AV.valOf : AV → Value
 | .int k n => .int k (n ())
 | .lit k n => .int k n
 | .bool b => .bool (b ())
 | .blit b => .bool b
 | .str s => .string (s ())
 | _ => undef
def AV.flat : AV → Bool
 | .int _ _ => true
 | .lit _ _ => true
 | .bool _ => true
 | .blit _ => true
 | .str _ => true
 | _ => false
section
variable {w w' : World} {ρ ρ' : Nat → Option Rl} {base base' : Nat} {ro ro' : Nat → Prop} {v : Value}
theorem AVR.flat_ {x : AV} (hx : x.flat = true) (h : AVR w ρ base ro x v) : v = x.valOf := by
 cases x <;> simp only [AV.flat, Bool.false_eq_true] at hx
 · exact h.int_
 · exact h.lit_
 · exact h.bool_
 · exact h.blit_
 · exact h.str_
theorem avr_flat {x : AV} (hx : x.flat = true) : AVR w ρ base ro x x.valOf := by
 cases x <;> simp only [AV.flat, Bool.false_eq_true] at hx
 · exact .int _ _
 · exact .lit _ _
 · exact .bool _
 · exact .blit _
 · exact .str _
theorem Each.flat_ : ∀ {l : List AV} {vs : List Value}, l.all AV.flat = true → Each w ρ base ro l vs → vs = l.map AV.valOf
 | [], vs, _, h => h.none
 | x :: l, vs, hl, h => by
  simp only [List.all_cons, Bool.and_eq_true] at hl
  cases vs with
  | nil => have := h.1; simp at this
  | cons v vs =>
   have h1 := h.2 0 x v rfl rfl
   have h2 : Each w ρ base ro l vs := ⟨by have := h.1; simpa using this, fun j y u hy hu => h.2 (j + 1) y u (by simpa using hy) (by simpa using hu)⟩
   rw [h1.flat_ hl.1, Each.flat_ hl.2 h2]
   rfl
theorem each_flat : ∀ {l : List AV}, l.all AV.flat = true → Each w ρ base ro l (l.map AV.valOf)
 | [], _ => .nil
 | x :: l, hl => by
  simp only [List.all_cons, Bool.and_eq_true] at hl
  exact .cons (avr_flat hl.1) (each_flat hl.2)
theorem AVR.aggF {l : List AV} (hl : l.all AV.flat = true) (h : AVR w ρ base ro (.agg l) v) : v = .agg (l.map AV.valOf).toArray := by
 obtain ⟨vs, rfl, hE⟩ := h.agg_
 rw [hE.flat_ hl]
theorem avr_aggF {l : List AV} (hl : l.all AV.flat = true) : AVR w ρ base ro (.agg l) (.agg (l.map AV.valOf).toArray) := by
 have hE : Each w ρ base ro l (l.map AV.valOf) := each_flat hl
 exact .agg _ _ hE.1 hE.2
theorem avr_tup2 {x y : AV} {u v : Value} (hx : AVR w ρ base ro x u) (hy : AVR w ρ base ro y v) : AVR w ρ base ro (.tup [x, y]) (.tuple #[u, v]) := by
 have hE : Each w ρ base ro [x, y] [u, v] := .cons hx (.cons hy .nil)
 exact .tup _ _ hE.1 hE.2
theorem AVR.slF {fr : Bool} {t : Tc} {l : Unit → List t.el} (f : t.el → List Value) (ht : ∀ x : t.el, (cellsAV fr t fun _ => x).all AV.flat = true) (hf : ∀ x : t.el, (cellsAV fr t fun _ => x).map AV.valOf = f x) (h : AVR w ρ base ro (.sl fr t l) v) : ∃ A c, v = .slice A (l ()).length c ∧ (l ()).length ≤ c ∧ Rd w w.heap.size t.size A ((l ()).map f) := by
 obtain ⟨A, c, css, h1, h2, h3, _, _, h6, rfl⟩ := h.sl_
 refine ⟨A, c, rfl, by omega, ?_⟩
 have : css = (l ()).map f := by
  apply List.ext_getElem?
  intro k
  rw [List.getElem?_map]
  cases hk : css[k]? with
  | none =>
   have : (l ())[k]? = none := by rw [List.getElem?_eq_none_iff] at hk ⊢; omega
   rw [this]
   rfl
  | some cs =>
   have hlt := (List.getElem?_eq_some_iff.1 hk).1
   obtain ⟨_, _, _, _, hl, _⟩ := h3 k cs hk
   have hE : Each w ρ base ro (cellsAV fr t fun _ => (l ()).getD k t.dflt) cs := row_each hl fun j y u hy hu => h6 k cs j y u hk hy hu
   rw [hE.flat_ (ht _), hf, List.getElem?_eq_getElem (by omega), Option.map_some, List.getD_eq_getElem?_getD, List.getElem?_eq_getElem (by omega)]
   rfl
 rwa [this] at h3
end
theorem oldOk {c : Con} {fn : Func} (hf : Tryz.prog.funcs[c.f]? = some fn) (hb : (fn.body.isNone || fn.name == "runtime.NumGoroutine") = false)
 (h : ∀ avs res, c.go avs = some res → ∀ (w : World) (ra : Nat → Prop) (vals : List Value), Each w (fun _ => none) 0 ra avs vals → res.pre () → Calls Tryz.prog c.f vals.toArray w fun e w' => ∃ v, e = .returned v ∧ From w w' ∧ AVR w' (fun _ => none) w.heap.size (fun b => ra b ∨ w.heap.size ≤ b) res.av v) : ConOk Tryz.prog c := by
 simp only [Bool.or_eq_false_iff] at hb
 exact ⟨fun args w => callFunc_ok hf hb.1 hb.2 args w, fun avs res hgo w ra vals _ hE hpre => h avs res hgo w ra vals hE hpre⟩
end Go.Proofs.YtfdjcakgolenbaaGreat
