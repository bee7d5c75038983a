/- The program's types, as far as the walks ask for them. Printed by a program of mine out of the seat's translation. -/
import Derived.Test.YtfeajpghabjaaaaM13
import Derived.Test.YtfeajpghabjaaaaChecked
namespace Go.Proofs.Ytfeajpghabjaaaa
open Go

def tab : List (TypeId × TyI) := [
  (1, ⟨.other, 1, 8, [.nilFunc]⟩),
  (2, ⟨.int .i64, 1, 8, [.int .i64 0]⟩),
  (3, ⟨.int .i64, 1, 8, [.int .i64 0]⟩),
  (4, ⟨.bool, 1, 1, [.bool false]⟩),
  (5, ⟨.int .u8, 1, 1, [.int .u8 0]⟩),
  (9, ⟨.string, 1, 16, [.string ⟨#[]⟩]⟩),
  (12, ⟨.int .u64, 1, 8, [.int .u64 0]⟩),
  (15, ⟨.pointer 167, 1, 8, [.pointer none]⟩),
  (16, ⟨.pointer 170, 1, 8, [.pointer none]⟩),
  (17, ⟨.pointer 179, 1, 8, [.pointer none]⟩),
  (20, ⟨.other, 1, 16, [.nilIface]⟩),
  (21, ⟨.int .i32, 1, 4, [.int .i32 0]⟩),
  (22, ⟨.slice 50, 1, 24, [.slice none 0 0]⟩),
  (23, ⟨.slice 38, 1, 24, [.slice none 0 0]⟩),
  (24, ⟨.struct [(0, 22), (1, 23)], 2, 48, [.slice none 0 0, .slice none 0 0]⟩),
  (25, ⟨.struct [(0, 22), (1, 23)], 2, 48, [.slice none 0 0, .slice none 0 0]⟩),
  (26, ⟨.int .i64, 1, 8, [.int .i64 0]⟩),
  (27, ⟨.struct [(0, 26), (1, 3), (2, 3)], 3, 24, [.int .i64 0, .int .i64 0, .int .i64 0]⟩),
  (28, ⟨.struct [(0, 26), (1, 3), (2, 3)], 3, 24, [.int .i64 0, .int .i64 0, .int .i64 0]⟩),
  (30, ⟨.other, 1, 8, [.nilFunc]⟩),
  (31, ⟨.other, 1, 8, [.nilFunc]⟩),
  (32, ⟨.other, 1, 8, [.nilFunc]⟩),
  (33, ⟨.other, 1, 8, [.nilFunc]⟩),
  (34, ⟨.other, 1, 8, [.nilFunc]⟩),
  (35, ⟨.slice 3, 1, 24, [.slice none 0 0]⟩),
  (36, ⟨.slice 57, 1, 24, [.slice none 0 0]⟩),
  (37, ⟨.struct [(0, 3), (1, 3), (2, 35), (3, 3), (4, 3), (5, 36)], 6, 80, [.int .i64 0, .int .i64 0, .slice none 0 0, .int .i64 0, .int .i64 0, .slice none 0 0]⟩),
  (38, ⟨.struct [(0, 3), (1, 3), (2, 35), (3, 3), (4, 3), (5, 36)], 6, 80, [.int .i64 0, .int .i64 0, .slice none 0 0, .int .i64 0, .int .i64 0, .slice none 0 0]⟩),
  (39, ⟨.other, 1, 8, [.nilFunc]⟩),
  (40, ⟨.slice 41, 1, 24, [.slice none 0 0]⟩),
  (41, ⟨.slice 2, 1, 24, [.slice none 0 0]⟩),
  (42, ⟨.struct [(0, 3), (1, 3), (2, 3), (3, 41), (4, 40), (5, 35), (6, 3)], 7, 104, [.int .i64 0, .int .i64 0, .int .i64 0, .slice none 0 0, .slice none 0 0, .slice none 0 0, .int .i64 0]⟩),
  (43, ⟨.struct [(0, 3), (1, 3), (2, 3), (3, 41), (4, 40), (5, 35), (6, 3)], 7, 104, [.int .i64 0, .int .i64 0, .int .i64 0, .slice none 0 0, .slice none 0 0, .slice none 0 0, .int .i64 0]⟩),
  (45, ⟨.other, 1, 8, [.nilFunc]⟩),
  (46, ⟨.other, 1, 8, [.nilFunc]⟩),
  (47, ⟨.other, 1, 8, [.nilFunc]⟩),
  (48, ⟨.other, 1, 8, [.nilFunc]⟩),
  (49, ⟨.struct [(0, 3), (1, 3)], 2, 16, [.int .i64 0, .int .i64 0]⟩),
  (50, ⟨.struct [(0, 3), (1, 3)], 2, 16, [.int .i64 0, .int .i64 0]⟩),
  (51, ⟨.other, 1, 8, [.nilFunc]⟩),
  (52, ⟨.other, 1, 8, [.nilFunc]⟩),
  (54, ⟨.other, 1, 8, [.nilFunc]⟩),
  (55, ⟨.other, 1, 8, [.nilFunc]⟩),
  (56, ⟨.struct [(0, 3), (1, 3), (2, 2)], 3, 24, [.int .i64 0, .int .i64 0, .int .i64 0]⟩),
  (57, ⟨.struct [(0, 3), (1, 3), (2, 2)], 3, 24, [.int .i64 0, .int .i64 0, .int .i64 0]⟩),
  (58, ⟨.pointer 61, 1, 8, [.pointer none]⟩),
  (59, ⟨.pointer 25, 1, 8, [.pointer none]⟩),
  (60, ⟨.struct [(0, 59)], 1, 8, [.pointer none]⟩),
  (61, ⟨.struct [(0, 59)], 1, 8, [.pointer none]⟩),
  (62, ⟨.other, 1, 8, [.nilFunc]⟩),
  (63, ⟨.other, 1, 8, [.nilFunc]⟩),
  (64, ⟨.other, 1, 8, [.nilFunc]⟩),
  (65, ⟨.pointer 67, 1, 8, [.pointer none]⟩),
  (66, ⟨.struct [(0, 40), (1, 35), (2, 40)], 3, 72, [.slice none 0 0, .slice none 0 0, .slice none 0 0]⟩),
  (67, ⟨.struct [(0, 40), (1, 35), (2, 40)], 3, 72, [.slice none 0 0, .slice none 0 0, .slice none 0 0]⟩),
  (68, ⟨.pointer 76, 1, 8, [.pointer none]⟩),
  (69, ⟨.other, 1, 8, [.nilFunc]⟩),
  (70, ⟨.other, 1, 16, [.nilIface]⟩),
  (71, ⟨.other, 1, 16, [.nilIface]⟩),
  (72, ⟨.slice 73, 1, 24, [.slice none 0 0]⟩),
  (73, ⟨.pointer 104, 1, 8, [.pointer none]⟩),
  (74, ⟨.other, 1, 8, [.nilFunc]⟩),
  (75, ⟨.struct [(0, 59), (1, 71), (2, 72), (3, 73), (4, 3), (5, 3), (6, 3), (7, 41), (8, 74)], 9, 112, [.pointer none, .nilIface, .slice none 0 0, .pointer none, .int .i64 0, .int .i64 0, .int .i64 0, .slice none 0 0, .nilFunc]⟩),
  (76, ⟨.struct [(0, 59), (1, 71), (2, 72), (3, 73), (4, 3), (5, 3), (6, 3), (7, 41), (8, 74)], 9, 112, [.pointer none, .nilIface, .slice none 0 0, .pointer none, .int .i64 0, .int .i64 0, .int .i64 0, .slice none 0 0, .nilFunc]⟩),
  (77, ⟨.other, 1, 8, [.nilFunc]⟩),
  (78, ⟨.other, 1, 8, [.nilFunc]⟩),
  (79, ⟨.other, 1, 8, [.nilFunc]⟩),
  (80, ⟨.other, 1, 8, [.nilFunc]⟩),
  (82, ⟨.other, 1, 8, [.nilFunc]⟩),
  (83, ⟨.other, 1, 8, [.nilFunc]⟩),
  (84, ⟨.pointer 38, 1, 8, [.pointer none]⟩),
  (85, ⟨.other, 1, 8, [.nilFunc]⟩),
  (86, ⟨.other, 1, 8, [.nilFunc]⟩),
  (87, ⟨.pointer 93, 1, 8, [.pointer none]⟩),
  (88, ⟨.map 3 91, 1, 8, [.map none]⟩),
  (89, ⟨.slice 4, 1, 24, [.slice none 0 0]⟩),
  (90, ⟨.struct [(0, 35), (1, 89)], 2, 48, [.slice none 0 0, .slice none 0 0]⟩),
  (91, ⟨.struct [(0, 35), (1, 89)], 2, 48, [.slice none 0 0, .slice none 0 0]⟩),
  (92, ⟨.struct [(0, 58), (1, 84), (2, 88), (3, 35), (4, 91), (6, 26)], 7, 104, [.pointer none, .pointer none, .map none, .slice none 0 0, .slice none 0 0, .slice none 0 0, .int .i64 0]⟩),
  (93, ⟨.struct [(0, 58), (1, 84), (2, 88), (3, 35), (4, 91), (6, 26)], 7, 104, [.pointer none, .pointer none, .map none, .slice none 0 0, .slice none 0 0, .slice none 0 0, .int .i64 0]⟩),
  (94, ⟨.other, 1, 8, [.nilFunc]⟩),
  (95, ⟨.other, 1, 8, [.nilFunc]⟩),
  (96, ⟨.other, 1, 8, [.nilFunc]⟩),
  (97, ⟨.other, 1, 8, [.nilFunc]⟩),
  (98, ⟨.other, 1, 8, [.nilFunc]⟩),
  (99, ⟨.other, 1, 8, [.nilFunc]⟩),
  (100, ⟨.other, 1, 8, [.nilFunc]⟩),
  (101, ⟨.slice 107, 1, 24, [.slice none 0 0]⟩),
  (102, ⟨.pointer 151, 1, 8, [.pointer none]⟩),
  (103, ⟨.struct [(0, 3), (1, 73), (2, 101), (3, 102)], 4, 48, [.int .i64 0, .pointer none, .slice none 0 0, .pointer none]⟩),
  (104, ⟨.struct [(0, 3), (1, 73), (2, 101), (3, 102)], 4, 48, [.int .i64 0, .pointer none, .slice none 0 0, .pointer none]⟩),
  (105, ⟨.pointer 107, 1, 8, [.pointer none]⟩),
  (106, ⟨.struct [(0, 3), (1, 3), (2, 3)], 3, 24, [.int .i64 0, .int .i64 0, .int .i64 0]⟩),
  (107, ⟨.struct [(0, 3), (1, 3), (2, 3)], 3, 24, [.int .i64 0, .int .i64 0, .int .i64 0]⟩),
  (108, ⟨.other, 1, 8, [.nilFunc]⟩),
  (109, ⟨.pointer 2, 1, 8, [.pointer none]⟩),
  (110, ⟨.other, 1, 8, [.nilFunc]⟩),
  (111, ⟨.other, 1, 8, [.nilFunc]⟩),
  (112, ⟨.other, 1, 8, [.nilFunc]⟩),
  (113, ⟨.other, 1, 8, [.nilFunc]⟩),
  (114, ⟨.other, 1, 8, [.nilFunc]⟩),
  (115, ⟨.other, 1, 8, [.nilFunc]⟩),
  (116, ⟨.map 3 4, 1, 8, [.map none]⟩),
  (117, ⟨.other, 1, 8, [.nilFunc]⟩),
  (118, ⟨.other, 1, 8, [.nilFunc]⟩),
  (119, ⟨.other, 1, 8, [.nilFunc]⟩),
  (120, ⟨.other, 1, 8, [.nilFunc]⟩),
  (121, ⟨.slice 123, 1, 24, [.slice none 0 0]⟩),
  (122, ⟨.struct [(0, 4), (1, 9), (2, 89)], 3, 48, [.bool false, .string ⟨#[]⟩, .slice none 0 0]⟩),
  (123, ⟨.struct [(0, 4), (1, 9), (2, 89)], 3, 48, [.bool false, .string ⟨#[]⟩, .slice none 0 0]⟩),
  (124, ⟨.other, 1, 8, [.nilFunc]⟩),
  (126, ⟨.other, 1, 8, [.nilFunc]⟩),
  (127, ⟨.slice 5, 1, 24, [.slice none 0 0]⟩),
  (128, ⟨.other, 1, 8, [.nilFunc]⟩),
  (130, ⟨.other, 1, 8, [.nilFunc]⟩),
  (131, ⟨.pointer 123, 1, 8, [.pointer none]⟩),
  (132, ⟨.other, 1, 8, [.nilFunc]⟩),
  (134, ⟨.other, 1, 8, [.nilFunc]⟩),
  (135, ⟨.other, 1, 8, [.nilFunc]⟩),
  (136, ⟨.other, 1, 8, [.nilFunc]⟩),
  (137, ⟨.other, 1, 8, [.nilFunc]⟩),
  (138, ⟨.other, 1, 8, [.nilFunc]⟩),
  (139, ⟨.other, 1, 8, [.nilFunc]⟩),
  (140, ⟨.other, 1, 8, [.nilFunc]⟩),
  (142, ⟨.other, 1, 8, [.nilFunc]⟩),
  (143, ⟨.other, 1, 8, [.nilFunc]⟩),
  (144, ⟨.other, 1, 8, [.nilFunc]⟩),
  (145, ⟨.other, 1, 8, [.nilFunc]⟩),
  (146, ⟨.other, 1, 8, [.nilFunc]⟩),
  (147, ⟨.other, 1, 8, [.nilFunc]⟩),
  (148, ⟨.other, 1, 8, [.nilFunc]⟩),
  (149, ⟨.other, 1, 8, [.nilFunc]⟩),
  (150, ⟨.struct [(0, 41), (1, 3), (2, 3), (3, 3)], 4, 48, [.slice none 0 0, .int .i64 0, .int .i64 0, .int .i64 0]⟩),
  (151, ⟨.struct [(0, 41), (1, 3), (2, 3), (3, 3)], 4, 48, [.slice none 0 0, .int .i64 0, .int .i64 0, .int .i64 0]⟩),
  (152, ⟨.other, 1, 8, [.nilFunc]⟩),
  (153, ⟨.other, 1, 8, [.nilFunc]⟩),
  (154, ⟨.other, 1, 8, [.nilFunc]⟩),
  (155, ⟨.other, 1, 8, [.nilFunc]⟩),
  (156, ⟨.other, 1, 8, [.nilFunc]⟩),
  (157, ⟨.other, 1, 8, [.nilFunc]⟩),
  (158, ⟨.other, 1, 8, [.nilFunc]⟩),
  (159, ⟨.other, 1, 8, [.nilFunc]⟩),
  (160, ⟨.other, 1, 8, [.nilFunc]⟩),
  (161, ⟨.other, 1, 8, [.nilFunc]⟩),
  (163, ⟨.other, 1, 8, [.nilFunc]⟩),
  (164, ⟨.other, 1, 8, [.nilFunc]⟩),
  (165, ⟨.other, 1, 8, [.nilFunc]⟩),
  (171, ⟨.int .u32, 1, 4, [.int .u32 0]⟩),
  (174, ⟨.other, 1, 8, [.nilFunc]⟩),
  (175, ⟨.pointer 5, 1, 8, [.pointer none]⟩),
  (178, ⟨.struct [(0, 12), (1, 12), (2, 171), (3, 172), (4, 5), (5, 5), (6, 173), (7, 174), (8, 175), (9, 176), (10, 177)], 11, 48, [.int .u64 0, .int .u64 0, .int .u32 0, .int .u8 0, .int .u8 0, .int .u8 0, .int .u8 0, .nilFunc, .pointer none, .int .i32 0, .int .i32 0]⟩)
]

theorem tab_ok : ∀ p ∈ tab, TyOk Try.prog p.1 p.2 := by
  unfold tab
  repeat (refine List.forall_mem_cons.2 ⟨⟨by kernel_rfl, by kernel_rfl⟩, ?_⟩)
  simp

instance : Tabbed Try.prog := ⟨tab, tab_ok⟩
end Go.Proofs.Ytfeajpghabjaaaa

/- Package verify, walked: what is asked of types, units, instructions, heads. -/
namespace Go.Proofs.Ytfeajpghabjaaaa.Vw
open Go.RowKit Go.Proofs.Ytfeajpghabjaaaa.Img
set_option linter.unusedVariables false
set_option linter.unusedSimpArgs false
attribute [local irreducible] Run Cod End OpT Still RunQ RunS RunT Fn PutOk

/-- a checker, and its module's variable -/
abbrev ck (cb mb : Nat) (m : ML) : List Chunk := [blk cb [.pointer (some ⟨mb, 0, none⟩)] 61, blk mb [.slice m.bo m.bx.length m.bc, .slice m.uo m.us.length m.uc] 25]
abbrev ptr (b : Nat) : Value := .pointer (some ⟨b, 0, none⟩)
theorem bool_eq {a b : Bool} (h : a = b) : Value.bool a = Value.bool b := by rw [h]
theorem int_eq {k : IntKind} {a b : Int} (h : a = b) : Value.int k a = Value.int k b := by rw [h]

set_option maxRecDepth 100000 in
theorem plain_is (t : Int) : Fn Try.prog 37 #[.int .i64 t] [] [] (σ := Unit) (fun _ => True) (fun _ => .bool (Ver.plain t)) (fun _ => []) := by
  refine Fn.enter (args := [.int .i64 t]) Try.func37 rfl _ Try.ntmps37 rfl (by simp [rd_excl, md_excl]) (fun w S => ?_)
  (try conv => rhs; simp only [List.cons_append, List.nil_append])
  repeat' (first | refine go (k := ?_) | (refine goB (k := ?_); intro b) | (refine goA (k := ?_); intro ao cap) | refine goQ (k := fun h => ?_) (k' := fun h => ?_) | fail)
  all_goals ((refine End.done1_ (()) (he := by refine bool_eq ?_; (first | (simp [Ver.plain, *]; done) | (simp [Ver.plain]; omega) | (rw [Bool.eq_iff_iff]; simp [Ver.plain]; omega) | (simp [Ver.plain, *]; intros; omega))) (hp := ?_)); trivial)

set_option maxRecDepth 100000 in
theorem unit_is (cb mb : Nat) (m : ML) (i k : Int) : Fn Try.prog 75 #[ptr cb, .int .i64 i, .int .i64 k] [md m] (ck cb mb m) (σ := Unit) (fun _ => True) (fun _ => .bool (Ver.isUnit m.mdl i k)) (fun _ => ck cb mb m) := by
  refine Fn.enter (args := [ptr cb, .int .i64 i, .int .i64 k]) Try.func75 rfl _ Try.ntmps75 rfl (by simp [rd_excl, md_excl]) (fun w S => ?_)
  (try conv => rhs; simp only [List.cons_append, List.nil_append])
  repeat' (first | refine go (k := ?_) | (refine goB (k := ?_); intro b) | (refine goA (k := ?_); intro ao cap) | refine goQ (k := fun h => ?_) (k' := fun h => ?_) | fail)
  all_goals ((refine End.done1_ (()) (he := by refine bool_eq ?_; (first | (simp [Ver.isUnit, getD_u, *]; done) | (simp [Ver.isUnit, getD_u]; omega) | (rw [Bool.eq_iff_iff]; simp [Ver.isUnit, getD_u]; omega) | (simp [Ver.isUnit, getD_u, *]; intros; omega))) (hp := ?_)); trivial)

set_option maxRecDepth 100000 in
theorem handle_is (cb mb : Nat) (m : ML) (t : Int) (ht : ImgM.In64 t) : Fn Try.prog 74 #[ptr cb, .int .i64 t] [md m] (ck cb mb m) (σ := Unit) (fun _ => True) (fun _ => .bool (Ver.handle m.mdl t)) (fun _ => ck cb mb m) := by
  unfold ImgM.In64 at ht
  refine Fn.enter (args := [ptr cb, .int .i64 t]) Try.func74 rfl _ Try.ntmps74 rfl (by simp [rd_excl, md_excl]) (fun w S => ?_)
  (try conv => rhs; simp only [List.cons_append, List.nil_append])
  repeat' (first | ((first | (apply Run.op; exact rfl) | refine Run.yes_ (h := ?_)); refine OpT.call0_ (spec := unit_is cb mb m _ _) (k := ?_); intro s hs; (try conv => rhs; simp only [List.cons_append, List.nil_append])) | refine go (k := ?_) | (refine goB (k := ?_); intro b) | (refine goA (k := ?_); intro ao cap) | refine goQ (k := fun h => ?_) (k' := fun h => ?_) | fail)
  all_goals ((refine End.done1_ (()) (he := by refine bool_eq ?_; (first | (simp [Ver.handle, *]; done) | (simp [Ver.handle]; omega) | (rw [Bool.eq_iff_iff]; simp [Ver.handle]; omega) | (simp [Ver.handle, *]; intros; omega))) (hp := ?_)); trivial)

set_option maxRecDepth 100000 in
theorem head1_is (cb mb pb : Nat) (m : ML) (t : Int) (ht : ImgM.In64 t) : Fn Try.prog 73 #[.int .i64 t, ptr pb] [md m] (blk pb [ptr cb] 58 :: ck cb mb m) (σ := Unit) (fun _ => True) (fun _ => .bool (!Ver.plain t && !Ver.handle m.mdl t)) (fun _ => blk pb [ptr cb] 58 :: ck cb mb m) := by
  refine Fn.enter (args := [.int .i64 t, ptr pb]) Try.func73 rfl _ Try.ntmps73 rfl (by simp [rd_excl, md_excl]) (fun w S => ?_)
  (try conv => rhs; simp only [List.cons_append, List.nil_append])
  repeat' (first | ((first | (apply Run.op; exact rfl) | refine Run.yes_ (h := ?_)); refine OpT.call0_ (spec := plain_is _) (k := ?_); intro s hs; (try conv => rhs; simp only [List.cons_append, List.nil_append])) | ((first | (apply Run.op; exact rfl) | refine Run.yes_ (h := ?_)); refine OpT.call0_ (spec := handle_is cb mb m _ ht) (k := ?_); intro s hs; (try conv => rhs; simp only [List.cons_append, List.nil_append])) | refine go (k := ?_) | (refine goB (k := ?_); intro b) | (refine goA (k := ?_); intro ao cap) | refine goQ (k := fun h => ?_) (k' := fun h => ?_) | fail)
  all_goals ((refine End.done1_ (()) (he := by refine bool_eq ?_; (first | (simp [*]; done) | (simp []; omega) | (rw [Bool.eq_iff_iff]; simp []; omega) | (simp [*]; intros; omega))) (hp := ?_)); trivial)
end Go.Proofs.Ytfeajpghabjaaaa.Vw

/- Functions of package slices, walked. -/
namespace Go.Proofs.Ytfeajpghabjaaaa.Vw
open Go.RowKit Go.Proofs.Ytfeajpghabjaaaa.Img
set_option linter.unusedVariables false
set_option linter.unusedSimpArgs false
attribute [local irreducible] Run Cod End OpT Still RunQ RunS RunT Fn PutOk

set_option maxRecDepth 100000 in
theorem indexFuncI_is (ao : Option Addr) (n cap : Nat) (l : List Int) (hn : l.length = n) (hm : n ≤ 9223372036854775807) (f : FuncId) (cp : List Value) (r : Chunk) (hr : r.excl = false) (pre : List Chunk) (hpx : ∀ c ∈ pre, c.excl = true) (p : Int → Bool) (hc : callB Try.prog f = true)
    (hf : ∀ x ∈ l, Fn Try.prog f (#[.int .i64 x] ++ cp.toArray) [r] pre (σ := Unit) (fun _ => True) (fun _ => .bool (p x)) (fun _ => pre)) :
    Fn Try.prog 83 #[.slice ao n cap, .func (.func f) #[] cp.toArray] [rd ao n cap i64c l, r] pre (fun s : Int => decide (0 ≤ s) = l.any p) (fun s => .int .i64 s) (fun _ => pre) := by
  refine Fn.enter (args := [.slice ao n cap, .func (.func f) #[] cp.toArray]) Try.func83 rfl _ Try.ntmps83 rfl (by simp [rd_excl, hr]) (fun w S => ?_)
  (try conv => rhs; simp only [List.cons_append, List.nil_append])
  repeat (first | refine go (k := ?_) | (refine goB (k := ?_); intro b) | (refine goA (k := ?_); intro ao cap))
  apply Cod.loop (σ := Nat) (fun k => k ≤ n ∧ ∀ j, j < k → p (l.getD j default) = false) (fun k => [(0, .slice ao n cap), (1, .func (.func f) #[] cp.toArray), (7, .int .i64 (n : Int)), (8, .int .i64 (k : Int))]) (fun _ => old w S :: rd ao n cap i64c l :: r :: pre) (fun k => n - k) 0
  rotate_left
  exact sb
  exact Takes.all _
  intro k hs K hK
  obtain ⟨hk, hfn⟩ := hs
  rotate_left
  exact ⟨by omega, fun j hj => by omega⟩
  simp only [List.append_nil]
  repeat (first | refine go (k := ?_) | (refine goB (k := ?_); intro b) | (refine goA (k := ?_); intro ao cap))
  by_cases h : k < n
  · have hx : l.getD k default ∈ l := by
      rw [List.getD_eq_getElem?_getD, List.getElem?_eq_getElem (by omega : k < l.length)]
      exact List.getElem_mem _
    repeat (first | refine go (k := ?_) | (refine goB (k := ?_); intro b) | (refine goA (k := ?_); intro ao cap))
    refine Run.op (by exact rfl) (OpT.call (hx := by exact rfl) (hv := evz) (hc := hc) (hd := by exact rfl) (spec := hf _ hx) (t := .skip (.skip (.skip (.all _)))) (r := fun w => .any tk hr .nil) (k := ?_))
    intro s hs
    cases hp : p (l.getD k default) with
    | true =>
      repeat (first | refine go (k := ?_) | (refine goB (k := ?_); intro b) | (refine goA (k := ?_); intro ao cap))
      refine End.done1 (k : Int) (by exact rfl) (by exact rfl) rfl ?_ hpx .back1
      have : l.any p = true := List.any_eq_true.2 ⟨_, hx, hp⟩
      rw [this]
      simp
    | false =>
      repeat (first | refine go (k := ?_) | (refine goB (k := ?_); intro b) | (refine goA (k := ?_); intro ao cap))
      refine End.round hK (k + 1) ⟨by omega, fun j hj => ?_⟩ (by omega) sb .back
      by_cases hjk : j = k
      · subst hjk; exact hp
      · exact hfn j (by omega)
  · repeat (first | refine go (k := ?_) | (refine goB (k := ?_); intro b) | (refine goA (k := ?_); intro ao cap))
    refine End.done1 (-1 : Int) (by exact rfl) (by exact rfl) rfl ?_ hpx (.cons .head (.skip (.skip (.all _))))
    have : l.any p = false := by
      rw [List.any_eq_false]
      intro x hx
      obtain ⟨j, hj, rfl⟩ := List.getElem_of_mem hx
      have := hfn j (by omega)
      rw [List.getD_eq_getElem?_getD, List.getElem?_eq_getElem hj] at this
      simpa using this
    rw [this]
    rfl

set_option maxRecDepth 100000 in
theorem containsFuncI_is (ao : Option Addr) (n cap : Nat) (l : List Int) (hn : l.length = n) (hm : n ≤ 9223372036854775807) (f : FuncId) (cp : List Value) (r : Chunk) (hr : r.excl = false) (pre : List Chunk) (hpx : ∀ c ∈ pre, c.excl = true) (p : Int → Bool) (hc : callB Try.prog f = true)
    (hf : ∀ x ∈ l, Fn Try.prog f (#[.int .i64 x] ++ cp.toArray) [r] pre (σ := Unit) (fun _ => True) (fun _ => .bool (p x)) (fun _ => pre)) :
    Fn Try.prog 43 #[.slice ao n cap, .func (.func f) #[] cp.toArray] [rd ao n cap i64c l, r] pre (σ := Unit) (fun _ => True) (fun _ => .bool (l.any p)) (fun _ => pre) := by
  refine Fn.enter (args := [.slice ao n cap, .func (.func f) #[] cp.toArray]) Try.func43 rfl _ Try.ntmps43 rfl (by simp [rd_excl, hr]) (fun w S => ?_)
  (try conv => rhs; simp only [List.cons_append, List.nil_append])
  repeat (first | refine go (k := ?_) | (refine goB (k := ?_); intro b) | (refine goA (k := ?_); intro ao cap))
  refine Run.op (by exact rfl) (OpT.call0 (hx := by exact rfl) (hv := evz) (hc := by kernel_rfl) (hd := by exact rfl) (spec := indexFuncI_is ao n cap l hn hm f cp r hr pre hpx p hc hf) (t := .skip (.skip (.skip (.all _)))) (r := fun w => .rd tk (.any tk hr .nil)) (k := ?_))
  intro s hs
  repeat (first | refine go (k := ?_) | (refine goB (k := ?_); intro b) | (refine goA (k := ?_); intro ao cap))
  exact End.done1 () (by exact rfl) (by exact rfl) (bool_eq hs) trivial hpx .back1

set_option maxRecDepth 100000 in
theorem indexFuncN_is (ao : Option Addr) (n cap : Nat) (l : List ImgM.Ins) (hn : l.length = n) (hm : n ≤ 9223372036854775807) (f : FuncId) (cp : List Value) (r : Chunk) (hr : r.excl = false) (pre : List Chunk) (hpx : ∀ c ∈ pre, c.excl = true) (p : ImgM.Ins → Bool) (hc : callB Try.prog f = true)
    (hf : ∀ x ∈ l, Fn Try.prog f (#[.agg (insC x).toArray] ++ cp.toArray) [r] pre (σ := Unit) (fun _ => True) (fun _ => .bool (p x)) (fun _ => pre)) :
    Fn Try.prog 85 #[.slice ao n cap, .func (.func f) #[] cp.toArray] [rd ao n cap insC l, r] pre (fun s : Int => decide (0 ≤ s) = l.any p) (fun s => .int .i64 s) (fun _ => pre) := by
  refine Fn.enter (args := [.slice ao n cap, .func (.func f) #[] cp.toArray]) Try.func85 rfl _ Try.ntmps85 rfl (by simp [rd_excl, hr]) (fun w S => ?_)
  (try conv => rhs; simp only [List.cons_append, List.nil_append])
  repeat (first | refine go (k := ?_) | (refine goB (k := ?_); intro b) | (refine goA (k := ?_); intro ao cap))
  apply Cod.loop (σ := Nat) (fun k => k ≤ n ∧ ∀ j, j < k → p (l.getD j default) = false) (fun k => [(0, .slice ao n cap), (1, .func (.func f) #[] cp.toArray), (7, .int .i64 (n : Int)), (8, .int .i64 (k : Int))]) (fun _ => old w S :: rd ao n cap insC l :: r :: pre) (fun k => n - k) 0
  rotate_left
  exact sb
  exact Takes.all _
  intro k hs K hK
  obtain ⟨hk, hfn⟩ := hs
  rotate_left
  exact ⟨by omega, fun j hj => by omega⟩
  simp only [List.append_nil]
  repeat (first | refine go (k := ?_) | (refine goB (k := ?_); intro b) | (refine goA (k := ?_); intro ao cap))
  by_cases h : k < n
  · have hx : l.getD k default ∈ l := by
      rw [List.getD_eq_getElem?_getD, List.getElem?_eq_getElem (by omega : k < l.length)]
      exact List.getElem_mem _
    repeat (first | refine go (k := ?_) | (refine goB (k := ?_); intro b) | (refine goA (k := ?_); intro ao cap))
    refine Run.op (by exact rfl) (OpT.call (hx := by exact rfl) (hv := evz) (hc := hc) (hd := by exact rfl) (spec := hf _ hx) (t := .skip (.skip (.skip (.all _)))) (r := fun w => .any tk hr .nil) (k := ?_))
    intro s hs
    cases hp : p (l.getD k default) with
    | true =>
      repeat (first | refine go (k := ?_) | (refine goB (k := ?_); intro b) | (refine goA (k := ?_); intro ao cap))
      refine End.done1 (k : Int) (by exact rfl) (by exact rfl) rfl ?_ hpx .back1
      have : l.any p = true := List.any_eq_true.2 ⟨_, hx, hp⟩
      rw [this]
      simp
    | false =>
      repeat (first | refine go (k := ?_) | (refine goB (k := ?_); intro b) | (refine goA (k := ?_); intro ao cap))
      refine End.round hK (k + 1) ⟨by omega, fun j hj => ?_⟩ (by omega) sb .back
      by_cases hjk : j = k
      · subst hjk; exact hp
      · exact hfn j (by omega)
  · repeat (first | refine go (k := ?_) | (refine goB (k := ?_); intro b) | (refine goA (k := ?_); intro ao cap))
    refine End.done1 (-1 : Int) (by exact rfl) (by exact rfl) rfl ?_ hpx (.cons .head (.skip (.skip (.all _))))
    have : l.any p = false := by
      rw [List.any_eq_false]
      intro x hx
      obtain ⟨j, hj, rfl⟩ := List.getElem_of_mem hx
      have := hfn j (by omega)
      rw [List.getD_eq_getElem?_getD, List.getElem?_eq_getElem hj] at this
      simpa using this
    rw [this]
    rfl

set_option maxRecDepth 100000 in
theorem containsFuncN_is (ao : Option Addr) (n cap : Nat) (l : List ImgM.Ins) (hn : l.length = n) (hm : n ≤ 9223372036854775807) (f : FuncId) (cp : List Value) (r : Chunk) (hr : r.excl = false) (pre : List Chunk) (hpx : ∀ c ∈ pre, c.excl = true) (p : ImgM.Ins → Bool) (hc : callB Try.prog f = true)
    (hf : ∀ x ∈ l, Fn Try.prog f (#[.agg (insC x).toArray] ++ cp.toArray) [r] pre (σ := Unit) (fun _ => True) (fun _ => .bool (p x)) (fun _ => pre)) :
    Fn Try.prog 46 #[.slice ao n cap, .func (.func f) #[] cp.toArray] [rd ao n cap insC l, r] pre (σ := Unit) (fun _ => True) (fun _ => .bool (l.any p)) (fun _ => pre) := by
  refine Fn.enter (args := [.slice ao n cap, .func (.func f) #[] cp.toArray]) Try.func46 rfl _ Try.ntmps46 rfl (by simp [rd_excl, hr]) (fun w S => ?_)
  (try conv => rhs; simp only [List.cons_append, List.nil_append])
  repeat (first | refine go (k := ?_) | (refine goB (k := ?_); intro b) | (refine goA (k := ?_); intro ao cap))
  refine Run.op (by exact rfl) (OpT.call0 (hx := by exact rfl) (hv := evz) (hc := by kernel_rfl) (hd := by exact rfl) (spec := indexFuncN_is ao n cap l hn hm f cp r hr pre hpx p hc hf) (t := .skip (.skip (.skip (.all _)))) (r := fun w => .rd tk (.any tk hr .nil)) (k := ?_))
  intro s hs
  repeat (first | refine go (k := ?_) | (refine goB (k := ?_); intro b) | (refine goA (k := ?_); intro ao cap))
  exact End.done1 () (by exact rfl) (by exact rfl) (bool_eq hs) trivial hpx .back1

set_option maxRecDepth 100000 in
theorem index_is (ao : Option Addr) (n cap : Nat) (l : List Int) (hn : l.length = n) (hm : n ≤ 9223372036854775807) (v : Int) :
    Fn Try.prog 103 #[.slice ao n cap, .int .i64 v] [rd ao n cap i64c l] [] (fun s : Int => decide (0 ≤ s) = decide (v ∈ l)) (fun s => .int .i64 s) (fun _ => []) := by
  refine Fn.enter (args := [.slice ao n cap, .int .i64 v]) Try.func103 rfl _ Try.ntmps103 rfl (by simp [rd_excl, md_excl]) (fun w S => ?_)
  (try conv => rhs; simp only [List.cons_append, List.nil_append])
  repeat (first | refine go (k := ?_) | (refine goB (k := ?_); intro b) | (refine goA (k := ?_); intro ao cap))
  apply Cod.loop (σ := Nat) (fun k => k ≤ n ∧ ∀ j, j < k → l.getD j default ≠ v) (fun k => [(0, .slice ao n cap), (1, .int .i64 v), (7, .int .i64 (n : Int)), (8, .int .i64 (k : Int))]) (fun _ => [old w S, rd ao n cap i64c l]) (fun k => n - k) 0
  rotate_left
  exact sb
  exact tks
  intro s hs K hK
  (try conv => rhs; simp only [List.cons_append, List.nil_append])
  rotate_left
  · exact ⟨by omega, fun j hj => by omega⟩
  rename Nat => k
  obtain ⟨hk, hfn⟩ := hs
  by_cases h : k < n
  · have hx : l.getD k default ∈ l := by
      rw [List.getD_eq_getElem?_getD, List.getElem?_eq_getElem (by omega : k < l.length)]
      exact List.getElem_mem _
    by_cases hv : v = l.getD k default
    · repeat (first | refine go (k := ?_) | (refine goB (k := ?_); intro b) | (refine goA (k := ?_); intro ao cap))
      (refine End.done1_ ((k : Int)) (he := by (first | exact rfl | (refine congrArg (Value.int _) ?_; omega) | (refine congrArg (Value.int _) ?_; dsimp only; omega))) (hp := ?_))
      rw [hv, decide_eq_true hx]
      simp
    · repeat (first | refine go (k := ?_) | (refine goB (k := ?_); intro b) | (refine goA (k := ?_); intro ao cap))
      refine End.round_ hK (k + 1) ?_ ?_
      · refine ⟨by omega, fun j hj => ?_⟩
        by_cases hjk : j = k
        · subst hjk; exact fun h => hv h.symm
        · exact hfn j (by omega)
      · omega
  · repeat (first | refine go (k := ?_) | (refine goB (k := ?_); intro b) | (refine goA (k := ?_); intro ao cap))
    (refine End.done1_ ((-1 : Int)) (he := by (first | exact rfl | (refine congrArg (Value.int _) ?_; omega) | (refine congrArg (Value.int _) ?_; dsimp only; omega))) (hp := ?_))
    have : v ∉ l := by
      intro hx
      obtain ⟨j, hj, rfl⟩ := List.getElem_of_mem hx
      have := hfn j (by omega)
      rw [List.getD_eq_getElem?_getD, List.getElem?_eq_getElem hj] at this
      simp at this
    simp [this]

set_option maxRecDepth 100000 in
theorem contains_is (ao : Option Addr) (n cap : Nat) (l : List Int) (hn : l.length = n) (hm : n ≤ 9223372036854775807) (v : Int) :
    Fn Try.prog 84 #[.slice ao n cap, .int .i64 v] [rd ao n cap i64c l] [] (σ := Unit) (fun _ => True) (fun _ => .bool (decide (v ∈ l))) (fun _ => []) := by
  refine Fn.enter (args := [.slice ao n cap, .int .i64 v]) Try.func84 rfl _ Try.ntmps84 rfl (by simp [rd_excl, md_excl]) (fun w S => ?_)
  (try conv => rhs; simp only [List.cons_append, List.nil_append])
  repeat (first | refine go (k := ?_) | (refine goB (k := ?_); intro b) | (refine goA (k := ?_); intro ao cap))
  (apply Run.op; exact rfl; refine OpT.call0_ (spec := index_is ao n cap l hn hm v) (k := ?_); intro s hs; (try conv => rhs; simp only [List.cons_append, List.nil_append]))
  repeat (first | refine go (k := ?_) | (refine goB (k := ?_); intro b) | (refine goA (k := ?_); intro ao cap))
  (refine End.done1_ (()) (he := by exact bool_eq hs) (hp := ?_))
  trivial

theorem list_ext {l l' : List Int} (n : Nat) (hn : l.length = n) (hm : l'.length = n) (h : ∀ j, j < n → l.getD j default = l'.getD j default) : l = l' :=
  List.ext_getElem (by omega) (fun j h1 h2 => by have := h j (by omega); simpa [List.getD_eq_getElem?_getD, h1, h2] using this)
set_option maxRecDepth 100000 in
theorem equal_is (ao bo : Option Addr) (n m cap cap' : Nat) (l l' : List Int) (hn : l.length = n) (hm : l'.length = m) (hn2 : n ≤ 9223372036854775807) (hm2 : m ≤ 9223372036854775807) :
    Fn Try.prog 77 #[.slice ao n cap, .slice bo m cap'] [rd ao n cap i64c l, rd bo m cap' i64c l'] [] (σ := Unit) (fun _ => True) (fun _ => .bool (decide (l = l'))) (fun _ => []) := by
  refine Fn.enter (args := [.slice ao n cap, .slice bo m cap']) Try.func77 rfl _ Try.ntmps77 rfl (by simp [rd_excl, md_excl]) (fun w S => ?_)
  (try conv => rhs; simp only [List.cons_append, List.nil_append])
  by_cases hnm : n = m
  · subst hnm
    repeat (first | refine go (k := ?_) | (refine goB (k := ?_); intro b) | (refine goA (k := ?_); intro ao cap))
    apply Cod.loop (σ := Nat) (fun k => k ≤ n ∧ ∀ j, j < k → l.getD j default = l'.getD j default) (fun k => [(0, .slice ao n cap), (1, .slice bo n cap'), (12, .int .i64 (n : Int)), (13, .int .i64 (k : Int))]) (fun _ => [old w S, rd ao n cap i64c l, rd bo n cap' i64c l']) (fun k => n - k) 0
    rotate_left
    exact sb
    exact tks
    intro s hs K hK
    (try conv => rhs; simp only [List.cons_append, List.nil_append])
    rotate_left
    · exact ⟨by omega, fun j hj => by omega⟩
    rename Nat => k
    obtain ⟨hk, hfn⟩ := hs
    by_cases h : k < n
    · by_cases hv : l.getD k default = l'.getD k default
      · repeat (first | refine go (k := ?_) | (refine goB (k := ?_); intro b) | (refine goA (k := ?_); intro ao cap))
        refine End.round_ hK (k + 1) ?_ ?_
        · refine ⟨by omega, fun j hj => ?_⟩
          by_cases hjk : j = k
          · subst hjk; exact hv
          · exact hfn j (by omega)
        · omega
      · repeat (first | refine go (k := ?_) | (refine goB (k := ?_); intro b) | (refine goA (k := ?_); intro ao cap))
        (refine End.done1_ (()) (he := by exact bool_eq (Eq.symm (decide_eq_false (fun h => hv (by rw [h]))))) (hp := ?_))
        trivial
    · repeat (first | refine go (k := ?_) | (refine goB (k := ?_); intro b) | (refine goA (k := ?_); intro ao cap))
      (refine End.done1_ (()) (he := by exact bool_eq (Eq.symm (decide_eq_true (list_ext n hn hm (fun j hj => hfn j (by omega)))))) (hp := ?_))
      trivial
  · repeat (first | refine go (k := ?_) | (refine goB (k := ?_); intro b) | (refine goA (k := ?_); intro ao cap))
    (refine End.done1_ (()) (he := by exact bool_eq (Eq.symm (decide_eq_false (fun h => hnm (by rw [← hn, ← hm, h]))))) (hp := ?_))
    trivial
end Go.Proofs.Ytfeajpghabjaaaa.Vw

/- slices.Clone, walked; verify's forms. -/
namespace Go.Proofs.Ytfeajpghabjaaaa.Vw
open Go.RowKit Go.Proofs.Ytfeajpghabjaaaa.Img
set_option linter.unusedVariables false
set_option linter.unusedSimpArgs false
attribute [local irreducible] Run Cod End OpT Still RunQ RunS RunT Fn PutOk

set_option maxRecDepth 100000 in
theorem cloneI_is (ao : Option Addr) (n cap : Nat) (l : List Int) (hn : l.length = n) (hm : n ≤ 1000000000) :
    Fn Try.prog 17 #[.slice ao n cap] [rd ao n cap i64c l] [] (σ := Option Addr × Nat) (fun _ => True) (fun s => .slice s.1 n s.2) (fun s => [arr s.1 n s.2 3 i64c l]) := by
  refine Fn.enter (args := [.slice ao n cap]) Try.func17 rfl _ Try.ntmps17 rfl (by simp [rd_excl, md_excl]) (fun w S => ?_)
  (try conv => rhs; simp only [List.cons_append, List.nil_append])
  cases ao with
  | none =>
    apply Cod.fact (n = 0) (fun w hm => by
      obtain ⟨⟨-, -, ao', cap', he, -, h4⟩, -⟩ := rd_holds.1 (hm.has (.tail .head))
      rcases Nat.eq_zero_or_pos n with h | h
      · exact h
      · obtain ⟨b, off, rfl, -⟩ := h4 h
        simp at he)
    rintro rfl
    obtain rfl : l = [] := List.eq_nil_of_length_eq_zero hn
    repeat (first | refine go (k := ?_) | (refine goB (k := ?_); intro b) | (refine goA (k := ?_); intro ao cap))
    apply End.imp (fun w hm => hm.nilArr 3 i64c)
    (refine End.done1_ ((none, 0)) (he := by (first | exact rfl | (refine congrArg (Value.int _) ?_; omega) | (refine congrArg (Value.int _) ?_; dsimp only; omega))) (hp := ?_))
    trivial
  | some a0 =>
    repeat (first | refine go (k := ?_) | (refine goB (k := ?_); intro b) | (refine goA (k := ?_); intro ao cap))
    apply Run.imp (fun w hm => hm.toArr .head ([] : List Int) rfl rfl (by unfold maxLen; simp))
    repeat (first | refine go (k := ?_) | (refine goB (k := ?_); intro b) | (refine goA (k := ?_); intro ao cap))
    apply Run.op (by exact rfl)
    refine OpT.appendS_ (k := ?_)
    intro ao cap
    simp only [Nat.zero_add, List.nil_append]
    repeat (first | refine go (k := ?_) | (refine goB (k := ?_); intro b) | (refine goA (k := ?_); intro ao cap))
    (refine End.done1_ ((_, _)) (he := by (first | exact rfl | (refine congrArg (Value.int _) ?_; omega) | (refine congrArg (Value.int _) ?_; dsimp only; omega))) (hp := ?_))
    trivial

set_option maxRecDepth 100000 in
theorem cloneB_is (ao : Option Addr) (n cap : Nat) (l : List Bool) (hn : l.length = n) (hm : n ≤ 1000000000) :
    Fn Try.prog 78 #[.slice ao n cap] [rd ao n cap boolc l] [] (σ := Option Addr × Nat) (fun _ => True) (fun s => .slice s.1 n s.2) (fun s => [arr s.1 n s.2 4 boolc l]) := by
  refine Fn.enter (args := [.slice ao n cap]) Try.func78 rfl _ Try.ntmps78 rfl (by simp [rd_excl, md_excl]) (fun w S => ?_)
  (try conv => rhs; simp only [List.cons_append, List.nil_append])
  cases ao with
  | none =>
    apply Cod.fact (n = 0) (fun w hm => by
      obtain ⟨⟨-, -, ao', cap', he, -, h4⟩, -⟩ := rd_holds.1 (hm.has (.tail .head))
      rcases Nat.eq_zero_or_pos n with h | h
      · exact h
      · obtain ⟨b, off, rfl, -⟩ := h4 h
        simp at he)
    rintro rfl
    obtain rfl : l = [] := List.eq_nil_of_length_eq_zero hn
    repeat (first | refine go (k := ?_) | (refine goB (k := ?_); intro b) | (refine goA (k := ?_); intro ao cap))
    apply End.imp (fun w hm => hm.nilArr 4 boolc)
    (refine End.done1_ ((none, 0)) (he := by (first | exact rfl | (refine congrArg (Value.int _) ?_; omega) | (refine congrArg (Value.int _) ?_; dsimp only; omega))) (hp := ?_))
    trivial
  | some a0 =>
    repeat (first | refine go (k := ?_) | (refine goB (k := ?_); intro b) | (refine goA (k := ?_); intro ao cap))
    apply Run.imp (fun w hm => hm.toArr .head ([] : List Bool) rfl rfl (by unfold maxLen; simp))
    repeat (first | refine go (k := ?_) | (refine goB (k := ?_); intro b) | (refine goA (k := ?_); intro ao cap))
    apply Run.op (by exact rfl)
    refine OpT.appendS_ (k := ?_)
    intro ao cap
    simp only [Nat.zero_add, List.nil_append]
    repeat (first | refine go (k := ?_) | (refine goB (k := ?_); intro b) | (refine goA (k := ?_); intro ao cap))
    (refine End.done1_ ((_, _)) (he := by (first | exact rfl | (refine congrArg (Value.int _) ?_; omega) | (refine congrArg (Value.int _) ?_; dsimp only; omega))) (hp := ?_))
    trivial

/-- where unit k of a module lies -/
abbrev up (m : ML) (k : Nat) : Value := .pointer (place (sz ucell) m.uo k 0)
abbrev insV (i : ImgM.Ins) : Value := .agg (insC i).toArray
set_option maxRecDepth 100000 in
set_option maxHeartbeats 1000000 in
theorem instr_is (cb mb : Nat) (m : ML) (k : Nat) (hk : k < m.us.length) (i : ImgM.Ins) : Fn Try.prog 39 #[ptr cb, up m k, insV i] [md m] (ck cb mb m) (σ := Unit) (fun _ => True) (fun _ => .int .i64 (Ver.instr m.mdl (m.us.getD k default).u i)) (fun _ => ck cb mb m) := by
  refine Fn.enter (args := [ptr cb, up m k, insV i]) Try.func39 rfl _ Try.ntmps39 rfl (by simp [rd_excl, md_excl]) (fun w S => ?_)
  (try conv => rhs; simp only [List.cons_append, List.nil_append])
  repeat' (first | ((first | (apply Run.op; exact rfl) | refine Run.yes_ (h := ?_)); refine OpT.call0_ (spec := unit_is cb mb m _ _) (k := ?_); intro s hs; (try conv => rhs; simp only [List.cons_append, List.nil_append])) | refine go (k := ?_) | (refine goB (k := ?_); intro b) | (refine goA (k := ?_); intro ao cap) | refine goQ (k := fun h => ?_) (k' := fun h => ?_) | fail)
  all_goals ((refine End.done1_ (()) (he := by refine int_eq ?_; unfold Ver.instr; (first | (simp [Ver.rng, ML.mdl, *]; done) | ((try simp only [Ver.rng, ML.mdl]); (repeat' split); all_goals (first | rfl | omega | (simp_all; done) | (simp_all; omega))))) (hp := ?_)); trivial)

end Go.Proofs.Ytfeajpghabjaaaa.Vw

/- What two words come to: vm.Two and vm.truth, walked. -/
namespace Go.Proofs.Ytfeajpghabjaaaa.Vw
open Go.RowKit Go.Proofs.Ytfeajpghabjaaaa.Img
set_option linter.unusedVariables false
set_option linter.unusedSimpArgs false
attribute [local irreducible] Run Cod End OpT Still RunQ RunS RunT Fn PutOk
set_option maxRecDepth 100000 in
theorem truth_is (t : Bool) : Fn Try.prog 90 #[.bool t] [] [] (σ := Unit) (fun _ => True) (fun _ => .int .i64 (Opt.yes t)) (fun _ => []) := by
  refine Fn.enter (args := [.bool t]) Try.func90 rfl _ Try.ntmps90 rfl (by simp [rd_excl, md_excl]) (fun w S => ?_)
  (try conv => rhs; simp only [List.cons_append, List.nil_append])
  cases t with
  | true => 
    repeat (first | refine go (k := ?_) | (refine goB (k := ?_); intro b) | (refine goA (k := ?_); intro ao cap))
    (refine End.done1_ (()) (he := by (first | exact rfl | (refine congrArg (Value.int _) ?_; omega) | (refine congrArg (Value.int _) ?_; dsimp only; omega))) (hp := ?_))
    trivial
  | false => 
    repeat (first | refine go (k := ?_) | (refine goB (k := ?_); intro b) | (refine goA (k := ?_); intro ao cap))
    (refine End.done1_ (()) (he := by (first | exact rfl | (refine congrArg (Value.int _) ?_; omega) | (refine congrArg (Value.int _) ?_; dsimp only; omega))) (hp := ?_))
    trivial
theorem min_div1 {op : Int} (h : op = 11) (a : Int) (ha : a = -9223372036854775808) : IntKind.i64.wrap (Opt.yes (decide (op = 11)) * a) = a := by
  subst ha h; decide
theorem min_div2 {op : Int} (h : op = 12) (a : Int) (ha : a = -9223372036854775808) : IntKind.i64.wrap (Opt.yes (decide (op = 11)) * a) = 0 := by
  subst ha h; decide
set_option maxRecDepth 100000 in
set_option maxHeartbeats 1000000 in
theorem two2_is (op a b : Int) (ha : ImgM.In64 a) (hb : ImgM.In64 b) (h0 : op = 11 ∨ op = 12 → b ≠ 0) : Fn Try.prog 54 #[.int .i64 op, .int .i64 a, .int .i64 b] [] [] (σ := Unit) (fun _ => True) (fun _ => .int .i64 (Opt.two2 op a b)) (fun _ => []) := by
  unfold ImgM.In64 at ha hb
  refine Fn.enter (args := [.int .i64 op, .int .i64 a, .int .i64 b]) Try.func54 rfl _ Try.ntmps54 rfl (by simp [rd_excl, md_excl]) (fun w S => ?_)
  (try conv => rhs; simp only [List.cons_append, List.nil_append])
  repeat' (first | ((first | (apply Run.op; exact rfl) | refine Run.yes_ (h := ?_)); refine OpT.call0_ (spec := truth_is _) (k := ?_); intro s hs; (try conv => rhs; simp only [List.cons_append, List.nil_append])) | (apply Run.op; exact rfl; refine OpT.val_ (h := by (apply Still.quo; exact rfl; exact rfl; (exact h0 (by omega)); exact rfl)) (k := ?_)) | (apply Run.op; exact rfl; refine OpT.val_ (h := by (apply Still.rem; exact rfl; exact rfl; (exact h0 (by omega)); exact rfl)) (k := ?_)) | refine go (k := ?_) | (refine goB (k := ?_); intro b) | (refine goA (k := ?_); intro ao cap) | refine goQ (k := fun h => ?_) (k' := fun h => ?_) | fail)
  all_goals ((refine End.done1_ (()) (he := by (refine int_eq ?_; unfold Opt.two2; (repeat (first | rw [if_neg (by omega)] | rw [if_pos (by omega)])); first | done | (refine min_div1 (op := op) ?_ _ ?_ <;> first | assumption | omega) | (refine min_div2 (op := op) ?_ _ ?_ <;> first | assumption | omega))) (hp := ?_)); trivial)
theorem wrap_in (a : Int) : ImgM.In64 (IntKind.i64.wrap a) := by
  unfold ImgM.In64 IntKind.wrap
  simp [IntKind.bits, IntKind.signed]
  omega
theorem yes_in64 (b : Bool) : ImgM.In64 (Opt.yes b) := by cases b <;> (unfold ImgM.In64 Opt.yes; omega)
theorem two2_in {op a b : Int} (ha : ImgM.In64 a) (hb : ImgM.In64 b) (h0 : op = 11 ∨ op = 12 → b ≠ 0) : ImgM.In64 (Opt.two2 op a b) := by
  unfold Opt.two2
  repeat' split
  all_goals first | exact wrap_in _ | exact yes_in64 _ | exact ha | (unfold ImgM.In64; omega) | skip
  · have h1 := Int.natAbs_tmod a b
    have h2 : a.natAbs % b.natAbs < b.natAbs := Nat.mod_lt _ (by have := h0 (by omega); omega)
    unfold ImgM.In64 at *
    omega
  all_goals (unfold bits; exact wrap_in _)
end Go.Proofs.Ytfeajpghabjaaaa.Vw

/- Package opt, walked: what two words come to, known words, pieces. -/
namespace Go.Proofs.Ytfeajpghabjaaaa.Vw
open Go.RowKit Go.Proofs.Ytfeajpghabjaaaa.Img
set_option linter.unusedVariables false
set_option linter.unusedSimpArgs false
attribute [local irreducible] Run Cod End OpT Still RunQ RunS RunT Fn PutOk
set_option maxRecDepth 100000 in
theorem constant_is (i : ImgM.Ins) (ha : ImgM.In64 i.a) : Fn Try.prog 106 #[insV i] [] [] (σ := Unit) (fun _ => True) (fun _ => .tuple #[.int .i64 (Opt.cval i), .bool (Opt.isC i)]) (fun _ => []) := by
  unfold ImgM.In64 at ha
  refine Fn.enter (args := [insV i]) Try.func106 rfl _ Try.ntmps106 rfl (by simp [rd_excl, md_excl]) (fun w S => ?_)
  (try conv => rhs; simp only [List.cons_append, List.nil_append])
  repeat' (first | refine go (k := ?_) | (refine goB (k := ?_); intro b) | (refine goA (k := ?_); intro ao cap) | refine goQ (k := fun h => ?_) (k' := fun h => ?_) | fail)
  all_goals ((refine End.done2_ () (he := by (first | (simp [Opt.cval, Opt.isC, *]; done) | (simp_all [Opt.cval, Opt.isC]; done))) (hp := ?_)); trivial)
set_option maxRecDepth 100000 in
theorem known_is (v : Int) (t : Bool) (hv : ImgM.In64 v) : Fn Try.prog 107 #[.int .i64 v, .bool t] [] [] (σ := Nat) (fun _ => True) (fun b => .slice (some ⟨b, 0, none⟩) 1 1) (fun b => [arr (some ⟨b, 0, none⟩) 1 1 57 insC (Opt.known v t)]) := by
  unfold ImgM.In64 at hv
  refine Fn.enter (args := [.int .i64 v, .bool t]) Try.func107 rfl _ Try.ntmps107 rfl (by simp [rd_excl, md_excl]) (fun w S => ?_)
  (try conv => rhs; simp only [List.cons_append, List.nil_append])
  cases t
  all_goals (repeat' (first | refine go (k := ?_) | (refine goB (k := ?_); intro b) | (refine goA (k := ?_); intro ao cap) | refine goQ (k := fun h => ?_) (k' := fun h => ?_) | fail))
  · apply End.imp (fun w hm => Mem.toArr (b := b) (e := 57) (f := insC) (n := 1) hm (by (repeat (first | exact Take.head | apply Take.tail))) (Opt.known v false) rfl rfl (by unfold maxLen; simp))
    (refine End.done1_ (b) (he := by (first | exact rfl | (refine congrArg (Value.int _) ?_; omega) | (refine congrArg (Value.int _) ?_; dsimp only; omega))) (hp := ?_))
    trivial
  · apply End.imp (fun w hm => Mem.toArr (b := b) (e := 57) (f := insC) (n := 1) hm (by (repeat (first | exact Take.head | apply Take.tail))) (Opt.known v true) rfl rfl (by unfold maxLen; simp))
    (refine End.done1_ (b) (he := by (first | exact rfl | (refine congrArg (Value.int _) ?_; omega) | (refine congrArg (Value.int _) ?_; dsimp only; omega))) (hp := ?_))
    trivial
theorem cval_in {i : ImgM.Ins} (ha : ImgM.In64 i.a) (hn : ImgM.In64 i.n) : ImgM.In64 (Opt.cval i) := by
  unfold Opt.cval
  split
  · exact hn
  · split
    · exact ha
    · unfold ImgM.In64; omega
end Go.Proofs.Ytfeajpghabjaaaa.Vw
