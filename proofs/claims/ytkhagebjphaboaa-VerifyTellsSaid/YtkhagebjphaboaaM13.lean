/- The program's types, as far as the walks ask for them. Printed by a program of mine out of the seat's translation. -/
import Derived.Test.YtkhagebjphaboaaM12
import Derived.Test.YtkhagebjphaboaaChecked
namespace Go.Proofs.Ytkhagebjphaboaa
open Go

def tab : List (TypeId × TyI) := [
  (1, ⟨.other, 1, 8, [.nilFunc]⟩),
  (2, ⟨.int .i64, 1, 8, [.int .i64 0]⟩),
  (3, ⟨.int .i64, 1, 8, [.int .i64 0]⟩),
  (4, ⟨.bool, 1, 1, [.bool false]⟩),
  (5, ⟨.int .u8, 1, 1, [.int .u8 0]⟩),
  (9, ⟨.string, 1, 16, [.string ⟨#[]⟩]⟩),
  (12, ⟨.int .u64, 1, 8, [.int .u64 0]⟩),
  (15, ⟨.pointer 97, 1, 8, [.pointer none]⟩),
  (16, ⟨.pointer 100, 1, 8, [.pointer none]⟩),
  (17, ⟨.pointer 109, 1, 8, [.pointer none]⟩),
  (20, ⟨.other, 1, 16, [.nilIface]⟩),
  (21, ⟨.int .i32, 1, 4, [.int .i32 0]⟩),
  (22, ⟨.slice 37, 1, 24, [.slice none 0 0]⟩),
  (23, ⟨.slice 35, 1, 24, [.slice none 0 0]⟩),
  (24, ⟨.struct [(0, 22), (1, 23)], 2, 48, [.slice none 0 0, .slice none 0 0]⟩),
  (25, ⟨.struct [(0, 22), (1, 23)], 2, 48, [.slice none 0 0, .slice none 0 0]⟩),
  (26, ⟨.int .i64, 1, 8, [.int .i64 0]⟩),
  (27, ⟨.struct [(0, 26), (1, 3), (2, 3)], 3, 24, [.int .i64 0, .int .i64 0, .int .i64 0]⟩),
  (28, ⟨.struct [(0, 26), (1, 3), (2, 3)], 3, 24, [.int .i64 0, .int .i64 0, .int .i64 0]⟩),
  (29, ⟨.other, 1, 8, [.nilFunc]⟩),
  (30, ⟨.other, 1, 8, [.nilFunc]⟩),
  (31, ⟨.other, 1, 8, [.nilFunc]⟩),
  (32, ⟨.slice 3, 1, 24, [.slice none 0 0]⟩),
  (33, ⟨.slice 41, 1, 24, [.slice none 0 0]⟩),
  (34, ⟨.struct [(0, 3), (1, 3), (2, 32), (3, 3), (4, 3), (5, 33)], 6, 80, [.int .i64 0, .int .i64 0, .slice none 0 0, .int .i64 0, .int .i64 0, .slice none 0 0]⟩),
  (35, ⟨.struct [(0, 3), (1, 3), (2, 32), (3, 3), (4, 3), (5, 33)], 6, 80, [.int .i64 0, .int .i64 0, .slice none 0 0, .int .i64 0, .int .i64 0, .slice none 0 0]⟩),
  (36, ⟨.struct [(0, 3), (1, 3)], 2, 16, [.int .i64 0, .int .i64 0]⟩),
  (37, ⟨.struct [(0, 3), (1, 3)], 2, 16, [.int .i64 0, .int .i64 0]⟩),
  (38, ⟨.other, 1, 8, [.nilFunc]⟩),
  (39, ⟨.pointer 35, 1, 8, [.pointer none]⟩),
  (40, ⟨.struct [(0, 3), (1, 3), (2, 2)], 3, 24, [.int .i64 0, .int .i64 0, .int .i64 0]⟩),
  (41, ⟨.struct [(0, 3), (1, 3), (2, 2)], 3, 24, [.int .i64 0, .int .i64 0, .int .i64 0]⟩),
  (42, ⟨.other, 1, 8, [.nilFunc]⟩),
  (43, ⟨.pointer 46, 1, 8, [.pointer none]⟩),
  (44, ⟨.pointer 25, 1, 8, [.pointer none]⟩),
  (45, ⟨.struct [(0, 44)], 1, 8, [.pointer none]⟩),
  (46, ⟨.struct [(0, 44)], 1, 8, [.pointer none]⟩),
  (47, ⟨.other, 1, 8, [.nilFunc]⟩),
  (48, ⟨.other, 1, 8, [.nilFunc]⟩),
  (49, ⟨.other, 1, 8, [.nilFunc]⟩),
  (50, ⟨.other, 1, 8, [.nilFunc]⟩),
  (51, ⟨.other, 1, 8, [.nilFunc]⟩),
  (52, ⟨.other, 1, 8, [.nilFunc]⟩),
  (53, ⟨.other, 1, 8, [.nilFunc]⟩),
  (54, ⟨.pointer 60, 1, 8, [.pointer none]⟩),
  (55, ⟨.map 3 58, 1, 8, [.map none]⟩),
  (56, ⟨.slice 4, 1, 24, [.slice none 0 0]⟩),
  (57, ⟨.struct [(0, 32), (1, 56)], 2, 48, [.slice none 0 0, .slice none 0 0]⟩),
  (58, ⟨.struct [(0, 32), (1, 56)], 2, 48, [.slice none 0 0, .slice none 0 0]⟩),
  (59, ⟨.struct [(0, 43), (1, 39), (2, 55), (3, 32), (4, 58), (6, 26)], 7, 104, [.pointer none, .pointer none, .map none, .slice none 0 0, .slice none 0 0, .slice none 0 0, .int .i64 0]⟩),
  (60, ⟨.struct [(0, 43), (1, 39), (2, 55), (3, 32), (4, 58), (6, 26)], 7, 104, [.pointer none, .pointer none, .map none, .slice none 0 0, .slice none 0 0, .slice none 0 0, .int .i64 0]⟩),
  (61, ⟨.other, 1, 8, [.nilFunc]⟩),
  (62, ⟨.other, 1, 8, [.nilFunc]⟩),
  (63, ⟨.other, 1, 8, [.nilFunc]⟩),
  (64, ⟨.other, 1, 8, [.nilFunc]⟩),
  (65, ⟨.other, 1, 8, [.nilFunc]⟩),
  (66, ⟨.other, 1, 8, [.nilFunc]⟩),
  (67, ⟨.other, 1, 8, [.nilFunc]⟩),
  (68, ⟨.other, 1, 8, [.nilFunc]⟩),
  (69, ⟨.slice 71, 1, 24, [.slice none 0 0]⟩),
  (70, ⟨.struct [(0, 4), (1, 9), (2, 56)], 3, 48, [.bool false, .string ⟨#[]⟩, .slice none 0 0]⟩),
  (71, ⟨.struct [(0, 4), (1, 9), (2, 56)], 3, 48, [.bool false, .string ⟨#[]⟩, .slice none 0 0]⟩),
  (72, ⟨.other, 1, 8, [.nilFunc]⟩),
  (74, ⟨.other, 1, 8, [.nilFunc]⟩),
  (75, ⟨.slice 5, 1, 24, [.slice none 0 0]⟩),
  (76, ⟨.other, 1, 8, [.nilFunc]⟩),
  (78, ⟨.other, 1, 8, [.nilFunc]⟩),
  (79, ⟨.pointer 71, 1, 8, [.pointer none]⟩),
  (80, ⟨.other, 1, 8, [.nilFunc]⟩),
  (81, ⟨.other, 1, 8, [.nilFunc]⟩),
  (83, ⟨.other, 1, 8, [.nilFunc]⟩),
  (84, ⟨.other, 1, 8, [.nilFunc]⟩),
  (85, ⟨.other, 1, 8, [.nilFunc]⟩),
  (86, ⟨.other, 1, 8, [.nilFunc]⟩),
  (87, ⟨.other, 1, 8, [.nilFunc]⟩),
  (88, ⟨.other, 1, 8, [.nilFunc]⟩),
  (89, ⟨.other, 1, 8, [.nilFunc]⟩),
  (90, ⟨.other, 1, 8, [.nilFunc]⟩),
  (91, ⟨.other, 1, 8, [.nilFunc]⟩),
  (92, ⟨.other, 1, 8, [.nilFunc]⟩),
  (93, ⟨.other, 1, 8, [.nilFunc]⟩),
  (94, ⟨.other, 1, 8, [.nilFunc]⟩),
  (95, ⟨.other, 1, 8, [.nilFunc]⟩),
  (101, ⟨.int .u32, 1, 4, [.int .u32 0]⟩),
  (104, ⟨.other, 1, 8, [.nilFunc]⟩),
  (105, ⟨.pointer 5, 1, 8, [.pointer none]⟩),
  (108, ⟨.struct [(0, 12), (1, 12), (2, 101), (3, 102), (4, 5), (5, 5), (6, 103), (7, 104), (8, 105), (9, 106), (10, 107)], 11, 48, [.int .u64 0, .int .u64 0, .int .u32 0, .int .u8 0, .int .u8 0, .int .u8 0, .int .u8 0, .nilFunc, .pointer none, .int .i32 0, .int .i32 0]⟩)
]

theorem tab_ok : ∀ p ∈ tab, TyOk Try.prog p.1 p.2 := by
  unfold tab
  repeat (refine List.forall_mem_cons.2 ⟨⟨by kernel_rfl, by kernel_rfl⟩, ?_⟩)
  simp

instance : Tabbed Try.prog := ⟨tab, tab_ok⟩
end Go.Proofs.Ytkhagebjphaboaa

/- Package verify, walked: what is asked of types, units, instructions, heads. -/
namespace Go.Proofs.Ytkhagebjphaboaa.Vw
open Go.RowKit Go.Proofs.Ytkhagebjphaboaa.Img
set_option linter.unusedVariables false
set_option linter.unusedSimpArgs false
attribute [local irreducible] Run Cod End OpT Still RunQ RunS RunT Fn PutOk

/-- a checker, and its module's variable -/
abbrev ck (cb mb : Nat) (m : ML) : List Chunk := [blk cb [.pointer (some ⟨mb, 0, none⟩)] 46, blk mb [.slice m.bo m.bx.length m.bc, .slice m.uo m.us.length m.uc] 25]
abbrev ptr (b : Nat) : Value := .pointer (some ⟨b, 0, none⟩)
theorem bool_eq {a b : Bool} (h : a = b) : Value.bool a = Value.bool b := by rw [h]
theorem int_eq {k : IntKind} {a b : Int} (h : a = b) : Value.int k a = Value.int k b := by rw [h]

set_option maxRecDepth 100000 in
theorem plain_is (t : Int) : Fn Try.prog 16 #[.int .i64 t] [] [] (σ := Unit) (fun _ => True) (fun _ => .bool (Ver.plain t)) (fun _ => []) := by
  refine Fn.enter (args := [.int .i64 t]) Try.func16 rfl _ Try.ntmps16 rfl (by simp [rd_excl, md_excl]) (fun w S => ?_)
  (try conv => rhs; simp only [List.cons_append, List.nil_append])
  repeat' (first | refine go (k := ?_) | (refine goB (k := ?_); intro b) | (refine goA (k := ?_); intro ao cap) | refine goQ (k := fun h => ?_) (k' := fun h => ?_) | fail)
  all_goals ((refine End.done1_ (()) (he := by refine bool_eq ?_; (first | (simp [Ver.plain, *]; done) | (simp [Ver.plain]; omega) | (rw [Bool.eq_iff_iff]; simp [Ver.plain]; omega) | (simp [Ver.plain, *]; intros; omega))) (hp := ?_)); trivial)

set_option maxRecDepth 100000 in
theorem unit_is (cb mb : Nat) (m : ML) (i k : Int) : Fn Try.prog 36 #[ptr cb, .int .i64 i, .int .i64 k] [md m] (ck cb mb m) (σ := Unit) (fun _ => True) (fun _ => .bool (Ver.isUnit m.mdl i k)) (fun _ => ck cb mb m) := by
  refine Fn.enter (args := [ptr cb, .int .i64 i, .int .i64 k]) Try.func36 rfl _ Try.ntmps36 rfl (by simp [rd_excl, md_excl]) (fun w S => ?_)
  (try conv => rhs; simp only [List.cons_append, List.nil_append])
  repeat' (first | refine go (k := ?_) | (refine goB (k := ?_); intro b) | (refine goA (k := ?_); intro ao cap) | refine goQ (k := fun h => ?_) (k' := fun h => ?_) | fail)
  all_goals ((refine End.done1_ (()) (he := by refine bool_eq ?_; (first | (simp [Ver.isUnit, getD_u, *]; done) | (simp [Ver.isUnit, getD_u]; omega) | (rw [Bool.eq_iff_iff]; simp [Ver.isUnit, getD_u]; omega) | (simp [Ver.isUnit, getD_u, *]; intros; omega))) (hp := ?_)); trivial)

set_option maxRecDepth 100000 in
theorem handle_is (cb mb : Nat) (m : ML) (t : Int) (ht : ImgM.In64 t) : Fn Try.prog 35 #[ptr cb, .int .i64 t] [md m] (ck cb mb m) (σ := Unit) (fun _ => True) (fun _ => .bool (Ver.handle m.mdl t)) (fun _ => ck cb mb m) := by
  unfold ImgM.In64 at ht
  refine Fn.enter (args := [ptr cb, .int .i64 t]) Try.func35 rfl _ Try.ntmps35 rfl (by simp [rd_excl, md_excl]) (fun w S => ?_)
  (try conv => rhs; simp only [List.cons_append, List.nil_append])
  repeat' (first | ((first | (apply Run.op; exact rfl) | refine Run.yes_ (h := ?_)); refine OpT.call0_ (spec := unit_is cb mb m _ _) (k := ?_); intro s hs; (try conv => rhs; simp only [List.cons_append, List.nil_append])) | refine go (k := ?_) | (refine goB (k := ?_); intro b) | (refine goA (k := ?_); intro ao cap) | refine goQ (k := fun h => ?_) (k' := fun h => ?_) | fail)
  all_goals ((refine End.done1_ (()) (he := by refine bool_eq ?_; (first | (simp [Ver.handle, *]; done) | (simp [Ver.handle]; omega) | (rw [Bool.eq_iff_iff]; simp [Ver.handle]; omega) | (simp [Ver.handle, *]; intros; omega))) (hp := ?_)); trivial)

set_option maxRecDepth 100000 in
theorem head1_is (cb mb pb : Nat) (m : ML) (t : Int) (ht : ImgM.In64 t) : Fn Try.prog 34 #[.int .i64 t, ptr pb] [md m] (blk pb [ptr cb] 43 :: ck cb mb m) (σ := Unit) (fun _ => True) (fun _ => .bool (!Ver.plain t && !Ver.handle m.mdl t)) (fun _ => blk pb [ptr cb] 43 :: ck cb mb m) := by
  refine Fn.enter (args := [.int .i64 t, ptr pb]) Try.func34 rfl _ Try.ntmps34 rfl (by simp [rd_excl, md_excl]) (fun w S => ?_)
  (try conv => rhs; simp only [List.cons_append, List.nil_append])
  repeat' (first | ((first | (apply Run.op; exact rfl) | refine Run.yes_ (h := ?_)); refine OpT.call0_ (spec := plain_is _) (k := ?_); intro s hs; (try conv => rhs; simp only [List.cons_append, List.nil_append])) | ((first | (apply Run.op; exact rfl) | refine Run.yes_ (h := ?_)); refine OpT.call0_ (spec := handle_is cb mb m _ ht) (k := ?_); intro s hs; (try conv => rhs; simp only [List.cons_append, List.nil_append])) | refine go (k := ?_) | (refine goB (k := ?_); intro b) | (refine goA (k := ?_); intro ao cap) | refine goQ (k := fun h => ?_) (k' := fun h => ?_) | fail)
  all_goals ((refine End.done1_ (()) (he := by refine bool_eq ?_; (first | (simp [*]; done) | (simp []; omega) | (rw [Bool.eq_iff_iff]; simp []; omega) | (simp [*]; intros; omega))) (hp := ?_)); trivial)
end Go.Proofs.Ytkhagebjphaboaa.Vw

/- Functions of package slices, walked. -/
namespace Go.Proofs.Ytkhagebjphaboaa.Vw
open Go.RowKit Go.Proofs.Ytkhagebjphaboaa.Img
set_option linter.unusedVariables false
set_option linter.unusedSimpArgs false
attribute [local irreducible] Run Cod End OpT Still RunQ RunS RunT Fn PutOk

set_option maxRecDepth 100000 in
theorem indexFuncI_is (ao : Option Addr) (n cap : Nat) (l : List Int) (hn : l.length = n) (hm : n ≤ 9223372036854775807) (f : FuncId) (cp : List Value) (r : Chunk) (hr : r.excl = false) (pre : List Chunk) (hpx : ∀ c ∈ pre, c.excl = true) (p : Int → Bool) (hc : callB Try.prog f = true)
    (hf : ∀ x ∈ l, Fn Try.prog f (#[.int .i64 x] ++ cp.toArray) [r] pre (σ := Unit) (fun _ => True) (fun _ => .bool (p x)) (fun _ => pre)) :
    Fn Try.prog 45 #[.slice ao n cap, .func (.func f) #[] cp.toArray] [rd ao n cap i64c l, r] pre (fun s : Int => decide (0 ≤ s) = l.any p) (fun s => .int .i64 s) (fun _ => pre) := by
  refine Fn.enter (args := [.slice ao n cap, .func (.func f) #[] cp.toArray]) Try.func45 rfl _ Try.ntmps45 rfl (by simp [rd_excl, hr]) (fun w S => ?_)
  (try conv => rhs; simp only [List.cons_append, List.nil_append])
  repeat (first | refine go (k := ?_) | (refine goB (k := ?_); intro b) | (refine goA (k := ?_); intro ao cap))
  apply Cod.loop (σ := Nat) (fun k => k ≤ n ∧ ∀ j, j < k → p (l.getD j default) = false) (fun k => [(0, .slice ao n cap), (1, .func (.func f) #[] cp.toArray), (7, .int .i64 (n : Int)), (8, .int .i64 (k : Int))]) (fun _ => old w S :: rd ao n cap i64c l :: r :: pre) (fun k => n - k) 0
  rotate_left
  exact sb
  exact Takes.all _
  intro k hs K hK
  obtain ⟨hk, hfn⟩ := hs
  rotate_left
  exact ⟨by omega, fun j hj => by omega⟩
  simp only [List.append_nil]
  repeat (first | refine go (k := ?_) | (refine goB (k := ?_); intro b) | (refine goA (k := ?_); intro ao cap))
  by_cases h : k < n
  · have hx : l.getD k default ∈ l := by
      rw [List.getD_eq_getElem?_getD, List.getElem?_eq_getElem (by omega : k < l.length)]
      exact List.getElem_mem _
    repeat (first | refine go (k := ?_) | (refine goB (k := ?_); intro b) | (refine goA (k := ?_); intro ao cap))
    refine Run.op (by exact rfl) (OpT.call (hx := by exact rfl) (hv := evz) (hc := hc) (hd := by exact rfl) (spec := hf _ hx) (t := .skip (.skip (.skip (.all _)))) (r := fun w => .any tk hr .nil) (k := ?_))
    intro s hs
    cases hp : p (l.getD k default) with
    | true =>
      repeat (first | refine go (k := ?_) | (refine goB (k := ?_); intro b) | (refine goA (k := ?_); intro ao cap))
      refine End.done1 (k : Int) (by exact rfl) (by exact rfl) rfl ?_ hpx .back1
      have : l.any p = true := List.any_eq_true.2 ⟨_, hx, hp⟩
      rw [this]
      simp
    | false =>
      repeat (first | refine go (k := ?_) | (refine goB (k := ?_); intro b) | (refine goA (k := ?_); intro ao cap))
      refine End.round hK (k + 1) ⟨by omega, fun j hj => ?_⟩ (by omega) sb .back
      by_cases hjk : j = k
      · subst hjk; exact hp
      · exact hfn j (by omega)
  · repeat (first | refine go (k := ?_) | (refine goB (k := ?_); intro b) | (refine goA (k := ?_); intro ao cap))
    refine End.done1 (-1 : Int) (by exact rfl) (by exact rfl) rfl ?_ hpx (.cons .head (.skip (.skip (.all _))))
    have : l.any p = false := by
      rw [List.any_eq_false]
      intro x hx
      obtain ⟨j, hj, rfl⟩ := List.getElem_of_mem hx
      have := hfn j (by omega)
      rw [List.getD_eq_getElem?_getD, List.getElem?_eq_getElem hj] at this
      simpa using this
    rw [this]
    rfl

set_option maxRecDepth 100000 in
theorem containsFuncI_is (ao : Option Addr) (n cap : Nat) (l : List Int) (hn : l.length = n) (hm : n ≤ 9223372036854775807) (f : FuncId) (cp : List Value) (r : Chunk) (hr : r.excl = false) (pre : List Chunk) (hpx : ∀ c ∈ pre, c.excl = true) (p : Int → Bool) (hc : callB Try.prog f = true)
    (hf : ∀ x ∈ l, Fn Try.prog f (#[.int .i64 x] ++ cp.toArray) [r] pre (σ := Unit) (fun _ => True) (fun _ => .bool (p x)) (fun _ => pre)) :
    Fn Try.prog 22 #[.slice ao n cap, .func (.func f) #[] cp.toArray] [rd ao n cap i64c l, r] pre (σ := Unit) (fun _ => True) (fun _ => .bool (l.any p)) (fun _ => pre) := by
  refine Fn.enter (args := [.slice ao n cap, .func (.func f) #[] cp.toArray]) Try.func22 rfl _ Try.ntmps22 rfl (by simp [rd_excl, hr]) (fun w S => ?_)
  (try conv => rhs; simp only [List.cons_append, List.nil_append])
  repeat (first | refine go (k := ?_) | (refine goB (k := ?_); intro b) | (refine goA (k := ?_); intro ao cap))
  refine Run.op (by exact rfl) (OpT.call0 (hx := by exact rfl) (hv := evz) (hc := by kernel_rfl) (hd := by exact rfl) (spec := indexFuncI_is ao n cap l hn hm f cp r hr pre hpx p hc hf) (t := .skip (.skip (.skip (.all _)))) (r := fun w => .rd tk (.any tk hr .nil)) (k := ?_))
  intro s hs
  repeat (first | refine go (k := ?_) | (refine goB (k := ?_); intro b) | (refine goA (k := ?_); intro ao cap))
  exact End.done1 () (by exact rfl) (by exact rfl) (bool_eq hs) trivial hpx .back1

set_option maxRecDepth 100000 in
theorem indexFuncN_is (ao : Option Addr) (n cap : Nat) (l : List ImgM.Ins) (hn : l.length = n) (hm : n ≤ 9223372036854775807) (f : FuncId) (cp : List Value) (r : Chunk) (hr : r.excl = false) (pre : List Chunk) (hpx : ∀ c ∈ pre, c.excl = true) (p : ImgM.Ins → Bool) (hc : callB Try.prog f = true)
    (hf : ∀ x ∈ l, Fn Try.prog f (#[.agg (insC x).toArray] ++ cp.toArray) [r] pre (σ := Unit) (fun _ => True) (fun _ => .bool (p x)) (fun _ => pre)) :
    Fn Try.prog 47 #[.slice ao n cap, .func (.func f) #[] cp.toArray] [rd ao n cap insC l, r] pre (fun s : Int => decide (0 ≤ s) = l.any p) (fun s => .int .i64 s) (fun _ => pre) := by
  refine Fn.enter (args := [.slice ao n cap, .func (.func f) #[] cp.toArray]) Try.func47 rfl _ Try.ntmps47 rfl (by simp [rd_excl, hr]) (fun w S => ?_)
  (try conv => rhs; simp only [List.cons_append, List.nil_append])
  repeat (first | refine go (k := ?_) | (refine goB (k := ?_); intro b) | (refine goA (k := ?_); intro ao cap))
  apply Cod.loop (σ := Nat) (fun k => k ≤ n ∧ ∀ j, j < k → p (l.getD j default) = false) (fun k => [(0, .slice ao n cap), (1, .func (.func f) #[] cp.toArray), (7, .int .i64 (n : Int)), (8, .int .i64 (k : Int))]) (fun _ => old w S :: rd ao n cap insC l :: r :: pre) (fun k => n - k) 0
  rotate_left
  exact sb
  exact Takes.all _
  intro k hs K hK
  obtain ⟨hk, hfn⟩ := hs
  rotate_left
  exact ⟨by omega, fun j hj => by omega⟩
  simp only [List.append_nil]
  repeat (first | refine go (k := ?_) | (refine goB (k := ?_); intro b) | (refine goA (k := ?_); intro ao cap))
  by_cases h : k < n
  · have hx : l.getD k default ∈ l := by
      rw [List.getD_eq_getElem?_getD, List.getElem?_eq_getElem (by omega : k < l.length)]
      exact List.getElem_mem _
    repeat (first | refine go (k := ?_) | (refine goB (k := ?_); intro b) | (refine goA (k := ?_); intro ao cap))
    refine Run.op (by exact rfl) (OpT.call (hx := by exact rfl) (hv := evz) (hc := hc) (hd := by exact rfl) (spec := hf _ hx) (t := .skip (.skip (.skip (.all _)))) (r := fun w => .any tk hr .nil) (k := ?_))
    intro s hs
    cases hp : p (l.getD k default) with
    | true =>
      repeat (first | refine go (k := ?_) | (refine goB (k := ?_); intro b) | (refine goA (k := ?_); intro ao cap))
      refine End.done1 (k : Int) (by exact rfl) (by exact rfl) rfl ?_ hpx .back1
      have : l.any p = true := List.any_eq_true.2 ⟨_, hx, hp⟩
      rw [this]
      simp
    | false =>
      repeat (first | refine go (k := ?_) | (refine goB (k := ?_); intro b) | (refine goA (k := ?_); intro ao cap))
      refine End.round hK (k + 1) ⟨by omega, fun j hj => ?_⟩ (by omega) sb .back
      by_cases hjk : j = k
      · subst hjk; exact hp
      · exact hfn j (by omega)
  · repeat (first | refine go (k := ?_) | (refine goB (k := ?_); intro b) | (refine goA (k := ?_); intro ao cap))
    refine End.done1 (-1 : Int) (by exact rfl) (by exact rfl) rfl ?_ hpx (.cons .head (.skip (.skip (.all _))))
    have : l.any p = false := by
      rw [List.any_eq_false]
      intro x hx
      obtain ⟨j, hj, rfl⟩ := List.getElem_of_mem hx
      have := hfn j (by omega)
      rw [List.getD_eq_getElem?_getD, List.getElem?_eq_getElem hj] at this
      simpa using this
    rw [this]
    rfl

set_option maxRecDepth 100000 in
theorem containsFuncN_is (ao : Option Addr) (n cap : Nat) (l : List ImgM.Ins) (hn : l.length = n) (hm : n ≤ 9223372036854775807) (f : FuncId) (cp : List Value) (r : Chunk) (hr : r.excl = false) (pre : List Chunk) (hpx : ∀ c ∈ pre, c.excl = true) (p : ImgM.Ins → Bool) (hc : callB Try.prog f = true)
    (hf : ∀ x ∈ l, Fn Try.prog f (#[.agg (insC x).toArray] ++ cp.toArray) [r] pre (σ := Unit) (fun _ => True) (fun _ => .bool (p x)) (fun _ => pre)) :
    Fn Try.prog 25 #[.slice ao n cap, .func (.func f) #[] cp.toArray] [rd ao n cap insC l, r] pre (σ := Unit) (fun _ => True) (fun _ => .bool (l.any p)) (fun _ => pre) := by
  refine Fn.enter (args := [.slice ao n cap, .func (.func f) #[] cp.toArray]) Try.func25 rfl _ Try.ntmps25 rfl (by simp [rd_excl, hr]) (fun w S => ?_)
  (try conv => rhs; simp only [List.cons_append, List.nil_append])
  repeat (first | refine go (k := ?_) | (refine goB (k := ?_); intro b) | (refine goA (k := ?_); intro ao cap))
  refine Run.op (by exact rfl) (OpT.call0 (hx := by exact rfl) (hv := evz) (hc := by kernel_rfl) (hd := by exact rfl) (spec := indexFuncN_is ao n cap l hn hm f cp r hr pre hpx p hc hf) (t := .skip (.skip (.skip (.all _)))) (r := fun w => .rd tk (.any tk hr .nil)) (k := ?_))
  intro s hs
  repeat (first | refine go (k := ?_) | (refine goB (k := ?_); intro b) | (refine goA (k := ?_); intro ao cap))
  exact End.done1 () (by exact rfl) (by exact rfl) (bool_eq hs) trivial hpx .back1

set_option maxRecDepth 100000 in
theorem index_is (ao : Option Addr) (n cap : Nat) (l : List Int) (hn : l.length = n) (hm : n ≤ 9223372036854775807) (v : Int) :
    Fn Try.prog 53 #[.slice ao n cap, .int .i64 v] [rd ao n cap i64c l] [] (fun s : Int => decide (0 ≤ s) = decide (v ∈ l)) (fun s => .int .i64 s) (fun _ => []) := by
  refine Fn.enter (args := [.slice ao n cap, .int .i64 v]) Try.func53 rfl _ Try.ntmps53 rfl (by simp [rd_excl, md_excl]) (fun w S => ?_)
  (try conv => rhs; simp only [List.cons_append, List.nil_append])
  repeat (first | refine go (k := ?_) | (refine goB (k := ?_); intro b) | (refine goA (k := ?_); intro ao cap))
  apply Cod.loop (σ := Nat) (fun k => k ≤ n ∧ ∀ j, j < k → l.getD j default ≠ v) (fun k => [(0, .slice ao n cap), (1, .int .i64 v), (7, .int .i64 (n : Int)), (8, .int .i64 (k : Int))]) (fun _ => [old w S, rd ao n cap i64c l]) (fun k => n - k) 0
  rotate_left
  exact sb
  exact tks
  intro s hs K hK
  (try conv => rhs; simp only [List.cons_append, List.nil_append])
  rotate_left
  · exact ⟨by omega, fun j hj => by omega⟩
  rename Nat => k
  obtain ⟨hk, hfn⟩ := hs
  by_cases h : k < n
  · have hx : l.getD k default ∈ l := by
      rw [List.getD_eq_getElem?_getD, List.getElem?_eq_getElem (by omega : k < l.length)]
      exact List.getElem_mem _
    by_cases hv : v = l.getD k default
    · repeat (first | refine go (k := ?_) | (refine goB (k := ?_); intro b) | (refine goA (k := ?_); intro ao cap))
      (refine End.done1_ ((k : Int)) (he := by (first | exact rfl | (refine congrArg (Value.int _) ?_; omega) | (refine congrArg (Value.int _) ?_; dsimp only; omega))) (hp := ?_))
      rw [hv, decide_eq_true hx]
      simp
    · repeat (first | refine go (k := ?_) | (refine goB (k := ?_); intro b) | (refine goA (k := ?_); intro ao cap))
      refine End.round_ hK (k + 1) ?_ ?_
      · refine ⟨by omega, fun j hj => ?_⟩
        by_cases hjk : j = k
        · subst hjk; exact fun h => hv h.symm
        · exact hfn j (by omega)
      · omega
  · repeat (first | refine go (k := ?_) | (refine goB (k := ?_); intro b) | (refine goA (k := ?_); intro ao cap))
    (refine End.done1_ ((-1 : Int)) (he := by (first | exact rfl | (refine congrArg (Value.int _) ?_; omega) | (refine congrArg (Value.int _) ?_; dsimp only; omega))) (hp := ?_))
    have : v ∉ l := by
      intro hx
      obtain ⟨j, hj, rfl⟩ := List.getElem_of_mem hx
      have := hfn j (by omega)
      rw [List.getD_eq_getElem?_getD, List.getElem?_eq_getElem hj] at this
      simp at this
    simp [this]

set_option maxRecDepth 100000 in
theorem contains_is (ao : Option Addr) (n cap : Nat) (l : List Int) (hn : l.length = n) (hm : n ≤ 9223372036854775807) (v : Int) :
    Fn Try.prog 46 #[.slice ao n cap, .int .i64 v] [rd ao n cap i64c l] [] (σ := Unit) (fun _ => True) (fun _ => .bool (decide (v ∈ l))) (fun _ => []) := by
  refine Fn.enter (args := [.slice ao n cap, .int .i64 v]) Try.func46 rfl _ Try.ntmps46 rfl (by simp [rd_excl, md_excl]) (fun w S => ?_)
  (try conv => rhs; simp only [List.cons_append, List.nil_append])
  repeat (first | refine go (k := ?_) | (refine goB (k := ?_); intro b) | (refine goA (k := ?_); intro ao cap))
  (apply Run.op; exact rfl; refine OpT.call0_ (spec := index_is ao n cap l hn hm v) (k := ?_); intro s hs; (try conv => rhs; simp only [List.cons_append, List.nil_append]))
  repeat (first | refine go (k := ?_) | (refine goB (k := ?_); intro b) | (refine goA (k := ?_); intro ao cap))
  (refine End.done1_ (()) (he := by exact bool_eq hs) (hp := ?_))
  trivial

theorem list_ext {l l' : List Int} (n : Nat) (hn : l.length = n) (hm : l'.length = n) (h : ∀ j, j < n → l.getD j default = l'.getD j default) : l = l' :=
  List.ext_getElem (by omega) (fun j h1 h2 => by have := h j (by omega); simpa [List.getD_eq_getElem?_getD, h1, h2] using this)
set_option maxRecDepth 100000 in
theorem equal_is (ao bo : Option Addr) (n m cap cap' : Nat) (l l' : List Int) (hn : l.length = n) (hm : l'.length = m) (hn2 : n ≤ 9223372036854775807) (hm2 : m ≤ 9223372036854775807) :
    Fn Try.prog 38 #[.slice ao n cap, .slice bo m cap'] [rd ao n cap i64c l, rd bo m cap' i64c l'] [] (σ := Unit) (fun _ => True) (fun _ => .bool (decide (l = l'))) (fun _ => []) := by
  refine Fn.enter (args := [.slice ao n cap, .slice bo m cap']) Try.func38 rfl _ Try.ntmps38 rfl (by simp [rd_excl, md_excl]) (fun w S => ?_)
  (try conv => rhs; simp only [List.cons_append, List.nil_append])
  by_cases hnm : n = m
  · subst hnm
    repeat (first | refine go (k := ?_) | (refine goB (k := ?_); intro b) | (refine goA (k := ?_); intro ao cap))
    apply Cod.loop (σ := Nat) (fun k => k ≤ n ∧ ∀ j, j < k → l.getD j default = l'.getD j default) (fun k => [(0, .slice ao n cap), (1, .slice bo n cap'), (12, .int .i64 (n : Int)), (13, .int .i64 (k : Int))]) (fun _ => [old w S, rd ao n cap i64c l, rd bo n cap' i64c l']) (fun k => n - k) 0
    rotate_left
    exact sb
    exact tks
    intro s hs K hK
    (try conv => rhs; simp only [List.cons_append, List.nil_append])
    rotate_left
    · exact ⟨by omega, fun j hj => by omega⟩
    rename Nat => k
    obtain ⟨hk, hfn⟩ := hs
    by_cases h : k < n
    · by_cases hv : l.getD k default = l'.getD k default
      · repeat (first | refine go (k := ?_) | (refine goB (k := ?_); intro b) | (refine goA (k := ?_); intro ao cap))
        refine End.round_ hK (k + 1) ?_ ?_
        · refine ⟨by omega, fun j hj => ?_⟩
          by_cases hjk : j = k
          · subst hjk; exact hv
          · exact hfn j (by omega)
        · omega
      · repeat (first | refine go (k := ?_) | (refine goB (k := ?_); intro b) | (refine goA (k := ?_); intro ao cap))
        (refine End.done1_ (()) (he := by exact bool_eq (Eq.symm (decide_eq_false (fun h => hv (by rw [h]))))) (hp := ?_))
        trivial
    · repeat (first | refine go (k := ?_) | (refine goB (k := ?_); intro b) | (refine goA (k := ?_); intro ao cap))
      (refine End.done1_ (()) (he := by exact bool_eq (Eq.symm (decide_eq_true (list_ext n hn hm (fun j hj => hfn j (by omega)))))) (hp := ?_))
      trivial
  · repeat (first | refine go (k := ?_) | (refine goB (k := ?_); intro b) | (refine goA (k := ?_); intro ao cap))
    (refine End.done1_ (()) (he := by exact bool_eq (Eq.symm (decide_eq_false (fun h => hnm (by rw [← hn, ← hm, h]))))) (hp := ?_))
    trivial
end Go.Proofs.Ytkhagebjphaboaa.Vw

/- slices.Clone, walked; verify's forms. -/
namespace Go.Proofs.Ytkhagebjphaboaa.Vw
open Go.RowKit Go.Proofs.Ytkhagebjphaboaa.Img
set_option linter.unusedVariables false
set_option linter.unusedSimpArgs false
attribute [local irreducible] Run Cod End OpT Still RunQ RunS RunT Fn PutOk

set_option maxRecDepth 100000 in
theorem cloneI_is (ao : Option Addr) (n cap : Nat) (l : List Int) (hn : l.length = n) (hm : n ≤ 1000000000) :
    Fn Try.prog 39 #[.slice ao n cap] [rd ao n cap i64c l] [] (σ := Option Addr × Nat) (fun _ => True) (fun s => .slice s.1 n s.2) (fun s => [arr s.1 n s.2 3 i64c l]) := by
  refine Fn.enter (args := [.slice ao n cap]) Try.func39 rfl _ Try.ntmps39 rfl (by simp [rd_excl, md_excl]) (fun w S => ?_)
  (try conv => rhs; simp only [List.cons_append, List.nil_append])
  cases ao with
  | none =>
    apply Cod.fact (n = 0) (fun w hm => by
      obtain ⟨⟨-, -, ao', cap', he, -, h4⟩, -⟩ := rd_holds.1 (hm.has (.tail .head))
      rcases Nat.eq_zero_or_pos n with h | h
      · exact h
      · obtain ⟨b, off, rfl, -⟩ := h4 h
        simp at he)
    rintro rfl
    obtain rfl : l = [] := List.eq_nil_of_length_eq_zero hn
    repeat (first | refine go (k := ?_) | (refine goB (k := ?_); intro b) | (refine goA (k := ?_); intro ao cap))
    apply End.imp (fun w hm => hm.nilArr 3 i64c)
    (refine End.done1_ ((none, 0)) (he := by (first | exact rfl | (refine congrArg (Value.int _) ?_; omega) | (refine congrArg (Value.int _) ?_; dsimp only; omega))) (hp := ?_))
    trivial
  | some a0 =>
    repeat (first | refine go (k := ?_) | (refine goB (k := ?_); intro b) | (refine goA (k := ?_); intro ao cap))
    apply Run.imp (fun w hm => hm.toArr .head ([] : List Int) rfl rfl (by unfold maxLen; simp))
    repeat (first | refine go (k := ?_) | (refine goB (k := ?_); intro b) | (refine goA (k := ?_); intro ao cap))
    apply Run.op (by exact rfl)
    refine OpT.appendS_ (k := ?_)
    intro ao cap
    simp only [Nat.zero_add, List.nil_append]
    repeat (first | refine go (k := ?_) | (refine goB (k := ?_); intro b) | (refine goA (k := ?_); intro ao cap))
    (refine End.done1_ ((_, _)) (he := by (first | exact rfl | (refine congrArg (Value.int _) ?_; omega) | (refine congrArg (Value.int _) ?_; dsimp only; omega))) (hp := ?_))
    trivial

set_option maxRecDepth 100000 in
theorem cloneB_is (ao : Option Addr) (n cap : Nat) (l : List Bool) (hn : l.length = n) (hm : n ≤ 1000000000) :
    Fn Try.prog 40 #[.slice ao n cap] [rd ao n cap boolc l] [] (σ := Option Addr × Nat) (fun _ => True) (fun s => .slice s.1 n s.2) (fun s => [arr s.1 n s.2 4 boolc l]) := by
  refine Fn.enter (args := [.slice ao n cap]) Try.func40 rfl _ Try.ntmps40 rfl (by simp [rd_excl, md_excl]) (fun w S => ?_)
  (try conv => rhs; simp only [List.cons_append, List.nil_append])
  cases ao with
  | none =>
    apply Cod.fact (n = 0) (fun w hm => by
      obtain ⟨⟨-, -, ao', cap', he, -, h4⟩, -⟩ := rd_holds.1 (hm.has (.tail .head))
      rcases Nat.eq_zero_or_pos n with h | h
      · exact h
      · obtain ⟨b, off, rfl, -⟩ := h4 h
        simp at he)
    rintro rfl
    obtain rfl : l = [] := List.eq_nil_of_length_eq_zero hn
    repeat (first | refine go (k := ?_) | (refine goB (k := ?_); intro b) | (refine goA (k := ?_); intro ao cap))
    apply End.imp (fun w hm => hm.nilArr 4 boolc)
    (refine End.done1_ ((none, 0)) (he := by (first | exact rfl | (refine congrArg (Value.int _) ?_; omega) | (refine congrArg (Value.int _) ?_; dsimp only; omega))) (hp := ?_))
    trivial
  | some a0 =>
    repeat (first | refine go (k := ?_) | (refine goB (k := ?_); intro b) | (refine goA (k := ?_); intro ao cap))
    apply Run.imp (fun w hm => hm.toArr .head ([] : List Bool) rfl rfl (by unfold maxLen; simp))
    repeat (first | refine go (k := ?_) | (refine goB (k := ?_); intro b) | (refine goA (k := ?_); intro ao cap))
    apply Run.op (by exact rfl)
    refine OpT.appendS_ (k := ?_)
    intro ao cap
    simp only [Nat.zero_add, List.nil_append]
    repeat (first | refine go (k := ?_) | (refine goB (k := ?_); intro b) | (refine goA (k := ?_); intro ao cap))
    (refine End.done1_ ((_, _)) (he := by (first | exact rfl | (refine congrArg (Value.int _) ?_; omega) | (refine congrArg (Value.int _) ?_; dsimp only; omega))) (hp := ?_))
    trivial

/-- where unit k of a module lies -/
abbrev up (m : ML) (k : Nat) : Value := .pointer (place (sz ucell) m.uo k 0)
abbrev insV (i : ImgM.Ins) : Value := .agg (insC i).toArray
set_option maxRecDepth 100000 in
set_option maxHeartbeats 1000000 in
theorem instr_is (cb mb : Nat) (m : ML) (k : Nat) (hk : k < m.us.length) (i : ImgM.Ins) : Fn Try.prog 18 #[ptr cb, up m k, insV i] [md m] (ck cb mb m) (σ := Unit) (fun _ => True) (fun _ => .int .i64 (Ver.instr m.mdl (m.us.getD k default).u i)) (fun _ => ck cb mb m) := by
  refine Fn.enter (args := [ptr cb, up m k, insV i]) Try.func18 rfl _ Try.ntmps18 rfl (by simp [rd_excl, md_excl]) (fun w S => ?_)
  (try conv => rhs; simp only [List.cons_append, List.nil_append])
  repeat' (first | ((first | (apply Run.op; exact rfl) | refine Run.yes_ (h := ?_)); refine OpT.call0_ (spec := unit_is cb mb m _ _) (k := ?_); intro s hs; (try conv => rhs; simp only [List.cons_append, List.nil_append])) | refine go (k := ?_) | (refine goB (k := ?_); intro b) | (refine goA (k := ?_); intro ao cap) | refine goQ (k := fun h => ?_) (k' := fun h => ?_) | fail)
  all_goals ((refine End.done1_ (()) (he := by refine int_eq ?_; unfold Ver.instr; (first | (simp [Ver.rng, ML.mdl, *]; done) | ((try simp only [Ver.rng, ML.mdl]); (repeat' split); all_goals (first | rfl | omega | (simp_all; done) | (simp_all; omega))))) (hp := ?_)); trivial)

end Go.Proofs.Ytkhagebjphaboaa.Vw
