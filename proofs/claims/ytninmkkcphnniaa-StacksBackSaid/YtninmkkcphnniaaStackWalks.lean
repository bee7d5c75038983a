/- The stacks of package stacks: each method's walk. -/
import Derived.Test.YtninmkkcphnniaaProg
import Derived.Test.YtninmkkcphnniaaOwn
import Derived.Laws.CopyOwn
namespace Go.Proofs.Ytninmkkcphnniaa.Stk
open Go.RowKit
set_option linter.unusedVariables false

/-- a stack at p: its block, its array's block l, least and most room, the array's words, how many live -/
structure Stack (w : World) (p l mn mx rm : Nat) (arr : List Int) (live : Nat) : Prop where
  box : Blk w p #[.slice (some ⟨l, 0, none⟩) rm rm, .int .i64 live, .int .i64 mn, .int .i64 mx] 73
  blk : Blk w l (arr.map (Value.int .i64)).toArray 2
  ne : p ≠ l
  len : arr.length = rm
  mn1 : 1 ≤ mn
  mnrm : mn ≤ rm
  rmmx : rm ≤ mx
  mx400 : mx ≤ 400
  le : live ≤ rm

set_option maxHeartbeats 400000 in
theorem new_stack (mn mx : Nat) (w : World) (h1 : 1 ≤ mn) (h2 : mn ≤ mx) (h3 : mx ≤ 400) :
    Calls Try.prog 37 #[.int .i64 mn, .int .i64 mx] w fun e w' => ∃ p l, e = .returned (.pointer (some ⟨p, 0, none⟩)) ∧ w.heap.size ≤ p ∧ w.heap.size ≤ l ∧ Keeps Nil w w' ∧ Stack w' p l mn mx mn (List.replicate mn 0) 0 := by
  have hmk := fun w => run_make_row' (P := Try.prog) 24 2 (.int .i64 0) 8 Try.underlying24 (by kernel_rfl) rfl .i64 .i64 mn (by omega) (by omega) w
  go_enter Try.func37, Try.ntmps37
  go_wp2
  go_ret
  refine ⟨_, _, rfl, by omega, Nat.le_refl _, ((Keeps.refl _ _).alloc _).alloc _, ?_⟩
  exact { box := Blk.new' (by simp)
          blk := ((Blk.new w _ _).alloc _).to rfl (by rw [made_cells]; simp)
          ne := by omega, len := by simp, mn1 := h1, mnrm := Nat.le_refl _, rmmx := h2, mx400 := h3, le := by omega }

set_option maxHeartbeats 400000 in
theorem room_stack (p l mn mx rm live : Nat) (arr : List Int) (w : World) (h : Stack w p l mn mx rm arr live) :
    Calls Try.prog 41 #[.pointer (some ⟨p, 0, none⟩)] w fun e w' => e = .returned (.int .i64 rm) ∧ w = w' := by
  have c0 := h.box.cell 0
  simp at c0
  go_enter Try.func41, Try.ntmps41
  go_wp2
  go_ret
  exact ⟨rfl, rfl⟩

set_option maxHeartbeats 400000 in
theorem at_stack (p l mn mx rm live : Nat) (arr : List Int) (i : Nat) (w : World) (h : Stack w p l mn mx rm arr live) (hi : i < rm) :
    Calls Try.prog 40 #[.pointer (some ⟨p, 0, none⟩), .int .i64 i] w fun e w' => e = .returned (.pointer (some ⟨l, i, none⟩)) ∧ w = w' := by
  have c0 := h.box.cell 0
  simp at c0
  have h4 := h.rmmx
  have h5 := h.mx400
  go_enter Try.func40, Try.ntmps40
  go_wp2
  go_ret
  exact ⟨by simp, rfl⟩

set_option maxRecDepth 100000 in
set_option maxHeartbeats 400000 in
theorem sized_stack (p l mn mx rm live : Nat) (arr : List Int) (n : Nat) (w : World) (h : Stack w p l mn mx rm arr live) (h1 : live ≤ n) (h2 : mn ≤ n) (h3 : n ≤ mx) :
    Calls Try.prog 56 #[.pointer (some ⟨p, 0, none⟩), .int .i64 n] w fun e w' => ∃ l', e = .returned (.tuple #[]) ∧ w.heap.size ≤ l' ∧ Keeps (fun i => i = p) w w' ∧
      Stack w' p l' mn mx n (arr.take live ++ List.replicate (n - live) 0) live := by
  have h400 := h.mx400
  have hle := h.le
  have hrm := h.rmmx
  have hpl := h.box.lt
  have hll := h.blk.lt
  have hmk := fun w => run_make_row' (P := Try.prog) 24 2 (.int .i64 0) 8 Try.underlying24 (by kernel_rfl) rfl .i64 .i64 n (by omega) (by omega) w
  have b1 := h.box.alloc (.cells (madeCells #[.int .i64 0] n) 2)
  have c0 := b1.cell 0
  have c1 := b1.cell 1
  simp at c0 c1
  have i0 : (0 : Int) ≤ (live : Int) := Int.natCast_nonneg _
  have i1 : (live : Int) ≤ (rm : Int) := by omega
  go_enter Try.func56, Try.ntmps56
  go_wp2
  refine region_still_tail 10 (by kernel_rfl) (by kernel_rfl) ?_
  simp only [List.take_succ_cons, List.take_zero, List.drop_succ_cons, List.drop_zero]
  repeat (refine wpStill_step (fun K hK => ?_); go_simp; (try go_bits); refine hK _ ?_; clear hK K)
  refine wpStill_nil ?_
  refine wpList_copy_splice rfl (.tmp 7) (.tmp 16) 24 24 rfl 2 Try.underlying24 (by kernel_rfl) _ _ _ _ _ _ rfl rfl w.heap.size 0 (List.replicate n (.int .i64 0)) 2 ?g1 ((arr.take live).map (Value.int .i64)) ?g2 ?g3 ?g4 ?g5 w.heap.size _ (Below.refl _ _) (Nat.le_refl _) ?_
  case g1 => rw [← made_cells]; exact heap_alloc_new _ _
  case g2 => rw [show Nat.min live n = live from Nat.min_eq_left h1]; simp [h.len]; omega
  case g3 =>
    intro _
    refine ⟨rfl, _, rfl, fun j v hj => ?_⟩
    have hj' : j < ((arr.take live).map (Value.int .i64)).length := (List.getElem?_eq_some_iff.1 hj).1
    simp [h.len] at hj'
    rw [Addr.add_lit]
    have := (h.blk.alloc (.cells (madeCells #[.int .i64 0] n) 2)).cell (0 + j)
    refine (show World.cell? (World.drew _) _ = World.cell? _ _ from rfl).trans (this.trans ?_)
    rw [← hj]
    simp [show j < live by omega]
  case g4 => simp [h.len]; omega
  case g5 => intro u hu; obtain ⟨_, _, rfl⟩ := List.mem_map.1 hu; rfl
  intro w2 HG2 hB2
  have e1 : splice (List.replicate n (Value.int .i64 0)) 0 ((arr.take live).map (Value.int .i64)) = (arr.take live ++ List.replicate (n - live) 0).map (Value.int .i64) := by
    have : min live arr.length = live := by rw [h.len]; omega
    simp [splice, this]
  have hG := HG2.out
  rw [e1] at hG
  have hk2 : Keeps Nil w w2 := ⟨hB2.os, hB2.tape, hB2.output, by have := hB2.size; simp at this; omega, fun k hk _ => (hB2.block k hk).trans (by show (World.alloc w _).heap[k]? = _; exact Below.heap_alloc _ _ _ hk)⟩
  have b2 := h.box.keep hk2 (fun x => x)
  have d0 := b2.cell 0
  have f0 := b2.free 0
  simp at d0
  have Hg := Lib.hid hG
  clear hG HG2 e1 hmk
  go_wp2
  go_end0
  refine ⟨w.heap.size, rfl, Nat.le_refl _, Keeps.setCell (S := fun i => i = p) (hk2.mono (fun _ _ h => h.elim)) (fun _ => rfl) _, ?_⟩
  have hb : Blk w2 w.heap.size ((arr.take live ++ List.replicate (n - live) 0).map (Value.int .i64)).toArray 2 := Hg.out
  exact { box := (b2.set 0 _).to rfl rfl
          blk := hb.other _ (by simp; omega) _
          ne := by omega
          len := by have : min live arr.length = live := by rw [h.len]; omega
                    simp [this]; omega
          mn1 := h.mn1, mnrm := h2, rmmx := h3, mx400 := h.mx400, le := h1 }

/-- a word stored where there is room -/
theorem Stack.push {w w' : World} {p l mn mx rm live : Nat} {arr : List Int} (h : Stack w p l mn mx rm arr live) (v : Int) (hl : live < rm)
    (hw : w'.heap = ((w.setCell ⟨l, live, none⟩ (.int .i64 v)).setCell ⟨p, 1, none⟩ (.int .i64 ((live + 1 : Nat) : Int))).heap) : Stack w' p l mn mx rm (arr.set live v) (live + 1) :=
  { box := ((h.box.other ⟨l, live, none⟩ h.ne _).set 1 _).to hw rfl
    blk := ((h.blk.set live _).other ⟨p, 1, none⟩ h.ne.symm _).to hw (by simp)
    ne := h.ne, len := by simpa using h.len, mn1 := h.mn1, mnrm := h.mnrm, rmmx := h.rmmx, mx400 := h.mx400, le := hl }

set_option maxRecDepth 100000 in
set_option maxHeartbeats 400000 in
/-- Push, the last part: the store, the count -/
theorem push_full (p l mn mx rm live : Nat) (arr : List Int) (v : Int) (w : World) (h : Stack w p l mn mx rm arr live) (hf : live = mx) :
    Calls Try.prog 38 #[.pointer (some ⟨p, 0, none⟩), .int .i64 v] w fun e w' => e = .returned (.bool false) ∧ ∃ k, w' = w.drewN k := by
  have c1 := h.box.cell 1
  have c3 := h.box.cell 3
  simp at c1 c3
  have hb : ((live : Int) == (mx : Int)) = true := by simp [hf]
  clear hf
  go_enter Try.func38, Try.ntmps38
  go_wp2
  go_quiet (fail)
  go_wp2
  go_ret
  exact ⟨rfl, _, rfl⟩

set_option maxRecDepth 100000 in
set_option maxHeartbeats 400000 in
theorem push_room (p l mn mx rm live : Nat) (arr : List Int) (v : Int) (w : World) (h : Stack w p l mn mx rm arr live) (hf : live < rm) :
    Calls Try.prog 38 #[.pointer (some ⟨p, 0, none⟩), .int .i64 v] w fun e w' => e = .returned (.bool true) ∧ Keeps (fun i => i = p ∨ i = l) w w' ∧ Stack w' p l mn mx rm (arr.set live v) (live + 1) := by
  have c0 := h.box.cell 0
  have c1 := h.box.cell 1
  have c3 := h.box.cell 3
  have f1 := h.box.free 1
  have fl := h.blk.free live
  have cl := h.blk.cell live
  simp at c0 c1 c3
  have hrm := h.rmmx
  have h400 := h.mx400
  have hlen := h.len
  have hne := h.ne
  obtain ⟨z, hz⟩ : ∃ z, w.cell? ⟨l, live, none⟩ = some z := by
    rw [cl]; simp [show live < arr.length by omega]
  have hb : ((live : Int) == (mx : Int)) = false := by rw [beq_eq_false_iff_ne]; omega
  have hb2 : ((live : Int) == (rm : Int)) = false := by rw [beq_eq_false_iff_ne]; omega
  have i0 : (0 : Int) ≤ (live : Int) := Int.natCast_nonneg _
  have i1 : (live : Int) < (rm : Int) := by omega
  clear cl hlen
  go_enter Try.func38, Try.ntmps38
  go_wp2
  go_quiet (fail)
  go_wp2
  go_quiet (fail)
  go_wp2
  refine region_still_tail 10 (by kernel_rfl) (by kernel_rfl) ?_
  simp only [List.take_succ_cons, List.take_zero, List.drop_succ_cons, List.drop_zero]
  repeat (refine wpStill_step (fun K hK => ?_); go_simp; (try go_bits); refine hK _ ?_; clear hK K)
  refine wpStill_nil ?_
  go_wp2
  go_ret
  refine ⟨rfl, ((((Keeps.refl _ _).drewN _).setCell (fun _ => Or.inr rfl) _).setCell (fun _ => Or.inl rfl) _), h.push v hf (by simp; rfl)⟩

set_option maxRecDepth 100000 in
set_option maxHeartbeats 400000 in
theorem push_grow (p l mn mx rm : Nat) (arr : List Int) (v : Int) (w : World) (h : Stack w p l mn mx rm arr rm) (hf : rm < mx) :
    Calls Try.prog 38 #[.pointer (some ⟨p, 0, none⟩), .int .i64 v] w fun e w' => ∃ l', e = .returned (.bool true) ∧ w.heap.size ≤ l' ∧ Keeps (fun i => i = p) w w' ∧
      Stack w' p l' mn mx (min (2 * rm) mx) ((arr ++ List.replicate (min (2 * rm) mx - rm) 0).set rm v) (rm + 1) := by
  have c0 := h.box.cell 0
  have c1 := h.box.cell 1
  have c3 := h.box.cell 3
  simp at c0 c1 c3
  have hmn := h.mn1
  have hmr := h.mnrm
  have h400 := h.mx400
  have hlen := h.len
  have hlt := h.box.lt
  have hb : ((rm : Int) == (mx : Int)) = false := by rw [beq_eq_false_iff_ne]; omega
  have hb2 : ((rm : Int) == (rm : Int)) = true := by simp
  obtain ⟨n, hn⟩ : ∃ n, n = min (2 * rm) mx := ⟨_, rfl⟩
  have hn1 : rm < n := by omega
  have hn2 : n ≤ mx := by omega
  rw [← hn]
  have hmin : (if (mx : Int) < 2 * (rm : Int) then (mx : Int) else 2 * (rm : Int)) = (n : Int) := by split <;> omega
  have Hn := Lib.hid hn
  clear hn
  go_enter Try.func38, Try.ntmps38
  go_wp2
  go_quiet (fail)
  go_wp2
  go_quiet (fail)
  go_wp2
  refine region_still_tail 12 (by kernel_rfl) (by kernel_rfl) ?_
  simp only [List.take_succ_cons, List.take_zero, List.drop_succ_cons, List.drop_zero]
  repeat (refine wpStill_step (fun K hK => ?_); go_simp; (try go_bits); refine hK _ ?_; clear hK K)
  refine wpStill_nil ?_
  go_wp2_with fail
  refine (sized_stack p l mn mx rm rm arr n _ { h with box := h.box.drewN _, blk := h.blk.drewN _ } (by omega) (by omega) hn2).mono ?_
  rintro e w2 ⟨l', rfl, hl', hk2, hst⟩
  have e1 : arr.take rm = arr := List.take_of_length_le (by omega)
  rw [e1] at hst
  have d0 := hst.box.cell 0
  have d1 := hst.box.cell 1
  have g1 := hst.box.free 1
  have gl := hst.blk.free rm
  have hne := hst.ne
  have hlen2 := hst.len
  have hz : ∃ z, w2.cell? ⟨l', rm, none⟩ = some z := by
    rw [hst.blk.cell rm, List.getElem?_toArray, List.getElem?_eq_getElem (by rw [List.length_map, hlen2]; omega)]
    exact ⟨_, rfl⟩
  obtain ⟨z, hz⟩ := hz
  simp at d0 d1
  have i0 : (0 : Int) ≤ (rm : Int) := Int.natCast_nonneg _
  have i1 : (rm : Int) < (n : Int) := by omega
  have hl'' : w.heap.size ≤ l' := hl'
  have hk : Keeps (fun i => i = p) w w2 := ⟨hk2.os, hk2.tape, hk2.output, hk2.size, hk2.block⟩
  clear e1 hlen2 c0 c1 c3 hl' hk2
  go_wp2
  refine region_still_tail 10 (by kernel_rfl) (by kernel_rfl) ?_
  simp only [List.take_succ_cons, List.take_zero, List.drop_succ_cons, List.drop_zero]
  repeat (refine wpStill_step (fun K hK => ?_); go_simp; (try go_bits); refine hK _ ?_; clear hK K)
  refine wpStill_nil ?_
  go_wp2
  go_ret
  refine ⟨l', rfl, hl'', Keeps.drew (Keeps.setCell (S := fun i => i = p) (Keeps.setCell (S := fun i => i = p) hk (fun h => by simp at h; omega) _) (fun _ => rfl) _), hst.push v hn1 rfl⟩

set_option maxRecDepth 100000 in
set_option maxHeartbeats 400000 in
theorem pop_keep (p l mn mx rm live : Nat) (arr : List Int) (n : Nat) (w : World) (h : Stack w p l mn mx rm arr live) (hn : n ≤ live) (hk : ¬ (live - n ≤ rm / 4 ∧ mn < rm)) :
    Calls Try.prog 39 #[.pointer (some ⟨p, 0, none⟩), .int .i64 n] w fun e w' => e = .returned (.tuple #[]) ∧ Keeps (fun i => i = p) w w' ∧ Stack w' p l mn mx rm arr (live - n) := by
  have c0 := h.box.cell 0
  have c1 := h.box.cell 1
  have c2 := h.box.cell 2
  have f1 := h.box.free 1
  simp at c0 c1 c2
  have hrm := h.rmmx
  have hle := h.le
  have h400 := h.mx400
  obtain ⟨m, hm⟩ : ∃ m, m = live - n := ⟨_, rfl⟩
  have em : (live : Int) - (n : Int) = (m : Int) := by omega
  have hst : ∀ w', w'.heap = (w.setCell ⟨p, 1, none⟩ (.int .i64 (m : Int))).heap → Stack w' p l mn mx rm arr m := fun w' hw =>
    { box := (h.box.set 1 _).to hw rfl, blk := (h.blk.other ⟨p, 1, none⟩ h.ne.symm _).to hw rfl, ne := h.ne, len := h.len, mn1 := h.mn1, mnrm := h.mnrm, rmmx := h.rmmx, mx400 := h.mx400, le := by omega }
  rw [← hm] at hk ⊢
  have Hst := Lib.hid hst
  clear hst hm
  have eq4 : ((rm : Int) / 4) = ((rm / 4 : Nat) : Int) := by omega
  by_cases h4 : m ≤ rm / 4
  · have b1 : decide ((m : Int) ≤ (rm : Int) / 4) = true := by simp; omega
    have b2 : decide (mn < rm) = false := by simp; omega
    have b3 : decide (m ≤ rm / 4) = true := by simpa using h4
    clear eq4
    go_enter Try.func39, Try.ntmps39
    go_wp2
    go_quiet (fail)
    go_wp2
    go_end0
    refine ⟨rfl, Keeps.drewN (Keeps.setCell (S := fun i => i = p) (Keeps.refl _ _) (fun _ => rfl) _) _, Hst.out _ rfl⟩
  · have b1 : decide ((m : Int) ≤ (rm : Int) / 4) = false := by simp; omega
    have b3 : decide (m ≤ rm / 4) = false := by simpa using h4
    clear eq4
    go_enter Try.func39, Try.ntmps39
    go_wp2
    go_quiet (fail)
    go_wp2
    go_end0
    refine ⟨rfl, Keeps.drewN (Keeps.setCell (S := fun i => i = p) (Keeps.refl _ _) (fun _ => rfl) _) _, Hst.out _ rfl⟩

set_option maxRecDepth 100000 in
set_option maxHeartbeats 400000 in
theorem pop_shrink (p l mn mx rm live : Nat) (arr : List Int) (n : Nat) (w : World) (h : Stack w p l mn mx rm arr live) (hn : n ≤ live) (hk : live - n ≤ rm / 4) (hk2 : mn < rm) :
    Calls Try.prog 39 #[.pointer (some ⟨p, 0, none⟩), .int .i64 n] w fun e w' => ∃ l', e = .returned (.tuple #[]) ∧ w.heap.size ≤ l' ∧ Keeps (fun i => i = p) w w' ∧
      Stack w' p l' mn mx (max (rm / 2) mn) (arr.take (live - n) ++ List.replicate (max (rm / 2) mn - (live - n)) 0) (live - n) := by
  have c0 := h.box.cell 0
  have c1 := h.box.cell 1
  have c2 := h.box.cell 2
  have f1 := h.box.free 1
  simp at c0 c1 c2
  have hrm := h.rmmx
  have hle := h.le
  have hmr := h.mnrm
  have h400 := h.mx400
  have hlt := h.box.lt
  obtain ⟨m, hm⟩ : ∃ m, m = live - n := ⟨_, rfl⟩
  have em : (live : Int) - (n : Int) = (m : Int) := by omega
  have hst : ∀ w', w'.heap = (w.setCell ⟨p, 1, none⟩ (.int .i64 (m : Int))).heap → Stack w' p l mn mx rm arr m := fun w' hw =>
    { box := (h.box.set 1 _).to hw rfl, blk := (h.blk.other ⟨p, 1, none⟩ h.ne.symm _).to hw rfl, ne := h.ne, len := h.len, mn1 := h.mn1, mnrm := h.mnrm, rmmx := h.rmmx, mx400 := h.mx400, le := by omega }
  rw [← hm] at hk ⊢
  obtain ⟨k, hkk⟩ : ∃ k, k = max (rm / 2) mn := ⟨_, rfl⟩
  have hk3 : m ≤ k ∧ mn ≤ k ∧ k ≤ mx := by omega
  rw [← hkk]
  have b1 : decide ((m : Int) ≤ (rm : Int) / 4) = true := by simp; omega
  have b2 : decide (mn < rm) = true := by simpa using hk2
  have b3 : decide (m ≤ rm / 4) = true := by simpa using hk
  have hmax : (if (rm : Int) / 2 < (mn : Int) then (mn : Int) else (rm : Int) / 2) = (k : Int) := by split <;> omega
  have hmax2 : (if (mn : Int) < (rm : Int) / 2 then (rm : Int) / 2 else (mn : Int)) = (k : Int) := by split <;> omega
  have Hst := Lib.hid hst
  have Hk3 := Lib.hid hk3
  clear hst hm hkk hk3
  go_enter Try.func39, Try.ntmps39
  go_wp2
  go_quiet (fail)
  go_wp2
  refine region_still_tail 12 (by kernel_rfl) (by kernel_rfl) ?_
  simp only [List.take_succ_cons, List.take_zero, List.drop_succ_cons, List.drop_zero]
  repeat (refine wpStill_step (fun K hK => ?_); go_simp; (try go_bits); refine hK _ ?_; clear hK K)
  refine wpStill_nil ?_
  go_wp2_with fail
  refine (sized_stack p l mn mx rm m arr k _ (Hst.out (World.drewN _ _) rfl) Hk3.out.1 Hk3.out.2.1 Hk3.out.2.2).mono ?_
  rintro e w2 ⟨l', rfl, hl', hk2', hst2⟩
  simp at hl'
  have hk : Keeps (fun i => i = p) w w2 := ⟨hk2'.os, hk2'.tape, hk2'.output, by have := hk2'.size; simp at this; omega, fun i hi hs => (hk2'.block i (by simp; omega) hs).trans (by
    show (World.setCell w _ _).heap[i]? = _
    exact Below.heap_setCell _ _ _ _ hs)⟩
  go_wp2
  go_end0
  exact ⟨l', rfl, hl', hk, hst2⟩

set_option maxRecDepth 100000 in
set_option maxHeartbeats 400000 in
theorem words_stack (p l mn mx rm live : Nat) (arr : List Int) (w : World) (h : Stack w p l mn mx rm arr live) :
    Calls Try.prog 42 #[.pointer (some ⟨p, 0, none⟩)] w fun e w' => ∃ v, e = .returned v ∧ Keeps Nil w w' ∧ Own w' w.heap.size 2 1 v live ((arr.take live).map (Value.int .i64)) := by
  have c0 := h.box.cell 0
  have c1 := h.box.cell 1
  simp at c0 c1
  have hle := h.le
  have hrm := h.rmmx
  have h400 := h.mx400
  have hlen := h.len
  have i0 : (0 : Int) ≤ (live : Int) := Int.natCast_nonneg _
  have i1 : (live : Int) ≤ (rm : Int) := by omega
  have hrow : ∀ w', w'.heap = w.heap → Row w' (.slice (some ⟨l, 0, none⟩) live rm) 1 live ((arr.take live).map (Value.int .i64)) := fun w' hw =>
    ⟨by simp; omega, by unfold maxLen; omega, _, rm, rfl, hle, fun _ => ⟨l, 0, rfl, fun j hj => by
      rw [(h.blk.to hw rfl).cell]
      simp [show j < live by omega]⟩⟩
  have Hrow := Lib.hid hrow
  clear hrow hlen
  go_enter Try.func42, Try.ntmps42
  go_wp2
  refine region_still_tail 9 (by kernel_rfl) (by kernel_rfl) ?_
  simp only [List.take_succ_cons, List.take_zero, List.drop_succ_cons, List.drop_zero]
  repeat (refine wpStill_step (fun K hK => ?_); go_simp; (try go_bits); refine hK _ ?_; clear hK K)
  refine wpStill_nil ?_
  refine ownS rfl (.const (.slice none 0 0)) (.tmp 11) 24 rfl w.heap.size 2 (.int .i64 0) 1 8 Try.underlying24 (by kernel_rfl) rfl (by decide) (.slice none 0 0) 0 [] rfl (Own.nil _ _ _ _) _ _ _ rfl (Hrow.out _ rfl) (by intro u hu; obtain ⟨_, _, rfl⟩ := List.mem_map.1 hu; rfl) (by unfold maxLen; omega) (by omega) (Nat.le_refl _) ?_
  intro v1 w3 hp1 hk3 hat
  simp only [Nat.zero_add, List.nil_append] at hp1
  have hk : Keeps Nil w w3 := ⟨hk3.os, hk3.tape, hk3.output, hk3.size, fun i hi _ => hk3.block i hi (fun h => by cases h)⟩
  go_wp2
  go_ret
  exact ⟨v1, rfl, hk, hp1⟩

/-- a stack at p of the words ws, with room rm -/
def StackAt (w : World) (p l mn mx rm : Nat) (ws : List Int) : Prop := ∃ arr, Stack w p l mn mx rm arr ws.length ∧ arr.take ws.length = ws

theorem StackAt.keep {w w' : World} {p l mn mx rm : Nat} {ws : List Int} (h : StackAt w p l mn mx rm ws) {S : Nat → Prop} (k : Keeps S w w') (hp : ¬ S p) (hl : ¬ S l) : StackAt w' p l mn mx rm ws := by
  obtain ⟨arr, hr, hq⟩ := h
  exact ⟨arr, { hr with box := hr.box.keep k hp, blk := hr.blk.keep k hl }, hq⟩
theorem StackAt.alloc {w : World} {p l mn mx rm : Nat} {ws : List Int} (h : StackAt w p l mn mx rm ws) (o : Obj) : StackAt (w.alloc o) p l mn mx rm ws :=
  h.keep (S := Nil) ((Keeps.refl _ _).alloc o) (fun h => h) (fun h => h)
theorem StackAt.drewN {w : World} {p l mn mx rm : Nat} {ws : List Int} (h : StackAt w p l mn mx rm ws) (k : Nat) : StackAt (w.drewN k) p l mn mx rm ws :=
  h.keep (S := Nil) ((Keeps.refl _ _).drewN k) (fun h => h) (fun h => h)
theorem StackAt.lt {w : World} {p l mn mx rm : Nat} {ws : List Int} (h : StackAt w p l mn mx rm ws) : p < w.heap.size ∧ l < w.heap.size := by
  obtain ⟨arr, hr, -⟩ := h
  exact ⟨hr.box.lt, hr.blk.lt⟩
theorem StackAt.bounds {w : World} {p l mn mx rm : Nat} {ws : List Int} (h : StackAt w p l mn mx rm ws) : 1 ≤ mn ∧ mn ≤ rm ∧ rm ≤ mx ∧ mx ≤ 400 ∧ ws.length ≤ rm ∧ p ≠ l := by
  obtain ⟨arr, hr, -⟩ := h
  exact ⟨hr.mn1, hr.mnrm, hr.rmmx, hr.mx400, hr.le, hr.ne⟩
/-- its own cells: the array, how many live -/
theorem StackAt.cells {w : World} {p l mn mx rm : Nat} {ws : List Int} (h : StackAt w p l mn mx rm ws) :
    w.cell? ⟨p, 0, none⟩ = some (.slice (some ⟨l, 0, none⟩) rm rm) ∧ w.cell? ⟨p, 1, none⟩ = some (.int .i64 ws.length) ∧
    ∀ i, i < ws.length → w.cell? ⟨l, i, none⟩ = some (.int .i64 (ws.getD i 0)) ∧ w.frozen? ⟨l, i, none⟩ = false := by
  obtain ⟨arr, hr, hq⟩ := h
  have hle := hr.le
  have hlen := hr.len
  refine ⟨by rw [hr.box.cell 0]; rfl, by rw [hr.box.cell 1]; rfl, fun i hi => ⟨?_, hr.blk.free i⟩⟩
  rw [hr.blk.cell i]
  have e : ws.getD i 0 = arr.getD i 0 := by
    rw [← hq]
    simp only [List.getD_eq_getElem?_getD, List.getElem?_take]
    rw [if_pos hi]
  rw [e]
  simp [List.getD_eq_getElem?_getD, show i < arr.length by omega]
/-- a word set -/
theorem StackAt.setAt {w w' : World} {p l mn mx rm : Nat} {ws : List Int} (h : StackAt w p l mn mx rm ws) (i : Nat) (v : Int) (hw : w'.heap = (w.setCell ⟨l, i, none⟩ (.int .i64 v)).heap) : StackAt w' p l mn mx rm (ws.set i v) := by
  obtain ⟨arr, hr, hq⟩ := h
  refine ⟨arr.set i v, ?_, by rw [List.length_set, List.take_set, hq]⟩
  rw [List.length_set]
  exact { hr with box := (hr.box.other ⟨l, i, none⟩ hr.ne _).to hw rfl, blk := (hr.blk.set i _).to hw (by simp), len := by simpa using hr.len }

theorem push_at (p l mn mx rm : Nat) (ws : List Int) (v : Int) (w : World) (h : StackAt w p l mn mx rm ws) (hf : ws.length ≠ mx) :
    Calls Try.prog 38 #[.pointer (some ⟨p, 0, none⟩), .int .i64 v] w fun e w' => ∃ l', e = .returned (.bool true) ∧ (l' = l ∨ w.heap.size ≤ l') ∧ Keeps (fun i => i = p ∨ i = l) w w' ∧
      StackAt w' p l' mn mx (if ws.length = rm then min (2 * rm) mx else rm) (ws ++ [v]) := by
  obtain ⟨arr, hr, hq⟩ := h
  have hle := hr.le
  have hrm := hr.rmmx
  have hlen := hr.len
  by_cases hg : ws.length = rm
  · rw [if_pos hg]
    rw [hg] at hr hq hf
    refine (push_grow p l mn mx rm arr v w hr (by omega)).mono fun e w' ⟨l', he, hl', hk, hst⟩ => ⟨l', he, .inr hl', hk.mono (fun _ _ h => Or.inl h), ?_, ?_, ?_⟩
    · exact (arr ++ List.replicate (min (2 * rm) mx - rm) 0).set rm v
    · simpa [hg] using hst
    · have e1 : arr = ws := by rw [← hq]; exact (List.take_of_length_le (by omega)).symm
      subst e1
      have hm1 := hr.mn1
      have hm2 := hr.mnrm
      have e2 : (min (2 * rm) mx - rm) = (min (2 * rm) mx - rm - 1) + 1 := by omega
      rw [e2, List.replicate_succ]
      generalize List.replicate (min (2 * rm) mx - rm - 1) (0 : Int) = R
      have e3 : (arr ++ (0 : Int) :: R).set rm v = (arr ++ [v]) ++ R := by
        rw [List.set_append_right _ _ (by omega)]
        simp [hlen]
      rw [e3]
      exact List.take_left' rfl
  · rw [if_neg hg]
    refine (push_room p l mn mx rm ws.length arr v w hr (by omega)).mono fun e w' ⟨he, hk, hst⟩ => ⟨l, he, .inl rfl, hk, arr.set ws.length v, by simpa using hst, ?_⟩
    rw [List.length_append, List.length_singleton, List.take_succ_eq_append_getElem (by simp; omega), List.take_set_of_le (Nat.le_refl _), hq]
    simp

theorem push_no (p l mn mx rm : Nat) (ws : List Int) (v : Int) (w : World) (h : StackAt w p l mn mx rm ws) (hf : ws.length = mx) :
    Calls Try.prog 38 #[.pointer (some ⟨p, 0, none⟩), .int .i64 v] w fun e w' => e = .returned (.bool false) ∧ ∃ k, w' = w.drewN k := by
  obtain ⟨arr, hr, hq⟩ := h
  exact push_full p l mn mx rm _ arr v w hr hf

theorem pop_at (p l mn mx rm : Nat) (ws : List Int) (n : Nat) (w : World) (h : StackAt w p l mn mx rm ws) (hn : n ≤ ws.length) :
    Calls Try.prog 39 #[.pointer (some ⟨p, 0, none⟩), .int .i64 n] w fun e w' => ∃ l', e = .returned (.tuple #[]) ∧ (l' = l ∨ w.heap.size ≤ l') ∧ Keeps (fun i => i = p) w w' ∧
      StackAt w' p l' mn mx (if ws.length - n ≤ rm / 4 ∧ mn < rm then max (rm / 2) mn else rm) (ws.take (ws.length - n)) := by
  obtain ⟨arr, hr, hq⟩ := h
  have hle := hr.le
  have hlen := hr.len
  have e0 : arr.take (ws.length - n) = ws.take (ws.length - n) := by
    conv => rhs; rw [← hq]
    rw [List.take_take, Nat.min_eq_left (by simp; omega)]
    simp [hq]
  by_cases hc : ws.length - n ≤ rm / 4 ∧ mn < rm
  · rw [if_pos hc]
    refine (pop_shrink p l mn mx rm _ arr n w hr hn hc.1 hc.2).mono fun e w' ⟨l', he, hl', hk, hst⟩ => ⟨l', he, .inr hl', hk, _, by simpa [List.length_take, Nat.min_eq_left (Nat.sub_le ws.length n)] using hst, ?_⟩
    rw [e0]
    simp
  · rw [if_neg hc]
    refine (pop_keep p l mn mx rm _ arr n w hr hn hc).mono fun e w' ⟨he, hk, hst⟩ => ⟨l, he, .inl rfl, hk, arr, by simpa [List.length_take, Nat.min_eq_left (Nat.sub_le ws.length n)] using hst, ?_⟩
    rw [List.length_take, Nat.min_eq_left (Nat.sub_le _ _), e0]

theorem words_at (p l mn mx rm : Nat) (ws : List Int) (w : World) (h : StackAt w p l mn mx rm ws) :
    Calls Try.prog 42 #[.pointer (some ⟨p, 0, none⟩)] w fun e w' => ∃ v, e = .returned v ∧ Keeps Nil w w' ∧ Own w' w.heap.size 2 1 v ws.length (ws.map (Value.int .i64)) := by
  obtain ⟨arr, hr, hq⟩ := h
  have := words_stack p l mn mx rm _ arr w hr
  rwa [hq] at this

theorem room_at (p l mn mx rm : Nat) (ws : List Int) (w : World) (h : StackAt w p l mn mx rm ws) :
    Calls Try.prog 41 #[.pointer (some ⟨p, 0, none⟩)] w fun e w' => e = .returned (.int .i64 rm) ∧ w = w' := by
  obtain ⟨arr, hr, hq⟩ := h
  exact room_stack p l mn mx rm _ arr w hr

theorem at_at (p l mn mx rm : Nat) (ws : List Int) (i : Nat) (w : World) (h : StackAt w p l mn mx rm ws) (hi : i < rm) :
    Calls Try.prog 40 #[.pointer (some ⟨p, 0, none⟩), .int .i64 i] w fun e w' => e = .returned (.pointer (some ⟨l, i, none⟩)) ∧ w = w' := by
  obtain ⟨arr, hr, hq⟩ := h
  exact at_stack p l mn mx rm _ arr i w hr hi

theorem new_at (mn mx : Nat) (w : World) (h1 : 1 ≤ mn) (h2 : mn ≤ mx) (h3 : mx ≤ 400) :
    Calls Try.prog 37 #[.int .i64 mn, .int .i64 mx] w fun e w' => ∃ p l, e = .returned (.pointer (some ⟨p, 0, none⟩)) ∧ w.heap.size ≤ p ∧ w.heap.size ≤ l ∧ Keeps Nil w w' ∧ StackAt w' p l mn mx mn [] :=
  (new_stack mn mx w h1 h2 h3).mono fun e w' ⟨p, l, he, hp, hl, hk, hst⟩ => ⟨p, l, he, hp, hl, hk, _, hst, rfl⟩

end Go.Proofs.Ytninmkkcphnniaa.Stk
