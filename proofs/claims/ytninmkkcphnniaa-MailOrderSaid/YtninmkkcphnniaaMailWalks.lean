/- The boxes of package mail: each method's walk. -/
import Derived.Test.YtninmkkcphnniaaProg
import Derived.Test.YtninmkkcphnniaaHp
namespace Go.Proofs.Ytninmkkcphnniaa.Mail
open Go.RowKit

/-- a ring at p: its block, its array's block, places, the words of the array, first, n -/
structure Ring (w : World) (p l cap : Nat) (ring : List Int) (first n : Nat) : Prop where
  box : Blk w p #[.slice (some ⟨l, 0, none⟩) cap cap, .int .i64 first, .int .i64 n] 104
  arr : Blk w l (ring.map (Value.int .i64)).toArray 2
  ne : p ≠ l
  len : ring.length = cap
  pos : first < cap
  le : n ≤ cap
  cap20 : cap ≤ 20

set_option maxHeartbeats 400000 in
theorem full_ring (p l cap : Nat) (ring : List Int) (first n : Nat) (w : World) (h : Ring w p l cap ring first n) :
    Calls Try.prog 32 #[.pointer (some ⟨p, 0, none⟩)] w fun e w' => e = .returned (.bool (decide (n = cap))) ∧ ∃ k, w' = w.drewN k := by
  have c0 := h.box.cell 0
  have c2 := h.box.cell 2
  simp at c0 c2
  go_enter Try.func32, Try.ntmps32
  go_wp2
  go_quiet (fail)
  go_wp2
  go_ret
  exact ⟨by simp [int_beq_nat], _, rfl⟩

set_option maxHeartbeats 400000 in
theorem empty_ring (p l cap : Nat) (ring : List Int) (first n : Nat) (w : World) (h : Ring w p l cap ring first n) :
    Calls Try.prog 34 #[.pointer (some ⟨p, 0, none⟩)] w fun e w' => e = .returned (.bool (decide (n = 0))) ∧ w = w' := by
  have c2 := h.box.cell 2
  simp at c2
  go_enter Try.func34, Try.ntmps34
  go_wp2
  go_ret
  exact ⟨by simp [int_beq_zero], rfl⟩

set_option maxHeartbeats 400000 in
set_option maxRecDepth 100000 in
theorem put_ring (p l cap : Nat) (ring : List Int) (first n : Nat) (v : Int) (w : World) (h : Ring w p l cap ring first n) (hn : n < cap) :
    Calls Try.prog 33 #[.pointer (some ⟨p, 0, none⟩), .int .i64 v] w fun e w' => e = .returned (.tuple #[]) ∧ Keeps (fun i => i = p ∨ i = l) w w' ∧ Ring w' p l cap (ring.set ((first + n) % cap) v) first (n + 1) := by
  have c0 := h.box.cell 0
  have c1 := h.box.cell 1
  have c2 := h.box.cell 2
  have f2 := h.box.free 2
  have hc := h.cap20
  have hp := h.pos
  have hz : cap ≠ 0 := by omega
  have hne := h.ne
  obtain ⟨m, hm⟩ : ∃ m, m = (first + n) % cap := ⟨_, rfl⟩
  have hlt : m < cap := by rw [hm]; exact Nat.mod_lt _ (by omega)
  have fl := h.arr.free m
  have cl : w.cell? ⟨l, m, none⟩ = some (.int .i64 (ring.getD m 0)) := by
    have := h.len
    rw [h.arr.cell m]; simp [show m < ring.length by omega]
  simp at c0 c1 c2
  rw [← hm]
  have Hm := Lib.hid hm
  have em : ((first : Int) + (n : Int)) % (cap : Int) = (m : Int) := by rw [hm]; simp
  clear hm
  go_enter Try.func33, Try.ntmps33
  go_wp2
  refine region_still_tail 21 (by kernel_rfl) (by kernel_rfl) ?_
  simp only [List.take_succ_cons, List.take_zero, List.drop_succ_cons, List.drop_zero]
  repeat (refine wpStill_step (fun K hK => ?_); go_simp; (try go_bits); refine hK _ ?_; clear hK K)
  refine wpStill_nil ?_
  go_wp2
  go_end0
  refine ⟨rfl, (((Keeps.refl _ _).setCell (fun _ => .inr rfl) _).setCell (fun _ => .inl rfl) _).drew, ?_⟩
  have hl := h.len
  exact { box := ((h.box.other ⟨l, m, none⟩ hne _).set 2 _).to rfl rfl
          arr := ((h.arr.set m _).other ⟨p, 2, none⟩ hne.symm _).to rfl (by simp)
          ne := hne, len := by simpa using h.len, pos := hp, le := hn, cap20 := hc }

set_option maxRecDepth 100000 in
set_option maxHeartbeats 400000 in
theorem take_ring (p l cap : Nat) (ring : List Int) (first n : Nat) (w : World) (h : Ring w p l cap ring first n) (hn : 0 < n) :
    Calls Try.prog 35 #[.pointer (some ⟨p, 0, none⟩)] w fun e w' => e = .returned (.int .i64 (ring.getD first 0)) ∧ Keeps (fun i => i = p ∨ i = l) w w' ∧ Ring w' p l cap ring ((first + 1) % cap) (n - 1) := by
  have c0 := h.box.cell 0
  have c1 := h.box.cell 1
  have c2 := h.box.cell 2
  have f1 := h.box.free 1
  have f2 := h.box.free 2
  have hc := h.cap20
  have hp := h.pos
  have hle := h.le
  have hz : cap ≠ 0 := by omega
  have hne := h.ne
  obtain ⟨m, hm⟩ : ∃ m, m = (first + 1) % cap := ⟨_, rfl⟩
  have hlt : m < cap := by rw [hm]; exact Nat.mod_lt _ (by omega)
  have cl : w.cell? ⟨l, first, none⟩ = some (.int .i64 (ring.getD first 0)) := by
    have := h.len
    rw [h.arr.cell first]; simp [show first < ring.length by omega]
  simp at c0 c1 c2
  rw [← hm]
  have em : ((first : Int) + 1) % (cap : Int) = (m : Int) := by rw [hm]; simp
  clear hm
  generalize ring.getD first 0 = x at *
  go_enter Try.func35, Try.ntmps35
  go_wp2
  go_quiet (fail)
  go_wp2
  refine region_still_tail 14 (by kernel_rfl) (by kernel_rfl) ?_
  simp only [List.take_succ_cons, List.take_zero, List.drop_succ_cons, List.drop_zero]
  repeat (refine wpStill_step (fun K hK => ?_); go_simp; (try go_bits); refine hK _ ?_; clear hK K)
  refine wpStill_nil ?_
  go_wp2
  go_ret
  refine ⟨rfl, ((((Keeps.refl _ _).setCell (fun _ => .inl rfl) _).setCell (fun _ => .inl rfl) _).drewN _).drew, ?_⟩
  have e1 : ((n : Int) - 1) = ((n - 1 : Nat) : Int) := by omega
  exact { box := ((h.box.set 1 _).set 2 _).to rfl (by rw [e1]; rfl)
          arr := ((h.arr.other ⟨p, 1, none⟩ hne.symm _).other ⟨p, 2, none⟩ hne.symm _).to rfl rfl
          ne := hne, len := h.len, pos := hlt, le := by omega, cap20 := hc }

set_option maxHeartbeats 400000 in
theorem new_ring (cap : Nat) (w : World) (h1 : 1 ≤ cap) (h2 : cap ≤ 20) :
    Calls Try.prog 31 #[.int .i64 cap] w fun e w' => ∃ p l, e = .returned (.pointer (some ⟨p, 0, none⟩)) ∧ w.heap.size ≤ p ∧ w.heap.size ≤ l ∧ Keeps Nil w w' ∧ Ring w' p l cap (List.replicate cap 0) 0 0 := by
  have hmk := fun w => run_make_row' (P := Try.prog) 24 2 (.int .i64 0) 8 Try.underlying24 (by kernel_rfl) rfl .i64 .i64 cap (by omega) (by omega) w
  go_enter Try.func31, Try.ntmps31
  go_wp2
  go_ret
  refine ⟨_, _, rfl, by omega, Nat.le_refl _, ((Keeps.refl _ _).alloc _).alloc _, ?_⟩
  have hs : (w.alloc (.cells (madeCells #[.int .i64 0] cap) 2)).heap.size = w.heap.size + 1 := World.size_alloc _ _
  exact { box := by have := Blk.new (w.alloc (.cells (madeCells #[.int .i64 0] cap) 2)) #[.slice (some ⟨w.heap.size, 0, none⟩) cap cap, .int .i64 0, .int .i64 0] 104; rwa [hs] at this
          arr := ((Blk.new w _ _).alloc _).to rfl (by rw [made_cells]; simp)
          ne := by omega, len := by simp, pos := h1, le := by omega, cap20 := h2 }

set_option maxRecDepth 100000 in
set_option maxHeartbeats 400000 in
theorem words_ring (p l cap : Nat) (ring : List Int) (first n : Nat) (w : World) (h : Ring w p l cap ring first n) :
    Calls Try.prog 36 #[.pointer (some ⟨p, 0, none⟩)] w fun e w' => ∃ v, e = .returned v ∧ Keeps Nil w w' ∧
      w'.ownsRow w.heap.size 2 1 v n ((List.range n).map fun i => .int .i64 (ring.getD ((first + i) % cap) 0)) := by
  have hc := h.cap20
  have hp := h.pos
  have hle := h.le
  have hz : cap ≠ 0 := by omega
  have c2 := h.box.cell 2
  simp at c2
  go_enter Try.func36, Try.ntmps36
  go_wp2
  go_loopw [3, 9] (fun v i wr => ∃ k : Nat, k ≤ n ∧ i = .int .i64 k ∧ Keeps Nil w wr ∧ wr.ownsRow w.heap.size 2 1 v k ((List.range k).map fun i => .int .i64 (ring.getD ((first + i) % cap) 0))) (fun _ i _ => n - (intOf i).toNat)
  case atStart => exact ⟨0, Nat.zero_le _, rfl, Keeps.refl _ _, World.ownsRow_nil _ _ _ _⟩
  case round =>
    obtain ⟨k, hk, rfl, hkeep, hown⟩ := hrel
    by_cases hkn : k < n
    · have hbox := h.box.keep hkeep (fun x => x)
      have harr := h.arr.keep hkeep (fun x => x)
      have c0 := hbox.cell 0
      have c1 := hbox.cell 1
      simp at c0 c1
      obtain ⟨m, hm⟩ : ∃ m, m = (first + k) % cap := ⟨_, rfl⟩
      have hlt : m < cap := by rw [hm]; exact Nat.mod_lt _ (by omega)
      have cl : wr.cell? ⟨l, m, none⟩ = some (.int .i64 (ring.getD m 0)) := by
        have := h.len
        rw [harr.cell m]; simp [show m < ring.length by omega]
      have em : ((first : Int) + (k : Int)) % (cap : Int) = (m : Int) := by rw [hm]; simp
      have Hm := Lib.hid hm
      clear hm
      have hw := hkeep.size
      generalize hx : ring.getD m 0 = x at *
      have Hx := Lib.hid hx
      clear hx
      go_wp2
      have hm0 : (0 : Int) ≤ (m : Int) := Int.natCast_nonneg _
      have hm1 : (m : Int) < (cap : Int) := by omega
      have hw1 : IntKind.i64.wrap ((first : Int) + (k : Int)) = (first : Int) + (k : Int) := IntWalk.i64_in _ (by omega)
      have hw2 : ((first : Int) + (k : Int)).tmod (cap : Int) = (m : Int) := by rw [IntWalk.rem_in _ _ (by omega)]; exact em
      have hw3 : IntKind.i64.wrap (m : Int) = (m : Int) := IntWalk.i64_in _ (by omega)
      have np : ¬ u3.ownBlock = some p := fun e => by have := (hown.lt p e).1; have := h.box.lt; omega
      have nl : ¬ u3.ownBlock = some l := fun e => by have := (hown.lt l e).1; have := h.arr.lt; omega
      have lp := hbox.lt
      have ll := harr.lt
      go_region_held3 (fun w' => w'.cell? ⟨p, 0, none⟩ = some (.slice (some ⟨l, 0, none⟩) cap cap) ∧ w'.cell? ⟨p, 1, none⟩ = some (.int .i64 first) ∧ w'.cell? ⟨l, m, none⟩ = some (.int .i64 x))
        (first | go_keep | (go_split_ands; refine ⟨?_, ?_, ?_⟩ <;> (rw [hgrow.cell (by simp; omega) (by assumption)]; assumption)))
        ((refine step1 rfl _ _ 24 rfl w.heap.size 2 (.int .i64 0) 1 8 Try.underlying24 (by kernel_rfl) rfl (by decide) u3 k _ rfl (hown.alloc _) wr.heap.size 1 [.int .i64 x] rfl (Blk.new wr _ _) rfl (by simp [Value.oneCell']) (by unfold maxLen; omega) (by omega) (by simp; omega) ?_; intro g cp w1 hown' hgrow hat hlt1))
      go_wp2
      go_roundw
      case rel =>
        refine ⟨k + 1, by omega, by go_num, ((hkeep.alloc _).drew).trans hgrow ?_, ?_⟩
        · intro j hlt' hj
          have := (hown.lt j hj).1
          omega
        · rw [List.range_succ, List.map_append]
          simp only [List.map_cons, List.map_nil]
          rw [← Hm.out, Hx.out]
          exact hown'
      case measure => simp [intOf]; omega
    · obtain rfl : k = n := by omega
      go_wp2
      go_ret
      exact ⟨_, rfl, hkeep, hown⟩

/-- a box at p of 'cap' places with the words q -/
def BoxAt (w : World) (p l cap : Nat) (q : List Int) : Prop :=
  ∃ ring first, Ring w p l cap ring first q.length ∧ ∀ i, i < q.length → ring.getD ((first + i) % cap) 0 = q.getD i 0

theorem BoxAt.keep {w w' : World} {p l cap : Nat} {q : List Int} (h : BoxAt w p l cap q) {S : Nat → Prop} (k : Keeps S w w') (hp : ¬ S p) (hl : ¬ S l) : BoxAt w' p l cap q := by
  obtain ⟨ring, first, hr, hq⟩ := h
  exact ⟨ring, first, { hr with box := hr.box.keep k hp, arr := hr.arr.keep k hl }, hq⟩

theorem BoxAt.alloc {w : World} {p l cap : Nat} {q : List Int} (h : BoxAt w p l cap q) (o : Obj) : BoxAt (w.alloc o) p l cap q :=
  h.keep (S := Nil) ((Keeps.refl _ _).alloc o) (fun h => h) (fun h => h)
theorem BoxAt.drewN {w : World} {p l cap : Nat} {q : List Int} (h : BoxAt w p l cap q) (k : Nat) : BoxAt (w.drewN k) p l cap q :=
  h.keep (S := Nil) ((Keeps.refl _ _).drewN k) (fun h => h) (fun h => h)
theorem BoxAt.lt {w : World} {p l cap : Nat} {q : List Int} (h : BoxAt w p l cap q) : p < w.heap.size ∧ l < w.heap.size := by
  obtain ⟨ring, first, hr, hq⟩ := h
  exact ⟨hr.box.lt, hr.arr.lt⟩

theorem BoxAt.le {w : World} {p l cap : Nat} {q : List Int} (h : BoxAt w p l cap q) : q.length ≤ cap := by
  obtain ⟨ring, first, hr, hq⟩ := h
  exact hr.le

theorem mod_ne {a i j c : Nat} (hi : i < c) (hj : j < c) (h : i ≠ j) : (a + i) % c ≠ (a + j) % c := by
  intro e
  have h1 := Nat.div_add_mod (a + i) c
  have h2 := Nat.div_add_mod (a + j) c
  rw [e] at h1
  have h3 : c * ((a + i) / c) + j = c * ((a + j) / c) + i := by omega
  rcases Nat.lt_trichotomy ((a + i) / c) ((a + j) / c) with hlt | heq | hgt
  · have := Nat.mul_le_mul_left c (show (a + i) / c + 1 ≤ (a + j) / c from hlt)
    rw [Nat.mul_add] at this; omega
  · rw [heq] at h3; omega
  · have := Nat.mul_le_mul_left c (show (a + j) / c + 1 ≤ (a + i) / c from hgt)
    rw [Nat.mul_add] at this; omega

theorem full_box (p l cap : Nat) (q : List Int) (w : World) (h : BoxAt w p l cap q) :
    Calls Try.prog 32 #[.pointer (some ⟨p, 0, none⟩)] w fun e w' => e = .returned (.bool (decide (q.length = cap))) ∧ ∃ k, w' = w.drewN k := by
  obtain ⟨ring, first, hr, hq⟩ := h
  exact full_ring p l cap ring first q.length w hr

theorem empty_box (p l cap : Nat) (q : List Int) (w : World) (h : BoxAt w p l cap q) :
    Calls Try.prog 34 #[.pointer (some ⟨p, 0, none⟩)] w fun e w' => e = .returned (.bool (decide (q.length = 0))) ∧ w = w' := by
  obtain ⟨ring, first, hr, hq⟩ := h
  exact empty_ring p l cap ring first q.length w hr

theorem put_box (p l cap : Nat) (q : List Int) (v : Int) (w : World) (h : BoxAt w p l cap q) (hn : q.length < cap) :
    Calls Try.prog 33 #[.pointer (some ⟨p, 0, none⟩), .int .i64 v] w fun e w' => e = .returned (.tuple #[]) ∧ Keeps (fun i => i = p ∨ i = l) w w' ∧ BoxAt w' p l cap (q ++ [v]) := by
  obtain ⟨ring, first, hr, hq⟩ := h
  refine (put_ring p l cap ring first q.length v w hr hn).mono fun e w' ⟨he, hk, hr'⟩ => ⟨he, hk, _, _, by simpa using hr', ?_⟩
  intro i hi
  simp only [List.length_append, List.length_cons, List.length_nil] at hi
  have hlen := hr.len
  have hm : (first + i) % cap < ring.length := by rw [hlen]; exact Nat.mod_lt _ (by omega)
  by_cases hiq : i < q.length
  · have hne := mod_ne (a := first) (show q.length < cap from hn) (show i < cap by omega) (by omega)
    rw [List.getD_eq_getElem?_getD, List.getElem?_set_ne hne, ← List.getD_eq_getElem?_getD, hq i hiq]
    simp [List.getD_eq_getElem?_getD, hiq, List.getElem?_append_left hiq]
  · obtain rfl : i = q.length := by omega
    simp [List.getD_eq_getElem?_getD, List.getElem?_set_self hm]

theorem take_box (p l cap : Nat) (x : Int) (q : List Int) (w : World) (h : BoxAt w p l cap (x :: q)) :
    Calls Try.prog 35 #[.pointer (some ⟨p, 0, none⟩)] w fun e w' => e = .returned (.int .i64 x) ∧ Keeps (fun i => i = p ∨ i = l) w w' ∧ BoxAt w' p l cap q := by
  obtain ⟨ring, first, hr, hq⟩ := h
  have h0 : ring.getD first 0 = x := by
    have := hq 0 (by simp)
    rw [Nat.add_zero, Nat.mod_eq_of_lt hr.pos] at this
    simpa using this
  refine (take_ring p l cap ring first (x :: q).length w hr (by simp)).mono fun e w' ⟨he, hk, hr'⟩ => ⟨by rw [he, h0], hk, _, _, by simpa using hr', ?_⟩
  intro i hi
  have := hq (i + 1) (by simp; omega)
  rw [Nat.mod_add_mod, show first + 1 + i = first + (i + 1) by omega, this]
  simp

theorem words_box (p l cap : Nat) (q : List Int) (w : World) (h : BoxAt w p l cap q) :
    Calls Try.prog 36 #[.pointer (some ⟨p, 0, none⟩)] w fun e w' => ∃ v, e = .returned v ∧ Keeps Nil w w' ∧
      w'.ownsRow w.heap.size 2 1 v q.length (q.map (Value.int .i64)) := by
  obtain ⟨ring, first, hr, hq⟩ := h
  refine (words_ring p l cap ring first q.length w hr).mono fun e w' ⟨v, he, hk, ho⟩ => ⟨v, he, hk, ?_⟩
  have e1 : ((List.range q.length).map fun i => Value.int .i64 (ring.getD ((first + i) % cap) 0)) = q.map (Value.int .i64) := by
    apply List.ext_getElem
    · simp
    · intro i h1 h2
      simp only [List.length_map, List.length_range] at h1
      simp only [List.getElem_map, List.getElem_range, hq i h1]
      simp [List.getD_eq_getElem?_getD, h1]
  rwa [e1] at ho

theorem new_box (cap : Nat) (w : World) (h1 : 1 ≤ cap) (h2 : cap ≤ 20) :
    Calls Try.prog 31 #[.int .i64 cap] w fun e w' => ∃ p l, e = .returned (.pointer (some ⟨p, 0, none⟩)) ∧ w.heap.size ≤ p ∧ w.heap.size ≤ l ∧ Keeps Nil w w' ∧ BoxAt w' p l cap [] := by
  refine (new_ring cap w h1 h2).mono fun e w' ⟨p, l, he, hp, hl, hk, hr⟩ => ⟨p, l, he, hp, hl, hk, _, _, hr, ?_⟩
  intro i hi
  simp at hi

end Go.Proofs.Ytninmkkcphnniaa.Mail
