/- The law ImageGuards: its walk; the law's guard 'alive'. -/
import Derived.Test.YtninmkkcphnniaaImgBytes
import Derived.Test.YtninmkkcphnniaaImgFit
import Derived.BigQuiet
import Derived.BigRegion
import Derived.Lib.SlBytesConst
namespace Go.Proofs.Ytninmkkcphnniaa.Img
open Go.RowKit
set_option linter.unusedVariables false
set_option linter.unusedSimpArgs false

def M0 : ImgM.Mdl := ⟨[(1, 2)], []⟩
theorem M0_bytes : ImgM.bytes M0 = [2, 2, 4, 0, ImgM.crc (ImgM.body M0) / 256, ImgM.crc (ImgM.body M0) % 256] := by
  have h : ImgM.body M0 = [2, 2, 4, 0] := by
    simp [ImgM.body, ImgM.mdlN, M0, ImgM.nums, ImgM.num, ImgM.zig, ImgM.leb_lt, ImgM.boxN]
  simp [ImgM.bytes, h]
theorem crc9 : ImgM.crc [49, 50, 51, 52, 53, 54, 55, 56, 57] = 10673 := by decide +kernel

theorem Own.at {w : World} {base n : Nat} {v : Value} {bs : List Nat} (h : Own w base 5 1 v n (u8s bs)) {j : Nat} (hj : j < n) : ∃ b o cap, v = .slice (some ⟨b, o, none⟩) n cap ∧ base ≤ b ∧ b < w.heap.size ∧ n ≤ cap ∧ w.cell? ⟨b, o + j, none⟩ = some (.int .u8 ((bs.getD j 0 : Nat) : Int)) ∧ w.frozen? ⟨b, o + j, none⟩ = false := by
  have hr := h.row (by omega)
  obtain ⟨ao, cap, rfl, h1, h2⟩ := hr.shape
  obtain ⟨b, o, rfl⟩ := hr.form (by omega)
  have hl := h.lt b rfl
  obtain ⟨g1, ao', cap', he, g2, g3, g4, g5⟩ := h
  simp only [Value.slice.injEq] at he
  obtain ⟨rfl, -, rfl⟩ := he
  obtain ⟨_, _, cur, hB, _⟩ := g5 _ rfl
  have hB' : Blk w b cur 5 := hB
  exact ⟨b, o, cap, rfl, hl.1, hl.2, h1, row_u8s hr j hj, hB'.free _⟩

theorem row_fr (w : World) (cs : List Value) (t : TypeId) (n : Nat) (r : Nat × Nat) (hs : cs.length = n) (hn : n ≤ maxLen) : Row (w.alloc (.cells cs.toArray t r)) (.slice (some ⟨w.heap.size, 0, none⟩) n n) 1 n cs :=
  ⟨by omega, hn, _, n, rfl, Nat.le_refl _, fun _ => ⟨_, 0, rfl, fun j hj => by
    rw [cell_of_row (w.alloc (.cells cs.toArray t r)) w.heap.size (0 + j) cs.toArray t r (heap_alloc_new w _)]
    simp⟩⟩

set_option maxRecDepth 100000 in
set_option maxHeartbeats 1000000 in
theorem alive_true (w : World) : Calls Try.prog 30 #[] w fun e w' => e = .returned (.bool true) ∧ Keeps Nil w w' := by
  go_enter Try.func30, Try.ntmps30
  go_wp2_with fail
  have hM : ModAt (w.alloc (Obj.cells #[Value.int IntKind.i64 1, Value.int IntKind.i64 2] 83)) (.agg #[.slice (some ⟨w.heap.size, 0, none⟩) 1 1, .slice none 0 0]) M0 :=
    ⟨_, _, [], rfl, Row.of_blk (size := 2) (n := 1) (Blk.new w #[Value.int IntKind.i64 1, Value.int IntKind.i64 2] _) rfl (by decide), ⟨rfl, Nat.zero_le _, none, 0, rfl, Nat.le_refl _, fun h => by simp [M0] at h⟩, fun k hk => by simp [M0] at hk⟩
  refine (bytes_any _ M0 _ hM ⟨by intro n hn; simp [ImgM.mdlN, M0, ImgM.boxN] at hn; rcases hn with rfl | rfl | rfl <;> (unfold ImgM.In64; omega)⟩ (by decide)).mono ?_
  rintro e w1 ⟨hk, hs⟩
  have hk0 : Keeps Nil w w1 := ((Keeps.refl _ _).alloc _).trans hk (fun _ _ h => h)
  have hlen : (ImgM.bytes M0).length = 6 := by rw [M0_bytes]; rfl
  rcases hs with ⟨_, v, rfl, ho⟩ | ⟨h, -⟩
  · rw [hlen] at ho
    obtain ⟨b, o, cap, rfl, -, hb, hcap, c2, -⟩ := Own.at ho (j := 2) (by omega)
    rw [M0_bytes] at c2
    simp at c2
    have kc := fun (w : World) (C : Array Value) (n c : Nat) => Lib.run_convert_bytes_const (P := Try.prog) w 52 5 C n c Try.underlying52 Try.underlying5
    have hrow := row_fr w1 (u8s [49, 50, 51, 52, 53, 54, 55, 56, 57]) 5 9 (9, 10) rfl (by decide)
    have HR := Lib.hid hrow
    have hc9 := crc9
    have HC := Lib.hid hc9
    clear ho hM hrow hc9
    go_wp2_with fail
    refine (sum_any _ 9 _ _ HR.out (by decide)).mono ?_
    rintro e w2 ⟨rfl, rfl⟩
    rw [HC.out]
    go_wp2
    go_ret
    exact ⟨rfl, hk0.alloc _⟩
  · omega

theorem xor8 (x o : Nat) (hx : x < 256) (ho : o < 256) : bits BinOp.xor IntKind.u8 (x : Int) (o : Int) = ((x ^^^ o : Nat) : Int) := by
  simp only [bits]
  rw [wrap_u8]
  have e1 : IntKind.u8.bits = 8 := rfl
  have h : (BitVec.ofInt 8 (x : Int) ^^^ BitVec.ofInt 8 (o : Int)).toNat = x ^^^ o := by
    simp [BitVec.ofInt_natCast, BitVec.toNat_xor, Nat.mod_eq_of_lt hx, Nat.mod_eq_of_lt ho]
  have h2 : x ^^^ o < 2 ^ 8 := Nat.xor_lt_two_pow hx ho
  show (((BitVec.ofInt 8 (x : Int) ^^^ BitVec.ofInt 8 (o : Int)).toNat : Nat) : Int) % 256 = _
  rw [h]
  omega

theorem own_put {w : World} {base : Nat} {e : TypeId} {n m cp b off : Nat} {xs : List Value} (h : Own w base e 1 (.slice (some ⟨b, off, none⟩) n cp) n xs) (hm : m < n) (u : Value) : Own (w.setCell ⟨b, off + m, none⟩ u) base e 1 (.slice (some ⟨b, off, none⟩) n cp) n (xs.set m u) := by
  obtain ⟨h1, ao', cap, he, h2, h3, h4, h5⟩ := h
  simp only [Value.slice.injEq] at he
  obtain ⟨rfl, -, rfl⟩ := he
  refine ⟨by simpa using h1, _, cp, rfl, h2, h3, h4, fun ad had => ?_⟩
  cases had
  obtain ⟨h6, h7, cur, h8, h9, h10⟩ := h5 _ rfl
  refine ⟨h6, h7, _, Blk.set h8 (off + m) u, by simpa using h9, ?_⟩
  rw [← h10]
  simp only [Array.toList_setIfInBounds, List.drop_set]
  rw [if_neg (by omega), Nat.add_sub_cancel_left, List.take_set]
theorem u8s_set (bs : List Nat) (m c : Nat) : u8s (bs.set m c) = (u8s bs).set m (.int .u8 (c : Int)) := by simp [u8s, List.map_set]

set_option maxRecDepth 100000 in
set_option maxHeartbeats 2000000 in
theorem guards_much (v : Value) (M : ImgM.Mdl) (at_ one two : Int) (w : World) (hM : ModAt w v M) (hwf : Wf M) (hsz : (ImgM.mdlN M).length ≤ 1000000000000) (hl : 60000 < (ImgM.bytes M).length) :
    Calls Try.prog 13 #[v, .int .i64 at_, .int .i64 one, .int .i64 two] w fun e w' => e = .returned (.bool true) ∧ Below w.heap.size w w' := by
  have hby : ∀ w0, Keeps Nil w w0 → Calls Try.prog 22 #[v] w0 fun e w' => Keeps Nil w0 w' ∧ e = .returned (.tuple #[.slice none 0 0, .int .i64 4]) := fun w0 hk =>
    (bytes_any v M w0 (hM.keep hk) hwf hsz).mono fun e w' ⟨h1, h2⟩ => ⟨h1, by rcases h2 with ⟨h, -⟩ | ⟨-, h⟩; omega; exact h⟩
  have HBY := Lib.hid hby
  obtain ⟨bv, uv, ucs, rfl, -⟩ := hM
  clear hby hwf hsz hl
  go_enter Try.func13, Try.ntmps13
  go_wp2_with fail
  refine (alive_true _).mono ?_
  rintro e w0 ⟨rfl, hk0⟩
  have hk1 : Keeps Nil w w0 := ((Keeps.refl _ _).alloc _).trans hk0 (fun _ _ h => h)
  have hbx : Blk w0 w.heap.size #[bv, uv] 51 := (Blk.new w _ _).keep hk0 (fun h => h)
  have x0 := hbx.cell 0
  have x1 := hbx.cell 1
  simp at x0 x1
  clear hk0 hbx
  go_wp2_with fail
  refine (HBY.out w0 hk1).mono ?_
  rintro e w1 ⟨hk2, rfl⟩
  clear x0 x1
  go_wp2
  go_ret
  exact ⟨rfl, (hk1.trans hk2 (fun _ _ h => h)).below (Nat.le_refl _) (fun i h => h.elim)⟩

/-- Bytes, where it answers bytes -/
def Gives (w0 : World) (bs : List Nat) (n : Nat) (e : Ending) (w' : World) : Prop :=
  Keeps Nil w0 w' ∧ ∃ b o cap, e = .returned (.tuple #[.slice (some ⟨b, o, none⟩) n cap, .int .i64 0]) ∧ n ≤ cap ∧ Row w' (.slice (some ⟨b, o, none⟩) n cap) 1 n (u8s bs)

set_option maxRecDepth 100000 in
set_option maxHeartbeats 4000000 in
theorem guards_out (bv uv : Value) (bs : List Nat) (n : Nat) (at_ one two : Int) (w : World) (HBY : Hid (∀ w0, Keeps Nil w w0 → Calls Try.prog 22 #[.agg #[bv, uv]] w0 (Gives w0 bs n))) (hn : 2 ≤ n) (hn2 : n ≤ 60000)
    (h : at_ < 0 ∨ (n : Int) - 2 < at_ ∨ one < 0 ∨ 255 < one ∨ two < 0 ∨ 255 < two ∨ (one = 0 ∧ two = 0)) :
    Calls Try.prog 13 #[.agg #[bv, uv], .int .i64 at_, .int .i64 one, .int .i64 two] w fun e w' => e = .returned (.bool true) ∧ Below w.heap.size w w' := by
  obtain ⟨k, rfl⟩ : ∃ k, n = k + 2 := ⟨n - 2, by omega⟩
  have HN := Lib.hid hn2
  have hkb : k ≤ 9223372036854775000 := by omega
  clear hn hn2
  by_cases g1 : at_ < 0
  · have d1 : decide (at_ < 0) = true := by simpa using g1
    clear g1
    clear h
    go_enter Try.func13, Try.ntmps13
    go_wp2_with fail
    refine (alive_true _).mono ?_
    rintro e w0 ⟨rfl, hk0⟩
    have hk1 : Keeps Nil w w0 := ((Keeps.refl _ _).alloc _).trans hk0 (fun _ _ h => h)
    have hbx : Blk w0 w.heap.size #[bv, uv] 51 := (Blk.new w _ _).keep hk0 (fun h => h)
    have x0 := hbx.cell 0
    have x1 := hbx.cell 1
    simp at x0 x1
    clear hk0 hbx
    go_wp2_with fail
    refine (HBY.out w0 hk1).mono ?_
    rintro e w1 ⟨hk2, b, o, cap, rfl, hcap, hrow⟩
    clear x0 x1 hrow
    go_wp2
    go_ret
    exact ⟨rfl, (hk1.trans hk2 (fun _ _ h => h)).below (Nat.le_refl _) (fun i h => h.elim)⟩
  have d1 : decide (at_ < 0) = false := by simpa using g1
  by_cases g2 : (k : Int) < at_
  · have d2 : decide ((k : Int) < at_) = true := by simpa using g2
    clear g1 g2
    clear h
    go_enter Try.func13, Try.ntmps13
    go_wp2_with fail
    refine (alive_true _).mono ?_
    rintro e w0 ⟨rfl, hk0⟩
    have hk1 : Keeps Nil w w0 := ((Keeps.refl _ _).alloc _).trans hk0 (fun _ _ h => h)
    have hbx : Blk w0 w.heap.size #[bv, uv] 51 := (Blk.new w _ _).keep hk0 (fun h => h)
    have x0 := hbx.cell 0
    have x1 := hbx.cell 1
    simp at x0 x1
    clear hk0 hbx
    go_wp2_with fail
    refine (HBY.out w0 hk1).mono ?_
    rintro e w1 ⟨hk2, b, o, cap, rfl, hcap, hrow⟩
    clear x0 x1 hrow
    go_wp2
    go_ret
    exact ⟨rfl, (hk1.trans hk2 (fun _ _ h => h)).below (Nat.le_refl _) (fun i h => h.elim)⟩
  have d2 : decide ((k : Int) < at_) = false := by simpa using g2
  by_cases g3 : one < 0
  · have d3 : decide (one < 0) = true := by simpa using g3
    clear g1 g2 g3
    clear h
    go_enter Try.func13, Try.ntmps13
    go_wp2_with fail
    refine (alive_true _).mono ?_
    rintro e w0 ⟨rfl, hk0⟩
    have hk1 : Keeps Nil w w0 := ((Keeps.refl _ _).alloc _).trans hk0 (fun _ _ h => h)
    have hbx : Blk w0 w.heap.size #[bv, uv] 51 := (Blk.new w _ _).keep hk0 (fun h => h)
    have x0 := hbx.cell 0
    have x1 := hbx.cell 1
    simp at x0 x1
    clear hk0 hbx
    go_wp2_with fail
    refine (HBY.out w0 hk1).mono ?_
    rintro e w1 ⟨hk2, b, o, cap, rfl, hcap, hrow⟩
    clear x0 x1 hrow
    go_wp2
    go_ret
    exact ⟨rfl, (hk1.trans hk2 (fun _ _ h => h)).below (Nat.le_refl _) (fun i h => h.elim)⟩
  have d3 : decide (one < 0) = false := by simpa using g3
  by_cases g4 : 255 < one
  · have d4 : decide (255 < one) = true := by simpa using g4
    clear g1 g2 g3 g4
    clear h
    go_enter Try.func13, Try.ntmps13
    go_wp2_with fail
    refine (alive_true _).mono ?_
    rintro e w0 ⟨rfl, hk0⟩
    have hk1 : Keeps Nil w w0 := ((Keeps.refl _ _).alloc _).trans hk0 (fun _ _ h => h)
    have hbx : Blk w0 w.heap.size #[bv, uv] 51 := (Blk.new w _ _).keep hk0 (fun h => h)
    have x0 := hbx.cell 0
    have x1 := hbx.cell 1
    simp at x0 x1
    clear hk0 hbx
    go_wp2_with fail
    refine (HBY.out w0 hk1).mono ?_
    rintro e w1 ⟨hk2, b, o, cap, rfl, hcap, hrow⟩
    clear x0 x1 hrow
    go_wp2
    go_ret
    exact ⟨rfl, (hk1.trans hk2 (fun _ _ h => h)).below (Nat.le_refl _) (fun i h => h.elim)⟩
  have d4 : decide (255 < one) = false := by simpa using g4
  by_cases g5 : two < 0
  · have d5 : decide (two < 0) = true := by simpa using g5
    clear g1 g2 g3 g4 g5
    clear h
    go_enter Try.func13, Try.ntmps13
    go_wp2_with fail
    refine (alive_true _).mono ?_
    rintro e w0 ⟨rfl, hk0⟩
    have hk1 : Keeps Nil w w0 := ((Keeps.refl _ _).alloc _).trans hk0 (fun _ _ h => h)
    have hbx : Blk w0 w.heap.size #[bv, uv] 51 := (Blk.new w _ _).keep hk0 (fun h => h)
    have x0 := hbx.cell 0
    have x1 := hbx.cell 1
    simp at x0 x1
    clear hk0 hbx
    go_wp2_with fail
    refine (HBY.out w0 hk1).mono ?_
    rintro e w1 ⟨hk2, b, o, cap, rfl, hcap, hrow⟩
    clear x0 x1 hrow
    go_wp2
    go_ret
    exact ⟨rfl, (hk1.trans hk2 (fun _ _ h => h)).below (Nat.le_refl _) (fun i h => h.elim)⟩
  have d5 : decide (two < 0) = false := by simpa using g5
  by_cases g6 : 255 < two
  · have d6 : decide (255 < two) = true := by simpa using g6
    clear g1 g2 g3 g4 g5 g6
    clear h
    go_enter Try.func13, Try.ntmps13
    go_wp2_with fail
    refine (alive_true _).mono ?_
    rintro e w0 ⟨rfl, hk0⟩
    have hk1 : Keeps Nil w w0 := ((Keeps.refl _ _).alloc _).trans hk0 (fun _ _ h => h)
    have hbx : Blk w0 w.heap.size #[bv, uv] 51 := (Blk.new w _ _).keep hk0 (fun h => h)
    have x0 := hbx.cell 0
    have x1 := hbx.cell 1
    simp at x0 x1
    clear hk0 hbx
    go_wp2_with fail
    refine (HBY.out w0 hk1).mono ?_
    rintro e w1 ⟨hk2, b, o, cap, rfl, hcap, hrow⟩
    clear x0 x1 hrow
    go_wp2
    go_ret
    exact ⟨rfl, (hk1.trans hk2 (fun _ _ h => h)).below (Nat.le_refl _) (fun i h => h.elim)⟩
  have d6 : decide (255 < two) = false := by simpa using g6
  obtain ⟨rfl, rfl⟩ : one = 0 ∧ two = 0 := by simp at h; omega
  clear g1 g2 g3 g4 g5 g6 d3 d4 d5 d6
  clear h
  go_enter Try.func13, Try.ntmps13
  go_wp2_with fail
  refine (alive_true _).mono ?_
  rintro e w0 ⟨rfl, hk0⟩
  have hk1 : Keeps Nil w w0 := ((Keeps.refl _ _).alloc _).trans hk0 (fun _ _ h => h)
  have hbx : Blk w0 w.heap.size #[bv, uv] 51 := (Blk.new w _ _).keep hk0 (fun h => h)
  have x0 := hbx.cell 0
  have x1 := hbx.cell 1
  simp at x0 x1
  clear hk0 hbx
  go_wp2_with fail
  refine (HBY.out w0 hk1).mono ?_
  rintro e w1 ⟨hk2, b, o, cap, rfl, hcap, hrow⟩
  clear x0 x1 hrow
  go_wp2
  go_ret
  exact ⟨rfl, (hk1.trans hk2 (fun _ _ h => h)).below (Nat.le_refl _) (fun i h => h.elim)⟩

set_option maxRecDepth 100000 in
set_option maxHeartbeats 2000000 in
theorem guards_in (bv uv : Value) (bs : List Nat) (k a o1 o2 : Nat) (w : World) (HBY : Hid (∀ w0, Keeps Nil w w0 → Calls Try.prog 22 #[.agg #[bv, uv]] w0 (Gives w0 bs (k + 2)))) (hn2 : k + 2 ≤ 60000) (hb : ∀ c ∈ bs, c < 256) (hl : bs.length = k + 2)
    (ha : a ≤ k) (h1 : o1 < 256) (h2 : o2 < 256) (h3 : o1 ≠ 0 ∨ o2 ≠ 0)
    (hg : let c := (bs.set a (bs.getD a 0 ^^^ o1)).set (a + 1) (bs.getD (a + 1) 0 ^^^ o2); ImgM.crcFrom 65535#16 (c.take k) ≠ ImgM.word (c.getD k 0) (c.getD (k + 1) 0)) :
    Calls Try.prog 13 #[.agg #[bv, uv], .int .i64 a, .int .i64 o1, .int .i64 o2] w fun e w' => e = .returned (.bool true) ∧ Below w.heap.size w w' := by
  have HN := Lib.hid hn2
  have hkb : k ≤ 9223372036854775000 := by omega
  have HL := Lib.hid hl
  have HB := Lib.hid hb
  have HG := Lib.hid hg
  have hx1 : bs.getD a 0 < 256 := hb _ (by simp [List.getD_eq_getElem?_getD, show a < bs.length by omega])
  have hx2 : bs.getD (a + 1) 0 < 256 := hb _ (by simp [List.getD_eq_getElem?_getD, show a + 1 < bs.length by omega])
  have d2 : decide (k < a) = false := by simpa using ha
  have d3 : decide ((k : Int) < (a : Int)) = false := by simp; omega
  have d7 : decide ((a : Int) < 0) = false := by simp
  have d8 : decide ((o1 : Int) < 0) = false := by simp
  have d9 : decide ((o2 : Int) < 0) = false := by simp
  have d4 : decide ((255 : Int) < (o1 : Int)) = false := by simp; omega
  have d5 : decide ((255 : Int) < (o2 : Int)) = false := by simp; omega
  have d6 : ((o1 : Int) + (o2 : Int) == 0) = false := by rw [beq_eq_false_iff_ne]; omega
  have e1 := xor8 _ _ hx1 h1
  have e2 := xor8 _ _ hx2 h2
  have hxo1 : bs.getD a 0 ^^^ o1 < 256 := Nat.xor_lt_two_pow (n := 8) hx1 h1
  have hxo2 : bs.getD (a + 1) 0 ^^^ o2 < 256 := Nat.xor_lt_two_pow (n := 8) hx2 h2
  have hq1 : bs.getD a 0 = bs.getD a 0 := rfl
  have hq2 : bs.getD (a + 1) 0 = bs.getD (a + 1) 0 := rfl
  generalize hz1 : bs.getD a 0 ^^^ o1 = z1 at *
  generalize hz2 : bs.getD (a + 1) 0 ^^^ o2 = z2 at *
  generalize hy1 : bs.getD a 0 = y1 at e1 hx1 hz1
  generalize hy2 : bs.getD (a + 1) 0 = y2 at e2 hx2 hz2
  have HY1 := Lib.hid hy1
  have HY2 := Lib.hid hy2
  clear hz1 hz2 hy1 hy2 hq1 hq2
  have i1 : (a : Int) < (k : Int) + 2 := by omega
  have i2 : (a : Int) + 1 < (k : Int) + 2 := by omega
  have i3 : (0 : Int) ≤ (a : Int) := by omega
  have i4 : (0 : Int) ≤ (a : Int) + 1 := by omega
  have i5 : IntKind.i64.wrap ((a : Int) + 1) = (a : Int) + 1 := IntWalk.i64_in _ (by omega)
  clear hn2 hl hb hg h3
  go_enter Try.func13, Try.ntmps13
  go_wp2_with fail
  refine (alive_true _).mono ?_
  rintro e w0 ⟨rfl, hk0⟩
  have hk1 : Keeps Nil w w0 := ((Keeps.refl _ _).alloc _).trans hk0 (fun _ _ h => h)
  have hbx : Blk w0 w.heap.size #[bv, uv] 51 := (Blk.new w _ _).keep hk0 (fun h => h)
  have x0 := hbx.cell 0
  have x1 := hbx.cell 1
  simp at x0 x1
  clear hk0 hbx
  go_wp2_with fail
  refine (HBY.out w0 hk1).mono ?_
  rintro e w1 ⟨hk2, b, o, cap, rfl, hcap, hrow⟩
  clear x0 x1
  have hkA := hk1.trans hk2 (fun _ _ h => h)
  clear hk1 hk2
  go_wp2_with (at_builtin; refine ownS rfl _ _ 52 rfl w1.heap.size 5 (.int .u8 0) 1 1 Try.underlying52 (by kernel_rfl) rfl (by decide) (.slice (some ⟨w1.heap.size, 0, none⟩) 0 0) 0 [] rfl (Own.empty (by repeat (first | (with_reducible refine Blk.new' ?_; simp; done) | with_reducible refine Blk.alloc ?_ _ | with_reducible refine Blk.drew ?_ | with_reducible refine Blk.drewN ?_ _)) (by simp)) _ (k + 2) (u8s bs) rfl (by exact Row.keep (S := Nil) hrow (by repeat (first | with_reducible exact Keeps.refl _ _ | with_reducible refine Keeps.alloc ?_ _ | with_reducible refine Keeps.drew ?_ | with_reducible refine Keeps.drewN ?_ _ | exact Keeps.refl _ _)) (fun _ _ h => h)) (by intro u hu; obtain ⟨_, _, rfl⟩ := List.mem_map.1 hu; rfl) (by unfold maxLen; omega) (by have := HN.out; omega) (by simp) ?_; intro v1 w2 hown1 hk2 hat; have HAT := Lib.hid hat; clear hat)
  simp only [Nat.zero_add, List.nil_append] at hown1
  obtain ⟨b2, p2, cap2, rfl, hb2, hb3, hcap2, c1, f1⟩ := Own.at hown1 (j := a) (by omega)
  obtain ⟨b2', p2', cap2', he2, -, -, -, c2, f2⟩ := Own.at hown1 (j := a + 1) (by omega)
  simp only [Value.slice.injEq, Option.some.injEq, Addr.mk.injEq, and_true, true_and] at he2
  obtain ⟨⟨rfl, rfl⟩, rfl⟩ := he2
  have hk3 : Keeps Nil w w2 := Keeps.trans (by repeat (first | with_reducible exact hkA | with_reducible refine Keeps.alloc ?_ _ | with_reducible refine Keeps.drew ?_ | with_reducible refine Keeps.drewN ?_ _ | exact hkA)) hk2 (fun i hi h => by simp [Value.ownBlock] at h; have := hkA.size; omega)
  have HK2 := Lib.hid hk3
  have HOW := Lib.hid hown1
  have i6 : ((a : Int) + 1).toNat = a + 1 := by omega
  clear hown1 hk2 hrow hk3
  rw [HY1.out] at c1
  rw [HY2.out] at c2
  go_region
  have hown3 := own_put (own_put HOW.out (m := a) (by omega) (.int .u8 (z1 : Int))) (m := a + 1) (by omega) (.int .u8 (z2 : Int))
  rw [← u8s_set, ← u8s_set] at hown3
  have hk3 : Keeps Nil w (((w2.setCell ⟨b2, p2 + a, none⟩ (.int .u8 (z1 : Int))).setCell ⟨b2, p2 + (a + 1), none⟩ (.int .u8 (z2 : Int))).drew) := by
    have := hkA.size
    exact ((HK2.out.setCell (fun h => absurd h (by simp only; omega)) _).setCell (fun h => absurd h (by simp only; omega)) _).drew
  have hown3 := hown3.drew
  generalize World.drew (World.setCell (World.setCell w2 _ _) _ _) = w3 at *
  have hlen : ((bs.set a z1).set (a + 1) z2).length = k + 2 := by have := HL.out; simp [this]
  have hpar := parse_fit (.slice (some ⟨b2, p2, none⟩) (k + 2) cap2) k _ w3 (hown3.row (by omega)) (by
    intro c hc
    rcases List.mem_or_eq_of_mem_set hc with hc | rfl
    · rcases List.mem_or_eq_of_mem_set hc with hc | rfl
      · exact HB.out c hc
      · exact hxo1
    · exact hxo2) HN.out HG.out
  have HPA := Lib.hid hpar
  have HK3 := Lib.hid hk3
  clear hpar hown3 hk3 c1 c2 f1 f2 hlen HK2 hxo1 hxo2
  go_wp2_with fail
  refine HPA.out.mono ?_
  rintro e w4 ⟨rfl, hk4⟩
  go_wp2
  go_ret
  exact ⟨rfl, ((HK3.out.trans hk4 (fun _ _ h => h)).alloc _).below (Nat.le_refl _) (fun i h => h.elim)⟩
end Go.Proofs.Ytninmkkcphnniaa.Img
