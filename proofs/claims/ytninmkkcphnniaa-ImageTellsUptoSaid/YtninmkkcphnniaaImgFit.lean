/- image.Parse: where the check sum does not fit. -/
import Derived.Test.YtninmkkcphnniaaImgSum
import Derived.Test.YtninmkkcphnniaaImgGuard
import Derived.Deep.QuietTactic
import Derived.BigQuiet
namespace Go.Proofs.Ytninmkkcphnniaa.Img
open Go.RowKit
set_option linter.unusedVariables false
set_option linter.unusedSimpArgs false

theorem or16 (x y : Nat) (hx : x < 256) (hy : y < 256) : bits BinOp.or IntKind.u16 ((x : Int) * 256) (y : Int) = ((x * 256 + y : Nat) : Int) := by
  have e : ((x : Int) * 256) = ((x * 256 : Nat) : Int) := by omega
  rw [e]
  have := (bits_nat .u16 16 (by decide) (fun n h0 h1 => by rw [wrap_u16]; omega) (x * 256) y (by omega) (by omega)).2
  refine this.trans ?_
  have h8 : y < 2 ^ 8 := by omega
  have := Nat.two_pow_add_eq_or_of_lt h8 x
  rw [show x * 256 = 2 ^ 8 * x by omega, ← this]

theorem word_nat (x y : Nat) (hx : x < 256) (hy : y < 256) : (ImgM.word x y).toNat = x * 256 + y := by
  have := ImgM.word_of (BitVec.ofNat 16 (x * 256 + y))
  have e1 : (BitVec.ofNat 16 (x * 256 + y)).toNat = x * 256 + y := by simp; omega
  rw [e1] at this
  rw [show (x * 256 + y) / 256 = x by omega, show (x * 256 + y) % 256 = y by omega] at this
  rw [this, e1]

theorem row_cut {w : World} {ao : Option Addr} {cap n m : Nat} {bs : List Nat} (h : Row w (.slice ao n cap) 1 n (u8s bs)) (hm : m ≤ n) : Row w (.slice ao m cap) 1 m (u8s (bs.take m)) := by
  obtain ⟨h1, h2, ao', cap', he, h3, h4⟩ := h
  simp only [Value.slice.injEq] at he
  obtain ⟨rfl, -, rfl⟩ := he
  simp [u8s] at h1
  refine ⟨by simp [u8s]; omega, by omega, ao, cap, rfl, by omega, fun h0 => ?_⟩
  obtain ⟨b, off, rfl, hc⟩ := h4 (by omega)
  refine ⟨b, off, rfl, fun j hj => ?_⟩
  rw [hc j (by omega)]
  simp only [u8s, List.map_take]
  rw [List.getElem?_take, if_pos (by omega)]

set_option maxRecDepth 100000 in
set_option maxHeartbeats 1000000 in
theorem parse_fit (v : Value) (k : Nat) (bs : List Nat) (w : World) (hv : Row w v 1 (k + 2) (u8s bs)) (hb : ∀ c ∈ bs, c < 256) (hk : k + 2 ≤ 60000)
    (hne : ImgM.crcFrom 65535#16 (bs.take k) ≠ ImgM.word (bs.getD k 0) (bs.getD (k + 1) 0)) :
    Calls Try.prog 27 #[v] w fun e w' => e = .returned (.tuple #[.agg #[.slice none 0 0, .slice none 0 0], .int .i64 8]) ∧ Keeps Nil w w' := by
  obtain ⟨ai, ci, rfl, hci, hni⟩ := hv.shape
  obtain ⟨b, o, rfl⟩ := hv.form (by omega)
  have hl : bs.length = k + 2 := by simpa [u8s] using hv.1
  have c1 := row_u8s hv k (by omega)
  have c2 := row_u8s hv (k + 1) (by omega)
  have hx : bs.getD k 0 < 256 := hb _ (by simp [List.getD_eq_getElem?_getD, show k < bs.length by omega])
  have hy : bs.getD (k + 1) 0 < 256 := hb _ (by simp [List.getD_eq_getElem?_getD, show k + 1 < bs.length by omega])
  have hrow := row_cut hv (m := k) (by omega)
  have hsum : ∀ w', Keeps Nil w w' → Calls Try.prog 25 #[.slice (some ⟨b, o, none⟩) k ci] w' fun e w'' => e = .returned (.int .u16 (ImgM.crc (bs.take k) : Nat)) ∧ w'' = w' := fun w' hk' =>
    (sum_any _ k (bs.take k) w' (hrow.keep hk' (fun _ _ h => h)) (fun c hc => hb c (List.mem_of_mem_take hc))).mono fun e w' ⟨h1, h2⟩ => ⟨h1, h2.symm⟩
  have hor : bits BinOp.or IntKind.u16 (IntKind.u16.wrap (IntKind.u16.wrap ((bs.getD k 0 : Nat) : Int) * 256)) (IntKind.u16.wrap ((bs.getD (k + 1) 0 : Nat) : Int)) = ((bs.getD k 0 * 256 + bs.getD (k + 1) 0 : Nat) : Int) := by
    rw [← or16 _ _ hx hy, wrap_u16, wrap_u16, wrap_u16]
    congr 1 <;> omega
  have hor2 := or16 _ _ hx hy
  have hwk : IntKind.i64.wrap ((k : Int) + 1) = (k : Int) + 1 := IntWalk.i64_in _ (by omega)
  have hwk2 : ((k : Int) + 1).toNat = k + 1 := by omega
  have hcne : ((ImgM.crc (bs.take k) : Nat) : Int) ≠ ((bs.getD k 0 * 256 + bs.getD (k + 1) 0 : Nat) : Int) := by
    rw [← word_nat _ _ hx hy]
    intro h
    exact hne (BitVec.eq_of_toNat_eq (by unfold ImgM.crc at h; omega))
  generalize bs.getD k 0 = x at *
  generalize bs.getD (k + 1) 0 = y at *
  generalize ImgM.crc (bs.take k) = C at *
  generalize hD : x * 256 + y = D at *
  have d1 : ((C : Int) != (D : Int)) = true := by simpa using hcne
  have HS := Lib.hid hsum
  have i0 : (0 : Int) ≤ (k : Int) := Int.natCast_nonneg _
  have i1 : (k : Int) < (k : Int) + 2 := by omega
  have i2 : (k : Int) + 1 < (k : Int) + 2 := by omega
  have i3 : (k : Int) ≤ (ci : Int) := by omega
  have i4 : (0 : Int) ≤ (k : Int) + 1 := by omega
  have d2 : decide ((60000 : Int) < (k : Int) + 2) = false := by simp; omega
  have d3 : decide ((k : Int) < 0) = false := by simp
  clear hD hcne hsum hrow hl hv hb hne hk
  go_enter Try.func27, Try.ntmps27
  go_wp2
  generalize hW : World.alloc (World.alloc w _) _ = w2 at *
  have hk2 : Keeps Nil w w2 := by rw [← hW]; exact ((Keeps.refl _ _).alloc _).alloc _
  have hb1 : Blk w2 w.heap.size #[.slice none 0 0, .slice none 0 0] 51 := by rw [← hW]; exact (Blk.new _ _ _).alloc _
  have hb2 : Blk w2 (w.heap.size + 1) #[.int .i64 0] 25 := by rw [← hW]; exact Blk.new' (by simp)
  have e1 := (hk2.cell (p := ⟨b, o + k, none⟩) (World.block_lt_of_cell? w _ c1) (fun h => h)).trans c1
  have e2 := (hk2.cell (p := ⟨b, o + (k + 1), none⟩) (World.block_lt_of_cell? w _ c2) (fun h => h)).trans c2
  have HS2 := Lib.hid (fun q => HS.out (w2.drewN q) (hk2.drewN q))
  have m0 := hb1.cell 0
  have m1 := hb1.cell 1
  have m2 := hb2.cell 0
  have f0 := hb1.free 0
  have f1 := hb1.free 1
  have f2 := hb2.free 0
  simp at m0 m1 m2
  have l1 := hb1.lt
  have l2 := hb2.lt
  clear hW c1 c2
  go_quiet ((go_at_call 25; exact Calls.quiet_of_same (HS2.out _)))
  go_wp2
  refine bodyPost_ret (v := .tuple #[.agg #[.slice none 0 0, .slice none 0 0], .int .i64 8]) (by simp [results, Try.results27, go_sem, m0, m1, m2, f0, f1, f2, l1, l2]) rfl ⟨rfl, ?_⟩
  exact (((hk2.drewN _).setCell (fun h => absurd h (Nat.lt_irrefl _)) _).setCell (fun h => absurd h (Nat.lt_irrefl _)) _).setCell (fun h => absurd h (show ¬ w.heap.size + 1 < w.heap.size by omega)) _
end Go.Proofs.Ytninmkkcphnniaa.Img
