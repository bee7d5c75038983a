/- yieldref6.Sum: its walk: a long division, bit by bit, gives the same rest. -/
import Derived.Test.YtninmkkcphnniaaImgSum
namespace Go.Proofs.Ytninmkkcphnniaa.ImgM
def rbit (r : BitVec 16) (b : Nat) : BitVec 16 := if r.toNat / 32768 = b then r <<< 1 else (r <<< 1) ^^^ 4129#16

theorem top_bit (r : BitVec 16) : r.toNat / 32768 = if r.msb then 1 else 0 := by
  have := r.isLt
  rw [BitVec.msb_eq_decide]
  split <;> rename_i h <;> simp at h <;> omega

theorem bit1x (r s : BitVec 16) : bit1 (r ^^^ s) = rbit r (s.toNat / 32768) ^^^ (s <<< 1) := by
  unfold bit1 rbit
  rw [top_bit, top_bit, top_bit, BitVec.msb_xor, BitVec.shiftLeft_xor_distrib]
  have e : ∀ a b c : BitVec 16, a ^^^ (b ^^^ c) = b ^^^ (a ^^^ c) := fun a b c => by rw [← BitVec.xor_assoc, BitVec.xor_comm a b, BitVec.xor_assoc]
  cases r.msb <;> cases s.msb <;> simp [BitVec.xor_assoc, BitVec.xor_comm] <;> exact e _ _ _

theorem shl_of (c j : Nat) : BitVec.ofNat 16 (c * 2 ^ (8 + j)) <<< 1 = BitVec.ofNat 16 (c * 2 ^ (8 + (j + 1))) := by
  apply BitVec.eq_of_toNat_eq
  simp only [BitVec.toNat_shiftLeft, BitVec.toNat_ofNat, Nat.shiftLeft_eq]
  rw [show 8 + (j + 1) = (8 + j) + 1 by omega, Nat.pow_succ 2 (8 + j), ← Nat.mul_assoc]
  generalize c * 2 ^ (8 + j) = q
  simp only [Nat.reducePow]
  omega

theorem top_of (c t : Nat) (ht : t ≤ 7) : (BitVec.ofNat 16 (c * 2 ^ (8 + (7 - t)))).toNat / 32768 = c / 2 ^ t % 2 := by
  simp only [BitVec.toNat_ofNat]
  have e : 32768 = 2 ^ (8 + (7 - t)) * 2 ^ t := by rw [← Nat.pow_add, show 8 + (7 - t) + t = 15 by omega]
  rw [show 2 ^ 16 = 32768 * 2 by decide, Nat.mod_mul_right_div_self]
  congr 1
  rw [e, ← Nat.div_div_eq_div_mul, Nat.mul_div_cancel _ (Nat.two_pow_pos _)]

/-- t bits are still to come -/
theorem bit_step (z r : BitVec 16) (c t : Nat) (ht : t ≤ 7) (h : bitN (7 - t) z = r ^^^ BitVec.ofNat 16 (c * 2 ^ (8 + (7 - t)))) :
    bitN (8 - t) z = rbit r (c / 2 ^ t % 2) ^^^ BitVec.ofNat 16 (c * 2 ^ (8 + (8 - t))) := by
  rw [show 8 - t = (7 - t) + 1 by omega, bitN, h, bit1x, top_of c t ht, shl_of]
theorem bit_end (z r : BitVec 16) (c : Nat) (h : bitN 8 z = r ^^^ BitVec.ofNat 16 (c * 2 ^ (8 + 8))) : r = bitN 8 z := by
  rw [h]
  have : BitVec.ofNat 16 (c * 2 ^ (8 + 8)) = 0#16 := by
    apply BitVec.eq_of_toNat_eq
    simp
  rw [this, BitVec.xor_zero]
end Go.Proofs.Ytninmkkcphnniaa.ImgM
namespace Go.Proofs.Ytninmkkcphnniaa.Img
open Go.RowKit
set_option linter.unusedVariables false

theorem i64_small (n : Int) (h0 : 0 ≤ n) (h1 : n < 2 ^ 63) : IntKind.i64.wrap n = n := IntWalk.i64_in _ (by omega)
theorem and64 (a b : Nat) (ha : a < 2 ^ 63) (hb : b < 2 ^ 63) : bits BinOp.and IntKind.i64 (a : Int) (b : Int) = ((a &&& b : Nat) : Int) :=
  (bits_nat .i64 63 (by decide) i64_small a b ha hb).1
theorem xor64i (a b : Nat) (ha : a < 2 ^ 16) (hb : b < 2 ^ 16) : bits BinOp.xor IntKind.i64 (a : Int) (b : Int) = ((a ^^^ b : Nat) : Int) := by
  simp only [bits]
  have h : (BitVec.ofInt 64 (a : Int) ^^^ BitVec.ofInt 64 (b : Int)).toNat = a ^^^ b := by
    simp [BitVec.ofInt_natCast, BitVec.toNat_xor, Nat.mod_eq_of_lt (Nat.lt_trans ha (show 2 ^ 16 < 18446744073709551616 by decide)), Nat.mod_eq_of_lt (Nat.lt_trans hb (show 2 ^ 16 < 18446744073709551616 by decide))]
  have h2 : a ^^^ b < 2 ^ 16 := Nat.xor_lt_two_pow ha hb
  show IntKind.i64.wrap (((BitVec.ofInt 64 (a : Int) ^^^ BitVec.ofInt 64 (b : Int)).toNat : Nat) : Int) = _
  rw [h]
  exact i64_small _ (by omega) (by omega)
theorem rbit_eq (r : BitVec 16) : ((r.toNat : Int) * 2) = ((r.toNat * 2 : Nat) : Int) := by omega
theorem shl_and (r : BitVec 16) : bits BinOp.and IntKind.i64 ((r.toNat : Int) * 2) 65535 = ((r <<< 1).toNat : Int) := by
  have := r.isLt
  rw [rbit_eq]
  refine (and64 (r.toNat * 2) 65535 (by omega) (by decide)).trans ?_
  rw [show 65535 = 2 ^ 16 - 1 by decide, Nat.and_two_pow_sub_one_eq_mod]
  simp [BitVec.toNat_shiftLeft, Nat.shiftLeft_eq]
theorem bit_and (c t : Nat) (hc : c < 256) : bits BinOp.and IntKind.i64 ((c : Int) / 2 ^ t) 1 = ((c / 2 ^ t % 2 : Nat) : Int) := by
  have h : c / 2 ^ t ≤ c := Nat.div_le_self _ _
  have e : ((c : Int) / 2 ^ t) = ((c / 2 ^ t : Nat) : Int) := by simp
  rw [e]
  refine (and64 (c / 2 ^ t) 1 (by omega) (by decide)).trans ?_
  rw [Nat.and_one_is_mod]

set_option maxRecDepth 100000 in
set_option maxHeartbeats 1000000 in
theorem ref_sum (v : Value) (n : Nat) (bs : List Nat) (w : World) (hv : Row w v 1 n (u8s bs)) (hb : ∀ c ∈ bs, c < 256) :
    Calls Try.prog 26 #[v] w fun e w' => e = .returned (.int .u16 (ImgM.crc bs : Nat)) ∧ w = w' := by
  obtain ⟨ai, ci, rfl, hci, hni⟩ := hv.shape
  have hl : bs.length = n := by simpa [u8s] using hv.1
  have HL := Lib.hid hl
  clear hl
  go_enter Try.func26, Try.ntmps26
  go_wp2
  go_loop [3, 5, 6, 7, 10] (fun r _ _ _ i => ∃ (k : Nat) (x : BitVec 16), k ≤ n ∧ i = .int .i64 k ∧ r = .int .i64 (x.toNat : Int) ∧ Hid (x = ImgM.crcFrom 65535#16 (bs.take k))) (fun _ _ _ _ i => n - (intOf i).toNat)
  case atStart => exact ⟨0, 65535#16, Nat.zero_le _, rfl, rfl, Lib.hid (by simp [ImgM.crcFrom])⟩
  case round =>
    obtain ⟨k, x, hk, rfl, rfl, hx⟩ := hrel
    by_cases hkn : k < n
    · obtain ⟨b, o, rfl⟩ := hv.form (by omega)
      have c1 := row_u8s hv k hkn
      have hcb : bs.getD k 0 < 256 := hb _ (by
        have h : k < bs.length := by have := HL.out; omega
        simp [List.getD_eq_getElem?_getD, h])
      have hnx := ImgM.crcFrom_take 65535#16 bs k (by have := HL.out; omega)
      rw [← hx.out] at hnx
      have HN := Lib.hid hnx
      clear hnx hx hv hb
      generalize bs.getD k 0 = c at *
      go_wp2
      go_loop [3, 6, 7] (fun r i _ => ∃ (t : Nat) (y : BitVec 16), t ≤ 8 ∧ i = .int .i64 ((t : Int) - 1) ∧ r = .int .i64 (y.toNat : Int) ∧ Hid (ImgM.bitN (8 - t) (x ^^^ BitVec.ofNat 16 (c * 256)) = y ^^^ BitVec.ofNat 16 (c * 2 ^ (8 + (8 - t))))) (fun _ i _ => ((intOf i) + 1).toNat)
      case atStart => exact ⟨8, x, by omega, rfl, rfl, Lib.hid rfl⟩
      case round =>
        obtain ⟨t, y, ht, rfl, rfl, hy⟩ := hrel
        by_cases ht0 : 0 < t
        · obtain ⟨t, rfl⟩ : ∃ s, t = s + 1 := ⟨t - 1, by omega⟩
          have hylt := y.isLt
          rw [show ((t + 1 : Nat) : Int) - 1 = (t : Int) by omega]
          have h1 := ImgM.bit_step (x ^^^ BitVec.ofNat 16 (c * 256)) y c t (by omega) (by rw [show 7 - t = 8 - (t + 1) by omega]; exact hy.out)
          have e1 := shl_and y
          have e2 := bit_and c t hcb
          have e3 : bits BinOp.xor IntKind.i64 ((y <<< 1).toNat : Int) 4129 = (((y <<< 1) ^^^ 4129#16).toNat : Int) := (xor64i (y <<< 1).toNat 4129 (y <<< 1).isLt (by decide)).trans (by rw [BitVec.toNat_xor]; rfl)
          have q2 : c / 2 ^ t % 2 < 2 := Nat.mod_lt _ (by decide)
          generalize c / 2 ^ t % 2 = q at *
          by_cases hq : y.toNat / 32768 = q
          · have d1 : ((y.toNat : Int) / 32768 != (q : Int)) = false := by simp; omega
            have hr : ImgM.rbit y q = y <<< 1 := by simp [ImgM.rbit, hq]
            rw [hr] at h1
            have HH := Lib.hid h1
            clear hr h1 hq hy e3 q2
            go_wp2
            go_round
            case rel => exact ⟨t, y <<< 1, by omega, rfl, rfl, HH⟩
            case measure => simp [intOf] <;> omega
          · have d1 : ((y.toNat : Int) / 32768 != (q : Int)) = true := by rw [bne_iff_ne]; omega
            have hr : ImgM.rbit y q = (y <<< 1) ^^^ 4129#16 := by simp [ImgM.rbit, hq]
            rw [hr] at h1
            clear hr
            generalize y <<< 1 = y1 at *
            generalize hz : y1 ^^^ 4129#16 = z1 at *
            have HH := Lib.hid h1
            clear h1 hq hy q2 hz
            go_wp2
            go_round
            case rel => exact ⟨t, z1, by omega, rfl, rfl, HH⟩
            case measure => simp [intOf] <;> omega
        · obtain rfl : t = 0 := by omega
          have hend := ImgM.bit_end _ y c hy.out
          have HE := Lib.hid hend
          clear hend hy
          go_wp2
          go_round
          case rel => exact ⟨k + 1, y, by omega, by go_num, rfl, Lib.hid (by rw [HN.out, HE.out]; rfl)⟩
          case measure => simp [intOf]; omega
    · obtain rfl : k = n := by omega
      have he : x.toNat = ImgM.crc bs := by rw [hx.out, List.take_of_length_le (by have := HL.out; omega)]; rfl
      have HE := Lib.hid he
      clear he hb
      go_wp2
      go_ret
      exact ⟨by show Ending.returned (Value.int .u16 (x.toNat : Int)) = _; rw [HE.out], rfl⟩
end Go.Proofs.Ytninmkkcphnniaa.Img
