/- image.Sum: its walk. -/
import Derived.Test.YtninmkkcphnniaaProg
import Derived.Test.YtninmkkcphnniaaOwn
import Derived.Test.YtninmkkcphnniaaImgMath
namespace Go.Proofs.Ytninmkkcphnniaa.Img
open Go.RowKit
set_option linter.unusedVariables false

theorem wrap_u16 (n : Int) : IntKind.u16.wrap n = n % 65536 := by simp [IntKind.wrap, IntKind.bits, IntKind.signed]

theorem xor16 (x y : BitVec 16) (a b : Int) (ha : BitVec.ofInt 16 a = x) (hb : BitVec.ofInt 16 b = y) : bits BinOp.xor IntKind.u16 a b = ((x ^^^ y).toNat : Int) := by
  subst ha hb
  have h : (BitVec.ofInt 16 a ^^^ BitVec.ofInt 16 b).toNat < 65536 := BitVec.isLt _
  simp only [bits]
  rw [wrap_u16]
  show (((BitVec.ofInt 16 a ^^^ BitVec.ofInt 16 b).toNat : Nat) : Int) % 65536 = _
  omega

theorem of16 (x : BitVec 16) : BitVec.ofInt 16 (x.toNat : Int) = x := by simp
theorem of16_wrap (n : Int) : BitVec.ofInt 16 (IntKind.u16.wrap n) = BitVec.ofInt 16 n := by
  rw [wrap_u16]
  apply BitVec.eq_of_toInt_eq
  simp [BitVec.toInt_ofInt]
  have : ((65536 : Nat) : Int) = 65536 := rfl
  rw [← this, Int.emod_bmod]

theorem shl16 (y : BitVec 16) : BitVec.ofInt 16 ((y.toNat : Int) * 2) = y <<< 1 := by
  apply BitVec.eq_of_toNat_eq
  simp [BitVec.toNat_shiftLeft, Nat.shiftLeft_eq]
  omega
theorem shl16v (y : BitVec 16) : IntKind.u16.wrap ((y.toNat : Int) * 2) = ((y <<< 1).toNat : Int) := by
  rw [wrap_u16]
  simp [BitVec.toNat_shiftLeft, Nat.shiftLeft_eq]

theorem byte_in (x : BitVec 16) (c : Nat) (hc : c < 256) : bits BinOp.xor IntKind.u16 (x.toNat : Int) ((c : Int) * 256) = ((x ^^^ BitVec.ofNat 16 (c * 256)).toNat : Int) := by
  refine xor16 x _ _ _ (of16 x) ?_
  apply BitVec.eq_of_toNat_eq
  simp
  omega

def u8s (l : List Nat) : List Value := l.map fun b : Nat => Value.int .u8 (b : Int)
theorem row_u8s {w : World} {b off n cap : Nat} {bs : List Nat} (h : Row w (.slice (some ⟨b, off, none⟩) n cap) 1 n (u8s bs)) (j : Nat) (hj : j < n) : w.cell? ⟨b, off + j, none⟩ = some (.int .u8 ((bs.getD j 0 : Nat) : Int)) := by
  have hl := h.1
  simp [u8s] at hl
  rw [h.cellsAt j (by omega)]
  simp [u8s, List.getD_eq_getElem?_getD, show j < bs.length by omega]

set_option maxHeartbeats 400000 in
theorem sum_any (v : Value) (n : Nat) (bs : List Nat) (w : World) (hv : Row w v 1 n (u8s bs)) (hb : ∀ c ∈ bs, c < 256) :
    Calls Try.prog 25 #[v] w fun e w' => e = .returned (.int .u16 (ImgM.crc bs : Nat)) ∧ w = w' := by
  obtain ⟨ai, ci, rfl, hci, hni⟩ := hv.shape
  have hl : bs.length = n := by simpa [u8s] using hv.1
  have HL := Lib.hid hl
  clear hl
  go_enter Try.func25, Try.ntmps25
  go_wp2
  go_loop [3, 5, 6, 9, 18] (fun r _ _ i _ => ∃ (k : Nat) (x : BitVec 16), k ≤ n ∧ i = .int .i64 k ∧ r = .int .u16 (x.toNat : Int) ∧ Hid (x = ImgM.crcFrom 65535#16 (bs.take k))) (fun _ _ _ i _ => n - (intOf i).toNat)
  case atStart => exact ⟨0, 65535#16, Nat.zero_le _, rfl, rfl, Lib.hid (by simp [ImgM.crcFrom])⟩
  case round =>
    obtain ⟨k, x, hk, rfl, rfl, hx⟩ := hrel
    by_cases hkn : k < n
    · obtain ⟨b, o, rfl⟩ := hv.form (by omega)
      have c1 := row_u8s hv k hkn
      have hcb : bs.getD k 0 < 256 := hb _ (by
        have h : k < bs.length := by have := HL.out; omega
        simp [List.getD_eq_getElem?_getD, h])
      have hnx := ImgM.crcFrom_take 65535#16 bs k (by have := HL.out; omega)
      rw [← hx.out] at hnx
      have HN := Lib.hid hnx
      clear hnx hx hv hb
      generalize bs.getD k 0 = c at *
      have hby := byte_in x c hcb
      generalize hz : x ^^^ BitVec.ofNat 16 (c * 256) = z at *
      have HZ := Lib.hid hz
      clear hz
      go_wp2
      clear hby
      go_loop [3, 6, 18] (fun r _ i => ∃ (j : Nat) (y : BitVec 16), j ≤ 8 ∧ i = .int .i64 j ∧ r = .int .u16 (y.toNat : Int) ∧ Hid (y = ImgM.bitN j z)) (fun _ _ i => 8 - (intOf i).toNat)
      case atStart => exact ⟨0, z, by omega, rfl, rfl, Lib.hid rfl⟩
      case round =>
        obtain ⟨j, y, hj, rfl, rfl, hy⟩ := hrel
        by_cases hj8 : j < 8
        · have hylt := y.isLt
          have e1 := xor16 (y <<< 1) 4129#16 (IntKind.u16.wrap ((y.toNat : Int) * 2)) 4129 (by rw [of16_wrap, shl16]) rfl
          have e2 := shl16v y
          by_cases ht : y.toNat / 32768 = 1
          · have hb1 : ImgM.bit1 y = (y <<< 1) ^^^ 4129#16 := by simp [ImgM.bit1, ht]
            have ht' : (((y.toNat : Int) / 32768) == 1) = true := by rw [beq_iff_eq]; omega
            have HB := Lib.hid hb1
            clear ht hb1 e2
            go_wp2
            go_round
            case rel => exact ⟨j + 1, (y <<< 1) ^^^ 4129#16, by omega, by go_num, by simp, Lib.hid (by rw [ImgM.bitN, ← hy.out, HB.out])⟩
            case measure => simp [intOf]; omega
          · have hb1 : ImgM.bit1 y = y <<< 1 := by simp [ImgM.bit1, ht]
            have ht' : (((y.toNat : Int) / 32768) == 1) = false := by rw [beq_eq_false_iff_ne]; omega
            have HB := Lib.hid hb1
            clear ht hb1 e1
            go_wp2
            go_round
            case rel => exact ⟨j + 1, y <<< 1, by omega, by go_num, by simp, Lib.hid (by rw [ImgM.bitN, ← hy.out, HB.out])⟩
            case measure => simp [intOf]; omega
        · obtain rfl : j = 8 := by omega
          go_wp2
          go_round
          case rel => exact ⟨k + 1, y, by omega, by go_num, rfl, Lib.hid (by rw [HN.out, hy.out, ← HZ.out]; rfl)⟩
          case measure => simp [intOf]; omega
    · obtain rfl : k = n := by omega
      have he : x.toNat = ImgM.crc bs := by rw [hx.out, List.take_of_length_le (by have := HL.out; omega)]; rfl
      have HE := Lib.hid he
      clear he hb
      go_wp2
      go_ret
      exact ⟨by show Ending.returned (Value.int .u16 (x.toNat : Int)) = _; rw [HE.out], rfl⟩
end Go.Proofs.Ytninmkkcphnniaa.Img
