/- Plain mathematics: the check sum tells of one or two bytes that stand together. Nothing of the program stands here. -/
import Derived.Test.YtninmkkcphnniaaImgMath
namespace Go.Proofs.Ytninmkkcphnniaa.ImgM

theorem bit1_eq (y : BitVec 16) : bit1 y = (y <<< 1) ^^^ (if y.msb then 4129#16 else 0#16) := by
  unfold bit1
  have h : (y.toNat / 32768 = 1) ↔ y.msb = true := by
    rw [BitVec.msb_eq_decide]
    have := y.isLt
    simp
    omega
  by_cases hm : y.msb = true
  · rw [if_pos (h.2 hm), if_pos hm]
  · rw [if_neg (fun e => hm (h.1 e)), if_neg hm]; simp

theorem bit1_xor (a b : BitVec 16) : bit1 (a ^^^ b) = bit1 a ^^^ bit1 b := by
  simp only [bit1_eq, BitVec.shiftLeft_xor_distrib, BitVec.msb_xor]
  cases a.msb <;> cases b.msb <;> simp
  · ac_rfl
  · ac_rfl
  · rw [show (a <<< 1) ^^^ 4129#16 ^^^ ((b <<< 1) ^^^ 4129#16) = ((a <<< 1) ^^^ (b <<< 1)) ^^^ (4129#16 ^^^ 4129#16) by ac_rfl]
    simp

theorem bit1_zero {a : BitVec 16} (h : bit1 a = 0#16) : a = 0#16 := by
  rw [bit1_eq] at h
  by_cases hm : a.msb = true
  · rw [if_pos hm] at h
    have h0 := congrArg (fun x => x.getLsbD 0) h
    simp at h0
  · rw [if_neg hm] at h
    simp only [BitVec.xor_zero] at h
    have hm' : a.toNat < 32768 := by
      rw [BitVec.msb_eq_decide] at hm
      simpa using hm
    have h1 := congrArg BitVec.toNat h
    rw [BitVec.toNat_shiftLeft, Nat.shiftLeft_eq] at h1
    apply BitVec.eq_of_toNat_eq
    simp at h1 ⊢
    omega

theorem bitN_xor (n : Nat) (a b : BitVec 16) : bitN n (a ^^^ b) = bitN n a ^^^ bitN n b := by
  induction n with
  | zero => rfl
  | succ n ih => simp only [bitN, ih, bit1_xor]
theorem bitN_zero (n : Nat) {a : BitVec 16} (h : bitN n a = 0#16) : a = 0#16 := by
  induction n with
  | zero => exact h
  | succ n ih => exact ih (bit1_zero h)

theorem high_xor (a b : Nat) : BitVec.ofNat 16 ((a ^^^ b) * 256) = BitVec.ofNat 16 (a * 256) ^^^ BitVec.ofNat 16 (b * 256) := by
  have e : (a ^^^ b) * 256 = (a * 256) ^^^ (b * 256) := by
    have : (a ^^^ b) <<< 8 = a <<< 8 ^^^ b <<< 8 := Nat.shiftLeft_xor_distrib
    simpa [Nat.shiftLeft_eq] using this
  rw [e, BitVec.ofNat_xor]

theorem byte1_xor (x d : BitVec 16) (c e : Nat) : byte1 (x ^^^ d) (c ^^^ e) = byte1 x c ^^^ byte1 d e := by
  unfold byte1
  rw [← bitN_xor, high_xor]
  congr 1
  ac_rfl
theorem byte1_xor0 (x d : BitVec 16) (c : Nat) : byte1 (x ^^^ d) c = byte1 x c ^^^ byte1 d 0 := by
  have := byte1_xor x d c 0
  simpa using this
theorem byte1_xor1 (x : BitVec 16) (c e : Nat) : byte1 x (c ^^^ e) = byte1 x c ^^^ byte1 0#16 e := by
  have := byte1_xor x 0#16 c e
  simpa using this
theorem byte1_zero {d : BitVec 16} (h : byte1 d 0 = 0#16) : d = 0#16 := by
  have := bitN_zero 8 h
  simpa using this

theorem crcFrom_xor (l : List Nat) : ∀ (x d : BitVec 16), d ≠ 0#16 → ∃ d', d' ≠ 0#16 ∧ crcFrom (x ^^^ d) l = crcFrom x l ^^^ d' := by
  induction l with
  | nil => intro x d hd; exact ⟨d, hd, rfl⟩
  | cons c l ih =>
    intro x d hd
    have := ih (byte1 x c) (byte1 d 0) (fun h => hd (byte1_zero h))
    simp only [crcFrom, List.foldl_cons] at this ⊢
    rw [byte1_xor0]
    exact this

theorem low_zero : ∀ e : Fin 256, (byte1 0#16 e.val).toNat % 256 = 0 → e.val = 0 := by decide +kernel

/-- two neighbours in the bytes: what the register is turned by -/
theorem two_ne {e f : Nat} (he : e < 256) (hf : f < 256) (h : e ≠ 0 ∨ f ≠ 0) : byte1 (byte1 0#16 e) f ≠ 0#16 := by
  intro h0
  have h1 := bitN_zero 8 h0
  have h2 : byte1 0#16 e = BitVec.ofNat 16 (f * 256) := by
    have := congrArg (· ^^^ BitVec.ofNat 16 (f * 256)) h1
    simpa [BitVec.xor_assoc] using this
  have h3 := congrArg (fun x => x.toNat % 256) h2
  simp only [BitVec.toNat_ofNat] at h3
  have h4 := low_zero ⟨e, he⟩ (by rw [h3]; omega)
  simp only at h4
  subst h4
  have h5 : byte1 0#16 0 = 0#16 := by decide +kernel
  rw [h5] at h2
  have h6 := congrArg BitVec.toNat h2
  simp at h6
  omega

theorem one_ne {e f : Nat} (he : e < 256) (hf : f < 256) (h : e ≠ 0 ∨ f ≠ 0) : byte1 0#16 e ≠ BitVec.ofNat 16 (f * 256) := by
  intro h2
  refine two_ne he hf h ?_
  unfold byte1 at h2 ⊢
  rw [h2]
  simp
  decide +kernel

theorem xor_ne {a b : BitVec 16} (h : b ≠ 0#16) : a ^^^ b ≠ a := by
  intro e
  apply h
  have := congrArg (a ^^^ ·) e
  simpa [← BitVec.xor_assoc] using this

/-- the two bytes of a register, read -/
def word (h l : Nat) : BitVec 16 := BitVec.ofNat 16 (h * 256) ^^^ BitVec.ofNat 16 l
theorem word_of (x : BitVec 16) : word (x.toNat / 256) (x.toNat % 256) = x := by
  apply BitVec.eq_of_toNat_eq
  unfold word
  have hx := x.isLt
  rw [BitVec.toNat_xor, BitVec.toNat_ofNat, BitVec.toNat_ofNat]
  have e1 : x.toNat / 256 * 256 % 2 ^ 16 = 2 ^ 8 * (x.toNat / 256) := by omega
  have e2 : x.toNat % 256 % 2 ^ 16 = x.toNat % 256 := by omega
  rw [e1, e2]
  have h8 : x.toNat % 256 < 2 ^ 8 := by omega
  have := Nat.two_pow_add_eq_or_of_lt h8 (x.toNat / 256)
  have hand : (2 ^ 8 * (x.toNat / 256)) &&& (x.toNat % 256) = 0 := by
    apply Nat.eq_of_testBit_eq
    intro i
    rw [Nat.testBit_and, Nat.testBit_two_pow_mul]
    simp only [Nat.zero_testBit, Bool.and_eq_false_iff]
    by_cases hi : 8 ≤ i
    · right
      exact Nat.testBit_lt_two_pow (Nat.lt_of_lt_of_le h8 (Nat.pow_le_pow_right (by decide) hi))
    · left
      simp [hi]
  have hxor : (2 ^ 8 * (x.toNat / 256)) ^^^ (x.toNat % 256) = (2 ^ 8 * (x.toNat / 256)) ||| (x.toNat % 256) := by
    apply Nat.eq_of_testBit_eq
    intro i
    have := congrArg (fun z => z.testBit i) hand
    simp only [Nat.testBit_and, Nat.zero_testBit] at this
    rw [Nat.testBit_xor, Nat.testBit_or]
    revert this
    cases (2 ^ 8 * (x.toNat / 256)).testBit i <;> cases (x.toNat % 256).testBit i <;> simp
  rw [hxor, ← this]
  omega
theorem word_xor (h l e f : Nat) : word (h ^^^ e) (l ^^^ f) = word h l ^^^ word e f := by
  unfold word
  rw [high_xor, BitVec.ofNat_xor]
  ac_rfl

/-- A CHECK SUM GUARDS -/
theorem guard (l : List Nat) (e f at_ : Nat) (he : e < 256) (hf : f < 256) (h : e ≠ 0 ∨ f ≠ 0) (hat : at_ ≤ l.length) :
    let b := l ++ [crc l / 256, crc l % 256]
    let c := (b.set at_ (b.getD at_ 0 ^^^ e)).set (at_ + 1) (b.getD (at_ + 1) 0 ^^^ f)
    crcFrom 65535#16 (c.take l.length) ≠ word (c.getD l.length 0) (c.getD (l.length + 1) 0) := by
  intro b c
  have hcrc : word (crc l / 256) (crc l % 256) = crcFrom 65535#16 l := word_of _
  rcases Nat.lt_trichotomy (at_ + 1) l.length with h1 | h1 | h1
  · -- both in the body
    obtain ⟨l1, a, a', l2, rfl, hl1⟩ : ∃ l1 a a' l2, l = l1 ++ a :: a' :: l2 ∧ l1.length = at_ := by
      refine ⟨l.take at_, l[at_], l[at_ + 1], l.drop (at_ + 2), ?_, by simp; omega⟩
      rw [List.getElem_cons_drop, List.getElem_cons_drop, List.take_append_drop]
    subst hl1
    have hc : c = l1 ++ (a ^^^ e) :: (a' ^^^ f) :: l2 ++ [crc (l1 ++ a :: a' :: l2) / 256, crc (l1 ++ a :: a' :: l2) % 256] := by
      show (List.set _ _ _).set _ _ = _
      simp [b, List.getD_eq_getElem?_getD]
    rw [hc]
    have ht : (l1 ++ (a ^^^ e) :: (a' ^^^ f) :: l2 ++ [crc (l1 ++ a :: a' :: l2) / 256, crc (l1 ++ a :: a' :: l2) % 256]).take (l1 ++ a :: a' :: l2).length = l1 ++ (a ^^^ e) :: (a' ^^^ f) :: l2 := by
      rw [List.take_append_of_le_length (by simp)]
      exact List.take_of_length_le (by simp)
    rw [ht]
    have hg : ∀ j, j < 2 → (l1 ++ (a ^^^ e) :: (a' ^^^ f) :: l2 ++ [crc (l1 ++ a :: a' :: l2) / 256, crc (l1 ++ a :: a' :: l2) % 256]).getD ((l1 ++ a :: a' :: l2).length + j) 0 = [crc (l1 ++ a :: a' :: l2) / 256, crc (l1 ++ a :: a' :: l2) % 256].getD j 0 := by
      intro j hj
      rw [List.getD_eq_getElem?_getD, List.getElem?_append_right (by simp), List.getD_eq_getElem?_getD]
      congr 2
      try simp
      try omega
    have g0 := hg 0 (by omega)
    have g1 := hg 1 (by omega)
    simp only [Nat.add_zero] at g0
    rw [g0, g1]
    simp only [List.getD_cons_zero, List.getD_cons_succ]
    rw [hcrc, crcFrom_append, crcFrom_append]
    simp only [crcFrom, List.foldl_cons]
    rw [byte1_xor1 _ a e, byte1_xor]
    obtain ⟨d', hd', hh⟩ := crcFrom_xor l2 (byte1 (byte1 (List.foldl byte1 65535#16 l1) a) a') (byte1 (byte1 0#16 e) f) (two_ne he hf h)
    simp only [crcFrom] at hh
    rw [hh]
    exact xor_ne hd'
  · -- the body's last one, and the sum's first
    obtain ⟨l1, a, rfl, hl1⟩ : ∃ l1 a, l = l1 ++ [a] ∧ l1.length = at_ := by
      refine ⟨l.take at_, l[at_], ?_, by simp; omega⟩
      have : l.drop (at_ + 1) = [] := List.drop_of_length_le (by omega)
      rw [← this, List.getElem_cons_drop, List.take_append_drop]
    subst hl1
    have hc : c = l1 ++ [a ^^^ e] ++ [crc (l1 ++ [a]) / 256 ^^^ f, crc (l1 ++ [a]) % 256] := by
      show (List.set _ _ _).set _ _ = _
      simp [b, List.getD_eq_getElem?_getD]
    rw [hc]
    have ht : (l1 ++ [a ^^^ e] ++ [crc (l1 ++ [a]) / 256 ^^^ f, crc (l1 ++ [a]) % 256]).take (l1 ++ [a]).length = l1 ++ [a ^^^ e] := by
      rw [List.take_append_of_le_length (by simp)]
      exact List.take_of_length_le (by simp)
    rw [ht]
    have g0 : (l1 ++ [a ^^^ e] ++ [crc (l1 ++ [a]) / 256 ^^^ f, crc (l1 ++ [a]) % 256]).getD (l1 ++ [a]).length 0 = crc (l1 ++ [a]) / 256 ^^^ f := by
      rw [List.getD_eq_getElem?_getD, List.getElem?_append_right (by simp)]; simp
    have g1 : (l1 ++ [a ^^^ e] ++ [crc (l1 ++ [a]) / 256 ^^^ f, crc (l1 ++ [a]) % 256]).getD ((l1 ++ [a]).length + 1) 0 = crc (l1 ++ [a]) % 256 := by
      rw [List.getD_eq_getElem?_getD, List.getElem?_append_right (by simp)]; simp
    rw [g0, g1]
    have hw := word_xor (crc (l1 ++ [a]) / 256) (crc (l1 ++ [a]) % 256) f 0
    simp only [Nat.xor_zero] at hw
    rw [hw, hcrc, crcFrom_append, crcFrom_append]
    simp only [crcFrom, List.foldl_cons, List.foldl_nil]
    rw [byte1_xor1]
    intro hh
    have := congrArg (byte1 (List.foldl byte1 65535#16 l1) a ^^^ ·) hh
    simp only [← BitVec.xor_assoc, BitVec.xor_self, BitVec.zero_xor] at this
    refine one_ne he hf h (this.trans ?_)
    unfold word
    simp
  · -- both in the sum
    obtain rfl : at_ = l.length := by omega
    have hc : c = l ++ [crc l / 256 ^^^ e, crc l % 256 ^^^ f] := by
      show (List.set _ _ _).set _ _ = _
      simp [b, List.getD_eq_getElem?_getD]
    rw [hc]
    have g0 : (l ++ [crc l / 256 ^^^ e, crc l % 256 ^^^ f]).getD l.length 0 = crc l / 256 ^^^ e := by simp [List.getD_eq_getElem?_getD]
    have g1 : (l ++ [crc l / 256 ^^^ e, crc l % 256 ^^^ f]).getD (l.length + 1) 0 = crc l % 256 ^^^ f := by
      rw [List.getD_eq_getElem?_getD, List.getElem?_append_right (by omega)]; simp
    rw [g0, g1, word_xor, hcrc]
    simp only [List.take_left]
    refine fun hh => xor_ne ?_ hh.symm
    intro h0
    have := congrArg BitVec.toNat h0
    have hw2 : (word e f).toNat = e * 256 + f := by
      have := word_of (BitVec.ofNat 16 (e * 256 + f))
      have e1 : (BitVec.ofNat 16 (e * 256 + f)).toNat = e * 256 + f := by simp; omega
      rw [e1] at this
      rw [show (e * 256 + f) / 256 = e by omega, show (e * 256 + f) % 256 = f by omega] at this
      rw [this, e1]
    rw [hw2] at this
    simp at this
    omega

end Go.Proofs.Ytninmkkcphnniaa.ImgM
