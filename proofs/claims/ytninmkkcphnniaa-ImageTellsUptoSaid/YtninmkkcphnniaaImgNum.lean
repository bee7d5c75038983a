/- image.Parse: the walk of the reader's 'num'. -/
import Derived.Test.YtninmkkcphnniaaImgWrite
import Derived.Test.YtninmkkcphnniaaImgRead
namespace Go.Proofs.Ytninmkkcphnniaa.Img
open Go.RowKit
set_option linter.unusedVariables false

/-- a reader at p: what is left to read lies in older memory -/
structure Rr (w : World) (p : Nat) (v : Value) (n : Nat) (l : List Nat) : Prop where
  box : Blk w p #[v] 97
  row : Row w v 1 n (u8s l)
  sep : 0 < n → ∀ b, v.ownBlock = some b → b + 2 < p

theorem Rr.len {w : World} {p : Nat} {v : Value} {n : Nat} {l : List Nat} (h : Rr w p v n l) : l.length = n := by simpa [u8s] using h.row.1
theorem Rr.keep {w w' : World} {p : Nat} {v : Value} {n : Nat} {l : List Nat} (h : Rr w p v n l) {S : Nat → Prop} (k : Keeps S w w') (hs : ∀ b, b ≤ p → ¬ S b) : Rr w' p v n l :=
  ⟨h.box.keep k (hs p (Nat.le_refl _)), h.row.keep' k (fun h0 b hb => hs b (by have := h.sep h0 b hb; omega)), h.sep⟩

theorem Rr.tail {w : World} {p b o m ci c : Nat} {l : List Nat} (h : Rr w p (.slice (some ⟨b, o, none⟩) (m + 1) ci) (m + 1) (c :: l)) :
    Rr (w.setCell ⟨p, 0, none⟩ (.slice (if ci = 1 then some ⟨b, o, none⟩ else some ⟨b, o + 1, none⟩) m (ci - 1))) p (.slice (if ci = 1 then some ⟨b, o, none⟩ else some ⟨b, o + 1, none⟩) m (ci - 1)) m l := by
  have hbp := h.sep (by omega) b rfl
  obtain ⟨-, -, ao, cap, he, hcap, -⟩ := id h.row
  simp only [Value.slice.injEq] at he
  obtain ⟨-, -, rfl⟩ := he
  have hl := h.len
  simp at hl
  have hc := h.row.cellsAt
  have hm := h.row.2.1
  refine ⟨(h.box.set 0 _).to rfl (by simp), ⟨by simp [u8s, hl], by omega, _, ci - 1, rfl, by omega, fun hm0 => ?_⟩, fun hm0 b' hb' => ?_⟩
  · have h1 : ¬ ci = 1 := by omega
    refine ⟨b, o + 1, by rw [if_neg h1], fun j hj => ?_⟩
    have h2 := hc (j + 1) (by omega)
    have h3 : b < w.heap.size := World.block_lt_of_cell? w _ (h2.trans (List.getElem?_eq_getElem (by simp [u8s]; omega)))
    rw [show o + 1 + j = o + (j + 1) by omega]
    refine ((Keeps.setCell (S := fun i => i = p) (p := ⟨p, 0, none⟩) (Keeps.refl _ _) (fun _ => rfl) _).cell (p := ⟨b, o + (j + 1), none⟩) h3 (by simp; omega)).trans (h2.trans ?_)
    simp [u8s]
  · have h1 : ¬ ci = 1 := by omega
    rw [if_neg h1] at hb'
    simp [Value.ownBlock] at hb'
    omega

theorem orstep (X c k : Nat) (hX : X < 2 ^ (7 * k)) (hk : k ≤ 9) (hc : c < 256) (h9 : k = 9 → c ≤ 1) :
    bits BinOp.or IntKind.u64 (X : Int) (IntKind.u64.wrap (IntKind.u64.wrap (bits BinOp.and IntKind.u8 (c : Int) 127) * 2 ^ (7 * k))) = ((X + c % 128 * 2 ^ (7 * k) : Nat) : Int) ∧ X + c % 128 * 2 ^ (7 * k) < 18446744073709551616 ∧ X + c % 128 * 2 ^ (7 * k) < 2 ^ (7 * (k + 1)) := by
  have e1 : bits BinOp.and IntKind.u8 (c : Int) 127 = ((c % 128 : Nat) : Int) := by
    have := bits_mask .u8 8 (by decide) wraps_u8 7 (by decide) (c : Int) (by omega) (by omega)
    refine (show bits BinOp.and IntKind.u8 (c : Int) 127 = bits BinOp.and IntKind.u8 (c : Int) (2 ^ 7 - 1) from rfl).trans (this.trans ?_)
    simp
  have e2 : IntKind.u64.wrap (((c % 128 : Nat)) : Int) = ((c % 128 : Nat) : Int) := by rw [wrap_u64]; omega
  have hlt : c % 128 * 2 ^ (7 * k) + X < 18446744073709551616 ∧ c % 128 * 2 ^ (7 * k) + X < 2 ^ (7 * (k + 1)) := by
    have hp : 2 ^ (7 * (k + 1)) = 128 * 2 ^ (7 * k) := by rw [show 7 * (k + 1) = 7 + 7 * k by omega, Nat.pow_add]
    have h1 : c % 128 * 2 ^ (7 * k) ≤ 127 * 2 ^ (7 * k) := Nat.mul_le_mul_right _ (by omega)
    refine ⟨?_, by omega⟩
    rcases Nat.lt_or_eq_of_le hk with h | rfl
    · have h2 : 2 ^ (7 * (k + 1)) ≤ 2 ^ 63 := Nat.pow_le_pow_right (by decide) (by omega)
      have h3 : (2 : Nat) ^ 63 = 9223372036854775808 := by decide
      omega
    · have := h9 rfl
      have h3 : (2 : Nat) ^ (7 * 9) = 9223372036854775808 := by decide
      rw [h3] at hX ⊢
      have : c % 128 ≤ 1 := by omega
      have : c % 128 * 9223372036854775808 ≤ 1 * 9223372036854775808 := Nat.mul_le_mul_right _ this
      omega
  have e3 : IntKind.u64.wrap ((((c % 128 : Nat)) : Int) * 2 ^ (7 * k)) = ((c % 128 * 2 ^ (7 * k) : Nat) : Int) := by
    have : (((c % 128 : Nat)) : Int) * 2 ^ (7 * k) = ((c % 128 * 2 ^ (7 * k) : Nat) : Int) := by
      rw [Int.natCast_mul, Int.natCast_pow]; rfl
    rw [this, wrap_u64]
    have := hlt.1
    omega
  rw [e1, e2, e3]
  have := (bits_nat .u64 64 (by decide) (fun n h0 h1 => by rw [wrap_u64]; omega) X (c % 128 * 2 ^ (7 * k)) (by have := hlt.1; omega) (by have := hlt.1; omega)).2
  refine ⟨this.trans ?_, by omega, by omega⟩
  rw [Nat.or_comm]
  have h := Nat.two_pow_add_eq_or_of_lt hX (c % 128)
  rw [Nat.mul_comm (c % 128)]
  rw [← h, Nat.add_comm]

theorem zagbits (Y : Nat) (h : Y < 18446744073709551616) : bits BinOp.xor IntKind.i64 ((Y : Int) / 2) (wrap64 (-wrap64 (bits BinOp.and IntKind.u64 (Y : Int) 1))) = ImgM.zag Y := by
  have e1 : bits BinOp.and IntKind.u64 (Y : Int) 1 = ((Y % 2 : Nat) : Int) := by
    have := bits_mask .u64 64 (by decide) (fun n h0 h1 => by rw [wrap_u64]; omega) 1 (by decide) (Y : Int) (by omega) (by omega)
    refine (show bits BinOp.and IntKind.u64 (Y : Int) 1 = bits BinOp.and IntKind.u64 (Y : Int) (2 ^ 1 - 1) from rfl).trans (this.trans ?_)
    simp
  rw [e1]
  have hx : ∀ a b : Int, bits BinOp.xor IntKind.i64 a b = IntKind.i64.wrap ((BitVec.ofInt 64 a ^^^ BitVec.ofInt 64 b).toNat : Int) := fun a b => rfl
  rw [hx, IntKind.wrap_i64]
  have hy : ((Y : Int) / 2) = ((Y / 2 : Nat) : Int) := by omega
  rw [hy]
  unfold ImgM.zag
  by_cases h2 : Y % 2 = 0
  · rw [if_pos h2, h2]
    have e2 : wrap64 (-wrap64 ((0 : Nat) : Int)) = 0 := by unfold wrap64; decide
    rw [e2]
    have e3 : BitVec.ofInt 64 0 = 0#64 := rfl
    rw [e3, BitVec.xor_zero, u64_toNat]
    omega
  · rw [if_neg h2, show Y % 2 = 1 by omega]
    have e2 : wrap64 (-wrap64 ((1 : Nat) : Int)) = -1 := by unfold wrap64; decide
    rw [e2]
    have e3 : BitVec.ofInt 64 (-1) = BitVec.allOnes 64 := rfl
    rw [e3, BitVec.xor_allOnes, BitVec.toNat_not]
    have h3 := u64_toNat ((Y / 2 : Nat) : Int)
    have h4 := (BitVec.ofInt 64 ((Y / 2 : Nat) : Int)).isLt
    generalize (BitVec.ofInt 64 ((Y / 2 : Nat) : Int)).toNat = y at *
    simp only [Nat.reducePow] at *
    omega

/-- what comes of a number's bytes from the k-th on, X read before -/
def from_ (k X : Nat) (l : List Nat) : Option (Nat × List Nat) := match ImgM.dec k l with
  | none => none
  | some (y, r) => some (X + y * 2 ^ (7 * k), r)
theorem from_bad {k X c : Nat} {l : List Nat} (h : 9 < k ∨ (k = 9 ∧ 1 < c) ∨ (0 < k ∧ c = 0)) : from_ k X (c :: l) = none := by
  simp [from_, ImgM.dec, h]
theorem from_nil {k X : Nat} : from_ k X [] = none := by simp [from_, ImgM.dec]
theorem from_end {k X c : Nat} {l : List Nat} (h : ¬ (9 < k ∨ (k = 9 ∧ 1 < c) ∨ (0 < k ∧ c = 0))) (h8 : c < 128) : from_ k X (c :: l) = some (X + c % 128 * 2 ^ (7 * k), l) := by
  have : c % 128 = c := by omega
  simp only [from_, ImgM.dec, if_neg h, if_pos h8, this]
theorem from_next {k X c : Nat} {l : List Nat} (h : ¬ (9 < k ∨ (k = 9 ∧ 1 < c) ∨ (0 < k ∧ c = 0))) (h8 : ¬ c < 128) : from_ k X (c :: l) = from_ (k + 1) (X + c % 128 * 2 ^ (7 * k)) l := by
  simp only [from_, ImgM.dec, if_neg h, if_neg h8]
  cases ImgM.dec (k + 1) l with
  | none => rfl
  | some y =>
    obtain ⟨y, r⟩ := y
    have hp : 2 ^ (7 * (k + 1)) = 128 * 2 ^ (7 * k) := by rw [show 7 * (k + 1) = 7 + 7 * k by omega, Nat.pow_add]
    simp only [hp, Option.some.injEq, Prod.mk.injEq, and_true]
    rw [Nat.add_mul, ← Nat.add_assoc, Nat.mul_comm 128 y, Nat.mul_assoc]

/-- what 'num' comes to -/
def NumSaid (p : Nat) (l : List Nat) (w : World) (e : Ending) (w' : World) : Prop :=
  Keeps (fun i => i = p) w w' ∧ match ImgM.rdNum l with
    | none => e = .panicked [{ v := .iface 95 (.agg #[]), recovered := false }]
    | some (x, r) => e = .returned (.int .i64 x) ∧ ∃ v' n', Rr w' p v' n' r
theorem said_bad {p : Nat} {l : List Nat} {w w' : World} (h : from_ 0 0 l = none) (hk : Keeps (fun i => i = p) w w') : NumSaid p l w (.panicked [{ v := .iface 95 (.agg #[]), recovered := false }]) w' := by
  refine ⟨hk, ?_⟩
  unfold from_ at h
  unfold ImgM.rdNum
  cases hd : ImgM.dec 0 l with
  | none => rfl
  | some y => rw [hd] at h; cases h
theorem said_ok {p X : Nat} {l r : List Nat} {w w' : World} {v' : Value} {n' : Nat} (h : from_ 0 0 l = some (X, r)) (hk : Keeps (fun i => i = p) w w') (hr : Rr w' p v' n' r) : NumSaid p l w (.returned (.int .i64 (ImgM.zag X))) w' := by
  refine ⟨hk, ?_⟩
  unfold from_ at h
  unfold ImgM.rdNum
  cases hd : ImgM.dec 0 l with
  | none => rw [hd] at h; cases h
  | some y =>
    obtain ⟨y, s⟩ := y
    rw [hd] at h
    simp at h
    obtain ⟨rfl, rfl⟩ := h
    exact ⟨rfl, v', n', hr⟩

theorem said_ok' {p X : Nat} {l r : List Nat} {w w' : World} {v' : Value} {n' : Nat} {z : Int} (hz : z = ImgM.zag X) (h : from_ 0 0 l = some (X, r)) (hk : Keeps (fun i => i = p) w w') (hr : Rr w' p v' n' r) : NumSaid p l w (.returned (.int .i64 z)) w' := by
  rw [hz]; exact said_ok h hk hr

set_option maxRecDepth 100000 in
set_option maxHeartbeats 2000000 in
theorem num_rd (p : Nat) (v : Value) (n : Nat) (l : List Nat) (w : World) (hr : Rr w p v n l) (hb : ∀ c ∈ l, c < 256) :
    Calls Try.prog 57 #[.pointer (some ⟨p, 0, none⟩)] w (NumSaid p l w) := by
  go_enter Try.func57, Try.ntmps57
  go_wp2
  go_loopw [3, 4, 5] (fun x sh _ wr => ∃ (k X n' : Nat) (v' : Value) (l' : List Nat), k ≤ 10 ∧ sh = .int .i64 ((7 * k : Nat) : Int) ∧ x = .int .u64 (X : Int) ∧ X < 2 ^ (7 * k) ∧ Keeps (fun i => i = p) w wr ∧ Rr wr p v' n' l' ∧ Hid (from_ 0 0 l = from_ k X l' ∧ ∀ c ∈ l', c < 256)) (fun _ sh _ _ => 100 - (intOf sh).toNat)
  case atStart => exact ⟨0, 0, n, v, l, by omega, rfl, rfl, by omega, Keeps.refl _ _, hr, Lib.hid ⟨rfl, hb⟩⟩
  case round =>
    clear hr hb
    obtain ⟨k, X, n', v', l', hk, rfl, rfl, hX, hkp, hr, hfr⟩ := hrel
    obtain ⟨hfr, hb⟩ := hfr.out
    have p0 := hr.box.cell 0
    have p1 := hr.box.free 0
    have p2 := hr.box.lt
    obtain ⟨ai, ci, rfl, hci, hni⟩ := hr.row.shape
    simp at p0
    have hl := hr.len
    match l', hl with
    | [], hl =>
      obtain rfl : n' = 0 := by simpa using hl.symm
      have HF := Lib.hid (hfr.trans from_nil)
      have HK := Lib.hid hkp
      clear hl hfr hkp hX hb
      go_wp2
      exact ⟨rfl, said_bad HF.out HK.out⟩
    | c :: l', hl =>
      obtain ⟨m, rfl⟩ : ∃ m, n' = m + 1 := ⟨n' - 1, by simp at hl; omega⟩
      obtain ⟨b, o, rfl⟩ := hr.row.form (by omega)
      have c0 := row_u8s hr.row 0 (by omega)
      simp only [Nat.add_zero, List.getD_cons_zero] at c0
      have hc := hb c (by simp)
      have hb' : ∀ c ∈ l', c < 256 := fun c hc => hb c (by simp [hc])
      have HB := Lib.hid hb'
      have e0 : (((m + 1 : Nat) : Int) == 0) = false := by rw [beq_eq_false_iff_ne]; omega
      have e1 : ((m : Int) + 1 == 0) = false := by rw [beq_eq_false_iff_ne]; omega
      clear hb hb'
      by_cases hk10 : k = 10
      · subst hk10
        have HF := Lib.hid (hfr.trans (from_bad (.inl (by omega))))
        have HK := Lib.hid hkp
        clear hl hfr hkp hX
        go_wp2
        exact ⟨rfl, said_bad HF.out HK.out⟩
      · have d1 : decide (63 < 7 * k) = false := by simp; omega
        have d2 : decide ((63 : Int) < 7 * (k : Int)) = false := by simp; omega
        rcases (show (ci = 1 ∧ m = 0) ∨ ¬ ci = 1 by omega) with ⟨rfl, rfl⟩ | hci1
        all_goals
          have ht := hr.tail
          first | (rw [if_neg hci1] at ht) | (rw [if_pos rfl, Nat.sub_self] at ht)
          have hkt := ht.box
          clear hkt
          have hk2 : ∀ u, Keeps (fun i => i = p) w (wr.setCell ⟨p, 0, none⟩ u) := fun u => hkp.setCell (S := fun i => i = p) (p := ⟨p, 0, none⟩) (fun _ => rfl) u
          have HT := Lib.hid ht
          have HKK := Lib.hid hk2
          clear ht hk2 hkp
          by_cases h9 : k = 9
          · have g1 : (7 * (k : Int) == 63) = true := by rw [beq_iff_eq]; omega
            have g2 : decide ((0 : Int) < 7 * (k : Int)) = true := by simp; omega
            have g3 : decide (0 < 7 * k) = true := by simp; omega
            by_cases h1c : 1 < c
            · have f2 : decide ((1 : Int) < (c : Int)) = true := by simp; omega
              have f3 : decide (1 < c) = true := by simpa using h1c
              have hc0 : c = c := rfl
              have hbb : 9 < k ∨ (k = 9 ∧ 1 < c) ∨ (0 < k ∧ c = 0) := .inr (.inl ⟨h9, h1c⟩)
              clear h9 h1c
              have HF := Lib.hid (hfr.trans (from_bad (hbb)))
              clear hfr hl hX hc0 hbb
              go_wp2
              exact ⟨rfl, said_bad HF.out (HKK.out _)⟩
            have f2 : decide ((1 : Int) < (c : Int)) = false := by simp; omega
            have f3 : decide (1 < c) = false := by simpa using h1c
            by_cases hc0 : c = 0
            · have f4 : ((c : Int) == 0) = true := by rw [beq_iff_eq]; omega
              have hbb : 9 < k ∨ (k = 9 ∧ 1 < c) ∨ (0 < k ∧ c = 0) := .inr (.inr ⟨by omega, hc0⟩)
              clear h9
              have HF := Lib.hid (hfr.trans (from_bad (hbb)))
              clear hfr hl hX hc0 hbb
              go_wp2
              exact ⟨rfl, said_bad HF.out (HKK.out _)⟩
            have f4 : ((c : Int) == 0) = false := by rw [beq_eq_false_iff_ne]; omega
            have hbad : ¬ (9 < k ∨ (k = 9 ∧ 1 < c) ∨ (0 < k ∧ c = 0)) := by omega
            obtain ⟨ho1, ho2, ho3⟩ := orstep X c k hX (by omega) (by omega) (by omega)
            have ho1' := ho1
            rw [show ((2 : Int) ^ (7 * k)) = 9223372036854775808 by rw [h9]; decide] at ho1'
            have h9 : k ≤ 9 := by omega
            have H9 := Lib.hid h9
            clear h9 hc0
            by_cases hc8 : c < 128
            · have f5 : decide ((c : Int) < 128) = true := by simp; omega
              have f6 : decide (c < 128) = true := by simpa using hc8
              have HF := Lib.hid (hfr.trans (from_end hbad hc8))
              generalize hY : X + c % 128 * 2 ^ (7 * k) = Y at *
              clear hfr hl hX hY hc8 ho3 hbad
              go_wp2
              go_ret
              have HZ := zagbits Y ho2
              exact said_ok' HZ HF.out (HKK.out _) HT.out
            · have f5 : decide ((c : Int) < 128) = false := by simp; omega
              have f6 : decide (c < 128) = false := by simpa using hc8
              have HF := Lib.hid (hfr.trans (from_next hbad hc8))
              generalize hY : X + c % 128 * 2 ^ (7 * k) = Y at *
              have HY3 := Lib.hid ho3
              clear hfr hl hX hY hc8 ho3 hbad
              go_wp2
              go_roundw
              case rel => exact ⟨k + 1, Y, _, _, l', by have := H9.out; omega, by go_num, by first | rfl | rw [ho1], HY3.out, HKK.out _, HT.out, Lib.hid ⟨HF.out, HB.out⟩⟩
              case measure => simp [intOf]; omega
          · have g1 : (7 * (k : Int) == 63) = false := by rw [beq_eq_false_iff_ne]; omega
            by_cases hk0 : k = 0
            · have g2 : decide ((0 : Int) < 7 * (k : Int)) = false := by simp; omega
              have g3 : decide (0 < 7 * k) = false := by simp; omega
              have hbad : ¬ (9 < k ∨ (k = 9 ∧ 1 < c) ∨ (0 < k ∧ c = 0)) := by omega
              have h9 : k ≤ 9 := by omega
              have hc0 : c = c := rfl
              clear hk0
              obtain ⟨ho1, ho2, ho3⟩ := orstep X c k hX (by omega) (by omega) (by omega)
              have H9 := Lib.hid h9
              clear h9 hc0
              by_cases hc8 : c < 128
              · have f5 : decide ((c : Int) < 128) = true := by simp; omega
                have f6 : decide (c < 128) = true := by simpa using hc8
                have HF := Lib.hid (hfr.trans (from_end hbad hc8))
                generalize hY : X + c % 128 * 2 ^ (7 * k) = Y at *
                clear hfr hl hX hY hc8 ho3 hbad
                go_wp2
                go_ret
                have HZ := zagbits Y ho2
                exact said_ok' HZ HF.out (HKK.out _) HT.out
              · have f5 : decide ((c : Int) < 128) = false := by simp; omega
                have f6 : decide (c < 128) = false := by simpa using hc8
                have HF := Lib.hid (hfr.trans (from_next hbad hc8))
                generalize hY : X + c % 128 * 2 ^ (7 * k) = Y at *
                have HY3 := Lib.hid ho3
                clear hfr hl hX hY hc8 ho3 hbad
                go_wp2
                go_roundw
                case rel => exact ⟨k + 1, Y, _, _, l', by have := H9.out; omega, by go_num, by first | rfl | rw [ho1], HY3.out, HKK.out _, HT.out, Lib.hid ⟨HF.out, HB.out⟩⟩
                case measure => simp [intOf]; omega
            have g2 : decide ((0 : Int) < 7 * (k : Int)) = true := by simp; omega
            have g3 : decide (0 < 7 * k) = true := by simp; omega
            by_cases hc0 : c = 0
            · have f4 : ((c : Int) == 0) = true := by rw [beq_iff_eq]; omega
              have hbb : 9 < k ∨ (k = 9 ∧ 1 < c) ∨ (0 < k ∧ c = 0) := .inr (.inr ⟨by omega, hc0⟩)
              have HF := Lib.hid (hfr.trans (from_bad (hbb)))
              clear hfr hl hX hc0 hbb
              go_wp2
              exact ⟨rfl, said_bad HF.out (HKK.out _)⟩
            have f4 : ((c : Int) == 0) = false := by rw [beq_eq_false_iff_ne]; omega
            have hbad : ¬ (9 < k ∨ (k = 9 ∧ 1 < c) ∨ (0 < k ∧ c = 0)) := by omega
            obtain ⟨ho1, ho2, ho3⟩ := orstep X c k hX (by omega) (by omega) (by omega)
            have h9 : k ≤ 9 := by omega
            have H9 := Lib.hid h9
            clear h9 hc0
            by_cases hc8 : c < 128
            · have f5 : decide ((c : Int) < 128) = true := by simp; omega
              have f6 : decide (c < 128) = true := by simpa using hc8
              have HF := Lib.hid (hfr.trans (from_end hbad hc8))
              generalize hY : X + c % 128 * 2 ^ (7 * k) = Y at *
              clear hfr hl hX hY hc8 ho3 hbad
              go_wp2
              go_ret
              have HZ := zagbits Y ho2
              exact said_ok' HZ HF.out (HKK.out _) HT.out
            · have f5 : decide ((c : Int) < 128) = false := by simp; omega
              have f6 : decide (c < 128) = false := by simpa using hc8
              have HF := Lib.hid (hfr.trans (from_next hbad hc8))
              generalize hY : X + c % 128 * 2 ^ (7 * k) = Y at *
              have HY3 := Lib.hid ho3
              clear hfr hl hX hY hc8 ho3 hbad
              go_wp2
              go_roundw
              case rel => exact ⟨k + 1, Y, _, _, l', by have := H9.out; omega, by go_num, by first | rfl | rw [ho1], HY3.out, HKK.out _, HT.out, Lib.hid ⟨HF.out, HB.out⟩⟩
              case measure => simp [intOf]; omega
end Go.Proofs.Ytninmkkcphnniaa.Img
