/- image.Parse: the walks of the reader's 'int' and 'count'. -/
import Derived.Test.YtninmkkcphnniaaImgNum
import Derived.Test.YtninmkkcphnniaaMod
import Derived.BigQuiet
namespace Go.Proofs.Ytninmkkcphnniaa.Img
open Go.RowKit
set_option linter.unusedVariables false

abbrev Bad : Ending := .panicked [{ v := .iface 95 (.agg #[]), recovered := false }]

theorem num_no {p : Nat} {v : Value} {n : Nat} {l : List Nat} {w : World} (hr : Rr w p v n l) (hb : ∀ c ∈ l, c < 256) (hd : ImgM.rdNum l = none) :
    Calls Try.prog 57 #[.pointer (some ⟨p, 0, none⟩)] w fun e w' => e = Bad ∧ Keeps (fun i => i = p) w w' :=
  (num_rd p v n l w hr hb).mono fun e w' ⟨hk, h⟩ => by rw [hd] at h; exact ⟨h, hk⟩
theorem num_yes {p : Nat} {v : Value} {n : Nat} {l r : List Nat} {x : Int} {w : World} (hr : Rr w p v n l) (hb : ∀ c ∈ l, c < 256) (hd : ImgM.rdNum l = some (x, r)) :
    Calls Try.prog 57 #[.pointer (some ⟨p, 0, none⟩)] w fun e w' => e = .returned (.int .i64 x) ∧ Keeps (fun i => i = p) w w' ∧ ∃ v' n', Rr w' p v' n' r :=
  (num_rd p v n l w hr hb).mono fun e w' ⟨hk, h⟩ => by rw [hd] at h; exact ⟨h.1, hk, h.2⟩

set_option maxRecDepth 100000 in
set_option maxHeartbeats 400000 in
theorem int_no {p : Nat} {v : Value} {n : Nat} {l : List Nat} {w : World} (hr : Rr w p v n l) (hb : ∀ c ∈ l, c < 256) (hd : ImgM.rdNum l = none) :
    Calls Try.prog 50 #[.pointer (some ⟨p, 0, none⟩)] w fun e w' => e = Bad ∧ Keeps (fun i => i = p) w w' := by
  have HC := Lib.hid (num_no hr hb hd)
  clear hd hb hr
  go_enter Try.func50, Try.ntmps50
  go_wp2_with fail
  refine HC.out.mono ?_
  rintro e w' ⟨rfl, hk⟩
  have HK := Lib.hid hk
  clear hk
  go_wp2
  exact ⟨rfl, rfl, HK.out⟩
set_option maxRecDepth 100000 in
set_option maxHeartbeats 400000 in
theorem int_yes {p : Nat} {v : Value} {n : Nat} {l r : List Nat} {x : Int} {w : World} (hr : Rr w p v n l) (hb : ∀ c ∈ l, c < 256) (hd : ImgM.rdNum l = some (x, r)) :
    Calls Try.prog 50 #[.pointer (some ⟨p, 0, none⟩)] w fun e w' => e = .returned (.int .i64 x) ∧ Keeps (fun i => i = p) w w' ∧ ∃ v' n', Rr w' p v' n' r := by
  have HC := Lib.hid (num_yes hr hb hd)
  have hx := (ImgM.pair_num.back l x r hb hd).2
  have hx1 := hx.1
  have hx2 := hx.2
  clear hd hb hr hx
  go_enter Try.func50, Try.ntmps50
  go_wp2_with fail
  refine HC.out.mono ?_
  rintro e w' ⟨rfl, hk, hr⟩
  have HK := Lib.hid (And.intro hk hr)
  clear hk hr
  go_wp2
  go_ret
  exact ⟨rfl, HK.out⟩

set_option maxRecDepth 100000 in
set_option maxHeartbeats 1000000 in
theorem count_no {p : Nat} {v : Value} {n : Nat} {l : List Nat} {w : World} (m : Nat) (hm : 0 < m) (hm9 : m ≤ 9) (hr : Rr w p v n l) (hb : ∀ c ∈ l, c < 256) (hd : ImgM.rdCount m l = none) :
    Calls Try.prog 49 #[.pointer (some ⟨p, 0, none⟩), .int .i64 m] w fun e w' => e = Bad ∧ Keeps (fun i => i = p) w w' := by
  unfold ImgM.rdCount at hd
  cases h1 : ImgM.rdNum l with
  | none =>
    have HC := Lib.hid (num_no hr hb h1)
    clear hd hb hr h1
    go_enter Try.func49, Try.ntmps49
    go_wp2_with fail
    refine HC.out.mono ?_
    rintro e w' ⟨rfl, hk⟩
    have HK := Lib.hid hk
    clear hk
    go_wp2
    exact ⟨rfl, rfl, HK.out⟩
  | some x =>
    obtain ⟨x, r⟩ := x
    rw [h1] at hd
    simp only at hd
    have hbad : x < 0 ∨ ((r.length / m : Nat) : Int) < x := by
      apply Classical.byContradiction
      intro h
      rw [if_neg h] at hd
      cases hd
    have HC := Lib.hid (num_yes hr hb h1)
    clear hd hb hr h1
    go_enter Try.func49, Try.ntmps49
    go_wp2_with fail
    refine HC.out.mono ?_
    rintro e w' ⟨rfl, hk, v', n', hr'⟩
    have p0 := hr'.box.cell 0
    have p2 := hr'.box.lt
    simp at p0
    obtain ⟨ai, ci, rfl, hci, hni⟩ := hr'.row.shape
    have hl := hr'.len
    rw [hl] at hbad
    have HK := Lib.hid hk
    have hq : (n' : Int) / (m : Int) = ((n' / m : Nat) : Int) := by omega
    have hql := Nat.div_le_self n' m
    generalize n' / m = q at *
    by_cases hx : x < 0
    · have d1 : decide (x < 0) = true := by simpa using hx
      clear hk hl hr' hbad hx hq
      go_wp2
      exact ⟨rfl, rfl, HK.out⟩
    · have d1 : decide (x < 0) = false := by simpa using hx
      have d2 : decide ((q : Int) < x) = true := by simp; omega
      have hm1 : (1 : Int) ≤ (m : Int) := by omega
      clear hk hl hr' hbad hx
      go_wp2
      exact ⟨rfl, rfl, HK.out⟩

set_option maxRecDepth 100000 in
set_option maxHeartbeats 1000000 in
theorem count_yes {p : Nat} {v : Value} {n : Nat} {l r : List Nat} {x : Nat} {w : World} (m : Nat) (hm : 0 < m) (hm9 : m ≤ 9) (hr : Rr w p v n l) (hb : ∀ c ∈ l, c < 256) (hd : ImgM.rdCount m l = some (x, r)) :
    Calls Try.prog 49 #[.pointer (some ⟨p, 0, none⟩), .int .i64 m] w fun e w' => e = .returned (.int .i64 x) ∧ Keeps (fun i => i = p) w w' ∧ ∃ v' n', Rr w' p v' n' r := by
  unfold ImgM.rdCount at hd
  cases h1 : ImgM.rdNum l with
  | none => rw [h1] at hd; cases hd
  | some y =>
    obtain ⟨y, r'⟩ := y
    rw [h1] at hd
    simp only at hd
    split at hd
    · cases hd
    rename_i hgood
    simp only [Option.some.injEq, Prod.mk.injEq] at hd
    obtain ⟨rfl, rfl⟩ := hd
    have HC := Lib.hid (num_yes hr hb h1)
    have hx := (ImgM.pair_num.back l y r' hb h1).2
    have hx2 := hx.2
    clear hb hr h1 hx
    obtain ⟨y, rfl⟩ := Int.eq_ofNat_of_zero_le (show 0 ≤ y by omega)
    simp only [Int.toNat_natCast]
    go_enter Try.func49, Try.ntmps49
    go_wp2_with fail
    refine HC.out.mono ?_
    rintro e w' ⟨rfl, hk, v', n', hr'⟩
    have p0 := hr'.box.cell 0
    have p2 := hr'.box.lt
    simp at p0
    obtain ⟨ai, ci, rfl, hci, hni⟩ := hr'.row.shape
    have hl := hr'.len
    rw [hl] at hgood
    have hq : (n' : Int) / (m : Int) = ((n' / m : Nat) : Int) := by omega
    have hql := Nat.div_le_self n' m
    generalize n' / m = q at *
    have d1 : decide ((y : Int) < 0) = false := by simp
    have d2 : decide ((q : Int) < (y : Int)) = false := by simp; omega
    have d3 : decide (q < y) = false := by simp; omega
    have hm1 : (1 : Int) ≤ (m : Int) := by omega
    have HK := Lib.hid (show Keeps (fun i => i = p) w w' ∧ ∃ v' n', Rr w' p v' n' r' from ⟨hk, _, _, hr'⟩)
    clear hk hl hr' hgood
    go_wp2
    go_ret
    exact ⟨rfl, HK.out⟩
end Go.Proofs.Ytninmkkcphnniaa.Img
