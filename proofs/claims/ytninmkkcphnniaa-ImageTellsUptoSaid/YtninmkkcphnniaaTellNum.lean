/- yieldref6.Num and nums: their walks. -/
import Derived.Test.YtninmkkcphnniaaImgWrite
namespace Go.Proofs.Ytninmkkcphnniaa.Img
open Go.RowKit
set_option linter.unusedVariables false
set_option linter.unusedSimpArgs false

theorem zig_neg (z : Int) (hz : ImgM.In64 z) (hn : z < 0) : IntKind.u64.wrap (IntKind.u64.wrap (2 * IntKind.u64.wrap (wrap64 (-wrap64 (z + 1)))) + 1) = ((ImgM.zig z : Nat) : Int) := by
  obtain ⟨h1, h2⟩ := hz
  rw [wrap_u64, wrap_u64, wrap_u64]
  unfold wrap64 ImgM.zig
  rw [if_pos hn]
  omega
theorem zig_pos (z : Int) (hz : ImgM.In64 z) (hn : ¬ z < 0) : IntKind.u64.wrap (2 * IntKind.u64.wrap z) = ((ImgM.zig z : Nat) : Int) := by
  obtain ⟨h1, h2⟩ := hz
  rw [wrap_u64, wrap_u64]
  unfold ImgM.zig
  rw [if_neg hn]
  omega

set_option maxRecDepth 100000 in
set_option maxHeartbeats 1000000 in
theorem ref_num (z : Int) (w : World) (hz : ImgM.In64 z) :
    Calls Try.prog 47 #[.int .i64 z] w fun e w' => ∃ v, e = .returned v ∧ Keeps Nil w w' ∧ Own w' w.heap.size 5 1 v (ImgM.num z).length (u8s (ImgM.num z)) := by
  have hlt := ImgM.zig_lt hz
  have hpz := ImgM.num_len hz
  have HPZ := Lib.hid hpz
  have HH : Hid (ImgM.num z = ImgM.leb (ImgM.zig z)) := Lib.hid rfl
  by_cases hn : z < 0
  · have d1 : decide (z < 0) = true := by simpa using hn
    have hzb := zig_neg z hz hn
    clear hz hn
    generalize ImgM.zig z = x0 at *
    go_enter Try.func47, Try.ntmps47
    go_wp2
    clear hzb d1
    go_loopw [3, 4] (fun x o wi => ∃ (y : Nat) (q : List Nat), x = .int .u64 y ∧ y < 18446744073709551616 ∧ Hid (q ++ ImgM.leb y = ImgM.num z) ∧ Own wi w.heap.size 5 1 o q.length (u8s q) ∧ Keeps Nil w wi) (fun x _ _ => (intOf x).toNat)
    case atStart => exact ⟨x0, [], rfl, hlt, Lib.hid (by rw [HH.out]; rfl), Own.nil _ _ _ _, Keeps.refl _ _⟩
    case round =>
      obtain ⟨y, q, rfl, hy, hq, hown, hk⟩ := hrel
      have hsz := hk.size
      have hql : q.length + 1 ≤ 10 := by
        have h1 := congrArg List.length hq.out
        have h2 := ImgM.leb_pos y
        have h3 := HPZ.out
        rw [List.length_append] at h1
        omega
      obtain ⟨qa, qc, hqv, -⟩ := (hown.row (by omega)).shape
      by_cases hy8 : y < 128
      · have d1 : decide (128 ≤ y) = false := by simpa using hy8
        have d2 : decide ((128 : Int) ≤ (y : Int)) = false := by simp; omega
        have hlast : q ++ [y] = ImgM.num z := by rw [← hq.out, ImgM.leb_lt hy8]
        have HLA := Lib.hid hlast
        have hll := congrArg List.length hlast
        rw [List.length_append] at hll
        have HLL := Lib.hid hll
        clear hlast hll
        go_wp2_with (at_builtin; refine own1 rfl _ _ 52 rfl w.heap.size 5 (.int .u8 0) 1 1 Try.underlying52 (by kernel_rfl) rfl (by decide) _ q.length (u8s q) rfl (hown.alloc _) _ _ _ rfl (Blk.new' (by simp)) rfl (by simp [Value.oneCell']) (by unfold maxLen; omega) (by omega) (by simp; omega) ?_; intro v3 w3 hown3 hk3 hat3; have HO := Lib.hid hown3; have HK3 := Lib.hid hk3; clear hown3 hk3 hat3)
        go_ret
        refine ⟨_, rfl, (hk.alloc _).trans HK3.out (fun i hi h => by have := (hown.lt i h).1; omega), ?_⟩
        have := HO.out
        rw [← HLA.out, u8s_append, List.length_append]
        exact this
      · have d1 : decide (128 ≤ y) = true := by simp; omega
        have d2 : decide ((128 : Int) ≤ (y : Int)) = true := by simp; omega
        have hnext : (q ++ [y % 128 + 128]) ++ ImgM.leb (y / 128) = ImgM.num z := by rw [← hq.out, ImgM.leb_ge hy8]; simp
        have HNX := Lib.hid hnext
        generalize hC : y % 128 + 128 = C at *
        have HC := Lib.hid hC
        clear hnext hC
        go_wp2_with (at_builtin; refine own1 rfl _ _ 52 rfl w.heap.size 5 (.int .u8 0) 1 1 Try.underlying52 (by kernel_rfl) rfl (by decide) _ q.length (u8s q) rfl (hown.alloc _) _ _ _ rfl (Blk.new' (by simp)) rfl (by simp [Value.oneCell']) (by unfold maxLen; omega) (by omega) (by simp; omega) ?_; intro v3 w3 hown3 hk3 hat3; have HO := Lib.hid hown3; have HK3 := Lib.hid hk3; clear hown3 hk3 hat3)
        go_roundw
        case rel =>
          refine ⟨y / 128, q ++ [C], by simp, by omega, HNX, ?_, (hk.alloc _).trans HK3.out (fun i hi h => by have := (hown.lt i h).1; omega)⟩
          have := HO.out
          rw [u8s_append, List.length_append]
          have hCC := HC.out
          rw [show (128 + (y : Int) % 128) = ((C : Nat) : Int) by omega] at this
          exact this
        case measure => simp [intOf]; omega
  · have d1 : decide (z < 0) = false := by simpa using hn
    have hzb := zig_pos z hz hn
    clear hz hn
    generalize ImgM.zig z = x0 at *
    go_enter Try.func47, Try.ntmps47
    go_wp2
    clear hzb d1
    go_loopw [3, 4] (fun x o wi => ∃ (y : Nat) (q : List Nat), x = .int .u64 y ∧ y < 18446744073709551616 ∧ Hid (q ++ ImgM.leb y = ImgM.num z) ∧ Own wi w.heap.size 5 1 o q.length (u8s q) ∧ Keeps Nil w wi) (fun x _ _ => (intOf x).toNat)
    case atStart => exact ⟨x0, [], rfl, hlt, Lib.hid (by rw [HH.out]; rfl), Own.nil _ _ _ _, Keeps.refl _ _⟩
    case round =>
      obtain ⟨y, q, rfl, hy, hq, hown, hk⟩ := hrel
      have hsz := hk.size
      have hql : q.length + 1 ≤ 10 := by
        have h1 := congrArg List.length hq.out
        have h2 := ImgM.leb_pos y
        have h3 := HPZ.out
        rw [List.length_append] at h1
        omega
      obtain ⟨qa, qc, hqv, -⟩ := (hown.row (by omega)).shape
      by_cases hy8 : y < 128
      · have d1 : decide (128 ≤ y) = false := by simpa using hy8
        have d2 : decide ((128 : Int) ≤ (y : Int)) = false := by simp; omega
        have hlast : q ++ [y] = ImgM.num z := by rw [← hq.out, ImgM.leb_lt hy8]
        have HLA := Lib.hid hlast
        have hll := congrArg List.length hlast
        rw [List.length_append] at hll
        have HLL := Lib.hid hll
        clear hlast hll
        go_wp2_with (at_builtin; refine own1 rfl _ _ 52 rfl w.heap.size 5 (.int .u8 0) 1 1 Try.underlying52 (by kernel_rfl) rfl (by decide) _ q.length (u8s q) rfl (hown.alloc _) _ _ _ rfl (Blk.new' (by simp)) rfl (by simp [Value.oneCell']) (by unfold maxLen; omega) (by omega) (by simp; omega) ?_; intro v3 w3 hown3 hk3 hat3; have HO := Lib.hid hown3; have HK3 := Lib.hid hk3; clear hown3 hk3 hat3)
        go_ret
        refine ⟨_, rfl, (hk.alloc _).trans HK3.out (fun i hi h => by have := (hown.lt i h).1; omega), ?_⟩
        have := HO.out
        rw [← HLA.out, u8s_append, List.length_append]
        exact this
      · have d1 : decide (128 ≤ y) = true := by simp; omega
        have d2 : decide ((128 : Int) ≤ (y : Int)) = true := by simp; omega
        have hnext : (q ++ [y % 128 + 128]) ++ ImgM.leb (y / 128) = ImgM.num z := by rw [← hq.out, ImgM.leb_ge hy8]; simp
        have HNX := Lib.hid hnext
        generalize hC : y % 128 + 128 = C at *
        have HC := Lib.hid hC
        clear hnext hC
        go_wp2_with (at_builtin; refine own1 rfl _ _ 52 rfl w.heap.size 5 (.int .u8 0) 1 1 Try.underlying52 (by kernel_rfl) rfl (by decide) _ q.length (u8s q) rfl (hown.alloc _) _ _ _ rfl (Blk.new' (by simp)) rfl (by simp [Value.oneCell']) (by unfold maxLen; omega) (by omega) (by simp; omega) ?_; intro v3 w3 hown3 hk3 hat3; have HO := Lib.hid hown3; have HK3 := Lib.hid hk3; clear hown3 hk3 hat3)
        go_roundw
        case rel =>
          refine ⟨y / 128, q ++ [C], by simp, by omega, HNX, ?_, (hk.alloc _).trans HK3.out (fun i hi h => by have := (hown.lt i h).1; omega)⟩
          have := HO.out
          rw [u8s_append, List.length_append]
          have hCC := HC.out
          rw [show (128 + (y : Int) % 128) = ((C : Nat) : Int) by omega] at this
          exact this
        case measure => simp [intOf]; omega

theorem u8s_one (l : List Nat) : ∀ u ∈ u8s l, u.oneCell' = true := by
  intro u hu
  simp only [u8s, List.mem_map] at hu
  obtain ⟨c, -, rfl⟩ := hu
  rfl

set_option maxRecDepth 100000 in
set_option maxHeartbeats 1000000 in
theorem ref_nums (l : Value) (n : Nat) (zs : List Int) (w : World) (hl : Row w l 1 n (zs.map (Value.int .i64))) (hz : ∀ z ∈ zs, ImgM.In64 z) (hb : 10 * n ≤ 140737488355328) :
    Calls Try.prog 46 #[l] w fun e w' => ∃ v, e = .returned v ∧ Keeps Nil w w' ∧ Own w' w.heap.size 5 1 v (ImgM.nums zs).length (u8s (ImgM.nums zs)) := by
  obtain ⟨ai, ci, rfl, hci, hni⟩ := hl.shape
  have hlen : zs.length = n := by simpa using hl.1
  have HL := Lib.hid hlen
  have HZ := Lib.hid hz
  clear hlen hz
  go_enter Try.func46, Try.ntmps46
  go_wp2
  go_loopw [3, 5, 8] (fun o _ i wr => ∃ k : Nat, k ≤ n ∧ i = .int .i64 k ∧ Own wr w.heap.size 5 1 o (ImgM.nums (zs.take k)).length (u8s (ImgM.nums (zs.take k))) ∧ Keeps Nil w wr) (fun _ _ i _ => n - (intOf i).toNat)
  case atStart => exact ⟨0, Nat.zero_le _, rfl, by simpa [ImgM.nums, u8s] using Own.nil _ _ _ _, Keeps.refl _ _⟩
  case round =>
    obtain ⟨k, hk, rfl, hown, hkp⟩ := hrel
    by_cases hkn : k < n
    · obtain ⟨b, o, rfl⟩ := hl.form (by omega)
      have hkz : k < zs.length := by have := HL.out; omega
      have c1 := row_ints (hl.keep hkp (fun _ _ h => h)) k hkn
      have hzk : ImgM.In64 (zs.getD k 0) := HZ.out _ (by simp [List.getD_eq_getElem?_getD, hkz])
      have hnt := ImgM.nums_take zs k hkz
      have hpl : (ImgM.nums (zs.take k)).length ≤ 10 * k := by
        have := ImgM.nums_len (l := zs.take k) (fun z hz => HZ.out z (List.mem_of_mem_take hz))
        have h2 : (zs.take k).length ≤ k := List.length_take_le _ _
        omega
      have hpz := ImgM.num_len hzk
      have HN := Lib.hid (fun w' => ref_num (zs.getD k 0) w' hzk)
      have HNT := Lib.hid hnt
      generalize zs.getD k 0 = z at *
      generalize ImgM.num z = nz at *
      generalize ImgM.nums (zs.take k) = pre at *
      have hsz := hkp.size
      clear hnt hzk hl
      go_wp2_with fail
      refine (HN.out _).mono ?_
      rintro e w3 ⟨v3, rfl, hk3, hown3⟩
      have hrow3 := hown3.row (by omega)
      have hsz3 := hk3.size
      clear c1
      go_wp2_with (at_builtin; refine ownS rfl _ _ 52 rfl w.heap.size 5 (.int .u8 0) 1 1 Try.underlying52 (by kernel_rfl) rfl (by decide) _ pre.length (u8s pre) rfl (hown.keep hk3 (fun _ _ h => h)) v3 nz.length (u8s nz) rfl hrow3 (u8s_one nz) (by unfold maxLen; omega) (by omega) (by omega) ?_; intro v4 w4 hown4 hk4 hat4; have HO := Lib.hid hown4; have HK4 := Lib.hid hk4; clear hown4 hk4 hat4)
      go_roundw
      case rel =>
        refine ⟨k + 1, by omega, by go_num, ?_, (hkp.trans hk3 (fun _ _ h => h)).trans HK4.out (fun i hi h => by have := (hown.lt i h).1; omega)⟩
        rw [HNT.out, u8s_append, List.length_append]
        exact HO.out
      case measure => simp [intOf]; omega
    · obtain rfl : k = n := by omega
      have e : zs.take k = zs := List.take_of_length_le (by have := HL.out; omega)
      rw [e] at hown
      have HO := Lib.hid hown
      clear e hown
      go_wp2
      go_ret
      exact ⟨_, rfl, hkp, HO.out⟩
end Go.Proofs.Ytninmkkcphnniaa.Img
