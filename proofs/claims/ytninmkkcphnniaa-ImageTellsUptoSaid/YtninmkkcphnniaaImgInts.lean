/- image.Bytes: the walks of the writer's 'ints' and 'list'. -/
import Derived.Test.YtninmkkcphnniaaImgWrite
namespace Go.Proofs.Ytninmkkcphnniaa.Img
open Go.RowKit
set_option linter.unusedVariables false

theorem row_new {w : World} {cs : List Value} {t : TypeId} {n : Nat} (hs : cs.length = n) (hn : n ≤ maxLen) : Row (w.alloc (.cells cs.toArray t)) (.slice (some ⟨w.heap.size, 0, none⟩) n n) 1 n cs := by
  have := Row.of_blk (size := 1) (n := n) (Blk.new w cs.toArray t) (by simpa using hs) hn
  simpa using this

set_option maxRecDepth 100000 in
set_option maxHeartbeats 1000000 in
theorem ints_any (p : Nat) (v0 l : Value) (bs : List Nat) (n : Nat) (zs : List Int) (w : World) (hw : Wr w p v0 bs) (hl : Row w l 1 n (zs.map (Value.int .i64))) (hz : ∀ z ∈ zs, ImgM.In64 z)
    (hsep : 0 < n → ∀ b, l.ownBlock = some b → b ≠ p ∧ v0.ownBlock ≠ some b) (hb : bs.length + 10 * n ≤ 140737488355328) :
    Calls Try.prog 43 #[.pointer (some ⟨p, 0, none⟩), l] w fun e w' => e = .returned (.tuple #[]) ∧ ∃ v', Wr w' p v' (bs ++ ImgM.nums zs) ∧ Fr p v0 v' w w' := by
  obtain ⟨ai, ci, rfl, hci, hni⟩ := hl.shape
  have hlen : zs.length = n := by simpa using hl.1
  have HL := Lib.hid hlen
  have HS := Lib.hid hsep
  have HZ := Lib.hid hz
  clear hlen hsep hz
  go_enter Try.func43, Try.ntmps43
  go_wp2
  go_loopw [5, 8] (fun _ i wr => ∃ (k : Nat) (v : Value), k ≤ n ∧ i = .int .i64 k ∧ Wr wr p v (bs ++ ImgM.nums (zs.take k)) ∧ Fr p v0 v w wr) (fun _ i _ => n - (intOf i).toNat)
  case atStart => exact ⟨0, v0, Nat.zero_le _, rfl, by simpa [ImgM.nums] using hw, Fr.refl _ _ _⟩
  case round =>
    obtain ⟨k, v, hk, rfl, hwr, hfr⟩ := hrel
    by_cases hkn : k < n
    · obtain ⟨b, o, rfl⟩ := hl.form (by omega)
      have hkz : k < zs.length := by have := HL.out; omega
      have c1 := row_ints (hl.keep hfr.keeps (fun b' hb' => by rintro (h | h); exact (HS.out (by omega) b' hb').1 h; exact (HS.out (by omega) b' hb').2 h)) k hkn
      have hzk : ImgM.In64 (zs.getD k 0) := HZ.out _ (by simp [List.getD_eq_getElem?_getD, hkz])
      have hnt := ImgM.nums_take zs k hkz
      have hpl : (ImgM.nums (zs.take k)).length ≤ 10 * k := by
        have := ImgM.nums_len (l := zs.take k) (fun z hz => HZ.out z (List.mem_of_mem_take hz))
        have h2 : (zs.take k).length ≤ k := List.length_take_le _ _
        omega
      have HNT := Lib.hid hnt
      generalize zs.getD k 0 = z at *
      generalize hpre : bs ++ ImgM.nums (zs.take k) = pre at *
      have hprel : pre.length + 10 ≤ bs.length + 10 * n := by rw [← hpre, List.length_append]; omega
      have HP := Lib.hid hpre
      have HZK := Lib.hid hzk
      clear hpre hnt hzk hpl hw
      go_wp2_with fail
      refine (num_any p v _ pre 1 [z] _ (hwr.alloc _) (row_new (cs := [.int .i64 z]) rfl (by decide)) (by simpa using HZK.out) ?_ (by omega)).mono ?_
      · intro _ b' hb'
        simp [Value.ownBlock] at hb'
        subst hb'
        exact ⟨by have := hwr.box.lt; omega, fun e => by have := (hwr.own.lt _ e).2; omega⟩
      rintro e w3 ⟨rfl, v3, hw3, hf3⟩
      go_wp2
      go_roundw
      case rel =>
        refine ⟨k + 1, v3, by omega, by go_num, ?_, hfr.trans (Fr.trans ((Fr.refl _ _ _).alloc _) hf3)⟩
        rw [HNT.out, ← List.append_assoc, HP.out]
        simpa [ImgM.nums] using hw3
      case measure => simp [intOf]; omega
    · obtain rfl : k = n := by omega
      have e : zs.take k = zs := List.take_of_length_le (by have := HL.out; omega)
      rw [e] at hwr
      clear e
      go_wp2
      go_end0
      exact ⟨rfl, v, hwr, hfr⟩

set_option maxRecDepth 100000 in
set_option maxHeartbeats 1000000 in
theorem list_any (p : Nat) (v0 l : Value) (bs : List Nat) (n : Nat) (zs : List Int) (w : World) (hw : Wr w p v0 bs) (hl : Row w l 1 n (zs.map (Value.int .i64))) (hz : ∀ z ∈ zs, ImgM.In64 z)
    (hsep : 0 < n → ∀ b, l.ownBlock = some b → b ≠ p ∧ v0.ownBlock ≠ some b) (hb : bs.length + 10 * n + 10 ≤ 140737488355328) :
    Calls Try.prog 44 #[.pointer (some ⟨p, 0, none⟩), l] w fun e w' => e = .returned (.tuple #[]) ∧ ∃ v', Wr w' p v' (bs ++ ImgM.nums ((n : Int) :: zs)) ∧ Fr p v0 v' w w' := by
  obtain ⟨ai, ci, rfl, hci, hni⟩ := hl.shape
  have HS := Lib.hid hsep
  have HZ := Lib.hid hz
  clear hsep hz
  go_enter Try.func44, Try.ntmps44
  go_wp2_with fail
  have hn64 : ImgM.In64 n := ⟨by omega, by omega⟩
  refine (ints_any p v0 _ bs 1 [(n : Int)] _ (hw.alloc _) (row_new (cs := [.int .i64 (n : Int)]) rfl (by decide)) (by simpa using hn64) ?_ (by omega)).mono ?_
  · intro _ b' hb'
    simp [Value.ownBlock] at hb'
    subst hb'
    exact ⟨by have := hw.box.lt; omega, fun e => by have := (hw.own.lt _ e).2; omega⟩
  rintro e w3 ⟨rfl, v3, hw3, hf3⟩
  have hf : Fr p v0 v3 w w3 := Fr.trans ((Fr.refl _ _ _).alloc _) hf3
  have hlen : (bs ++ ImgM.nums [(n : Int)]).length ≤ bs.length + 10 := by
    have := ImgM.nums_len (l := [(n : Int)]) (by simpa using hn64)
    rw [List.length_append]
    simp at this
    omega
  generalize hpre : bs ++ ImgM.nums [(n : Int)] = pre at *
  have HP := Lib.hid hpre
  clear hpre hn64 hf3
  go_wp2_with fail
  refine (ints_any p v3 _ pre n zs _ hw3 (hl.keep' hf.keeps (fun h0 b' hb' => by rintro (h | h); exact (HS.out h0 b' hb').1 h; exact (HS.out h0 b' hb').2 h)) HZ.out ?_ (by omega)).mono ?_
  · exact fun h0 b' hb' => ⟨(HS.out h0 b' hb').1, hf.apart (hl.lt (by decide) h0 b' hb') (HS.out h0 b' hb').2⟩
  rintro e w4 ⟨rfl, v4, hw4, hf4⟩
  go_wp2
  go_end0
  refine ⟨rfl, v4, ?_, hf.trans hf4⟩
  rw [← HP.out] at hw4
  rw [ImgM.nums_cons, ← List.append_assoc]
  simpa [ImgM.nums] using hw4
end Go.Proofs.Ytninmkkcphnniaa.Img
