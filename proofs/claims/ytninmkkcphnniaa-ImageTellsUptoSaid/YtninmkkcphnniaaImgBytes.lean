/- image.Bytes: its walk. -/
import Derived.Test.YtninmkkcphnniaaMod
namespace Go.Proofs.Ytninmkkcphnniaa.Img
open Go.RowKit
set_option linter.unusedVariables false

theorem Fr.blk {p : Nat} {v v' : Value} {w w' : World} (h : Fr p v v' w w') {b : Nat} {cs : Array Value} {t : TypeId} (hb : Blk w b cs t) (h1 : b ≠ p) (h2 : v.ownBlock ≠ some b) : Blk w' b cs t :=
  hb.keep h.keeps (by rintro (h | h); exact h1 h; exact h2 h)

/-- the state of Bytes: all old is as it was; the module's box; the writer -/
structure St (w w1 : World) (bv uv v : Value) (bs : List Nat) : Prop where
  keep : Keeps Nil w w1
  box : Blk w1 w.heap.size #[bv, uv] 51
  wr : Wr w1 (w.heap.size + 1) v bs
  size : w.heap.size + 1 < w1.heap.size

theorem St.ne {w wr : World} {bv uv v : Value} {bs : List Nat} (h : St w wr bv uv v bs) : v.ownBlock ≠ some w.heap.size := fun e => by have := (h.wr.own.lt _ e).1; omega
theorem St.alloc {w wr : World} {bv uv v : Value} {bs : List Nat} (h : St w wr bv uv v bs) (o : Obj) : St w (wr.alloc o) bv uv v bs :=
  ⟨h.keep.alloc o, h.box.alloc o, h.wr.alloc o, by have := h.size; simp; omega⟩
theorem St.call {w wr w' : World} {bv uv v v' : Value} {bs bs' : List Nat} (h : St w wr bv uv v bs) (hw : Wr w' (w.heap.size + 1) v' bs') (hf : Fr (w.heap.size + 1) v v' wr w') : St w w' bv uv v' bs' :=
  ⟨hf.nil h.keep (by omega) (fun b hb => by have := (h.wr.own.lt b hb).1; omega), hf.blk h.box (by omega) h.ne, hw, Nat.lt_of_lt_of_le h.size hf.keeps.size⟩

/-- a call of 'ints' with a new slice -/
theorem ints_new {w wr : World} {bv uv v : Value} {bs : List Nat} (h : St w wr bv uv v bs) (zs : List Int) (hz : ∀ z ∈ zs, ImgM.In64 z) {H n : Nat} {arr : Array Value} (hH : wr.heap.size = H) (hl : zs.length = n) (ha : (i64s zs).toArray = arr) (hn : zs.length ≤ 3) (hb : bs.length ≤ 100000000000000) :
    Calls Try.prog 43 #[.pointer (some ⟨w.heap.size + 1, 0, none⟩), .slice (some ⟨H, 0, none⟩) n n] (wr.alloc (.cells arr 3))
      fun e w' => e = .returned (.tuple #[]) ∧ ∃ v', St w w' bv uv v' (bs ++ ImgM.nums zs) ∧ Fr (w.heap.size + 1) v v' wr w' := by
  subst hH hl ha
  refine (ints_any (w.heap.size + 1) v _ bs zs.length zs _ (h.wr.alloc _) (row_new (by simp) (by unfold maxLen; omega)) hz ?_ (by omega)).mono ?_
  · intro _ b' hb'
    simp [Value.ownBlock] at hb'
    subst hb'
    exact ⟨by have := h.size; omega, fun e => by have := (h.wr.own.lt _ e).2; omega⟩
  rintro e w' ⟨rfl, v', hw, hf⟩
  have hf' := Fr.trans ((Fr.refl _ _ _).alloc _) hf
  exact ⟨rfl, v', h.call hw hf', hf'⟩
theorem num_new {w wr : World} {bv uv v : Value} {bs : List Nat} (h : St w wr bv uv v bs) (z : Int) (hz : ImgM.In64 z) {H : Nat} (hH : wr.heap.size = H) (hb : bs.length ≤ 100000000000000) :
    Calls Try.prog 45 #[.pointer (some ⟨w.heap.size + 1, 0, none⟩), .slice (some ⟨H, 0, none⟩) 1 1] (wr.alloc (.cells #[.int .i64 z] 2))
      fun e w' => e = .returned (.tuple #[]) ∧ ∃ v', St w w' bv uv v' (bs ++ ImgM.nums [z]) ∧ Fr (w.heap.size + 1) v v' wr w' := by
  subst hH
  refine (num_any (w.heap.size + 1) v _ bs 1 [z] _ (h.wr.alloc _) (row_new (cs := [.int .i64 z]) rfl (by decide)) (by simpa using hz) ?_ (by omega)).mono ?_
  · intro _ b' hb'
    simp [Value.ownBlock] at hb'
    subst hb'
    exact ⟨by have := h.size; omega, fun e => by have := (h.wr.own.lt _ e).2; omega⟩
  rintro e w' ⟨rfl, v', hw, hf⟩
  have hf' := Fr.trans ((Fr.refl _ _ _).alloc _) hf
  exact ⟨rfl, v', h.call hw hf', hf'⟩

/-- a call of 'list' with a slice that was there -/
theorem list_old {w wr : World} {bv uv v : Value} {bs : List Nat} (h : St w wr bv uv v bs) {l : Value} {n : Nat} {zs : List Int} (hl : Row w l 1 n (i64s zs)) (hz : ∀ z ∈ zs, ImgM.In64 z) (hb : bs.length ≤ 100000000000000) (hn : n ≤ 1000000000000) :
    Calls Try.prog 44 #[.pointer (some ⟨w.heap.size + 1, 0, none⟩), l] wr
      fun e w' => e = .returned (.tuple #[]) ∧ ∃ v', St w w' bv uv v' (bs ++ ImgM.nums ((n : Int) :: zs)) ∧ Fr (w.heap.size + 1) v v' wr w' := by
  refine (list_any (w.heap.size + 1) v l bs n zs wr h.wr (hl.keep h.keep (fun _ _ h => h)) hz ?_ (by omega)).mono ?_
  · intro h0 b' hb'
    have := hl.lt (by decide) h0 b' hb'
    exact ⟨by omega, fun e => by have := (h.wr.own.lt _ e).1; omega⟩
  rintro e w' ⟨rfl, v', hw, hf⟩
  exact ⟨rfl, v', h.call hw hf, hf⟩

theorem part_sz {M : ImgM.Mdl} (hw : ∀ n ∈ ImgM.mdlN M, ImgM.In64 n) (hs : (ImgM.mdlN M).length ≤ 1000000000000) {a b c : List Int} (h : a ++ b ++ c = ImgM.mdlN M) : (∀ n ∈ b, ImgM.In64 n) ∧ (ImgM.nums a).length ≤ 100000000000000 := by
  obtain ⟨h1, h2, -⟩ := ImgM.part_ok hw h
  exact ⟨h1, by omega⟩

def Said (M : ImgM.Mdl) (w : World) (e : Ending) (w' : World) : Prop :=
  Keeps Nil w w' ∧ (((ImgM.bytes M).length ≤ 60000 ∧ ∃ v', e = .returned (.tuple #[v', .int .i64 0]) ∧ Own w' w.heap.size 5 1 v' (ImgM.bytes M).length (u8s (ImgM.bytes M))) ∨
    (60000 < (ImgM.bytes M).length ∧ e = .returned (.tuple #[.slice none 0 0, .int .i64 4])))

set_option maxRecDepth 100000 in
set_option maxHeartbeats 1000000 in
theorem bytes_any (v : Value) (M : ImgM.Mdl) (w : World) (hM : ModAt w v M) (hwf : Wf M) (hsz : (ImgM.mdlN M).length ≤ 1000000000000) :
    Calls Try.prog 22 #[v] w (Said M w) := by
  obtain ⟨bv, uv, ucs, rfl, hB, hU, hUu⟩ := hM
  obtain ⟨ba, bc, rfl, hbc, hbn⟩ := hB.shape
  obtain ⟨ua, uc, rfl, huc, hun⟩ := hU.shape
  have HP : Hid (∀ {a b c : List Int}, a ++ b ++ c = ImgM.mdlN M → (∀ n ∈ b, ImgM.In64 n) ∧ (ImgM.nums a).length ≤ 100000000000000) := Lib.hid (part_sz hwf.nums hsz)
  have HU := Lib.hid hUu
  have HLen : Hid (∀ {a b c : List Int}, a ++ b ++ c = ImgM.mdlN M → (ImgM.nums (a ++ b)).length ≤ (ImgM.body M).length) := Lib.hid (fun h => (ImgM.part_ok hwf.nums h).2.2)
  have HSz : Hid ((ImgM.mdlN M).length ≤ 1000000000000) := Lib.hid hsz
  clear hUu hwf hsz
  generalize hnb : M.boxes.length = nb at *
  generalize hnu : M.units.length = nu at *
  have HNB := Lib.hid hnb
  have HNU := Lib.hid hnu
  clear hnb hnu
  go_enter Try.func22, Try.ntmps22
  go_wp2_with fail
  have st0 : St w ((w.alloc (Obj.cells #[Value.slice ba nb bc, Value.slice ua nu uc] 51)).alloc (Obj.cells #[Value.slice none 0 0] 80)) (.slice ba nb bc) (.slice ua nu uc) (.slice none 0 0) [] :=
    ⟨((Keeps.refl _ _).alloc _).alloc _, (Blk.new _ _ _).alloc _, ⟨Blk.new' (by simp), Own.nil _ _ _ _⟩, by simp⟩
  refine (ints_new st0 [(nb : Int)] (by
    have := ImgM.pre1_rest M 0
    simp only [ImgM.pre1, List.take_zero, List.flatMap_nil, HNB.out] at this
    exact (HP.out (a := []) this).1) (by simp) rfl rfl (by simp) (by simp)).mono ?_
  rintro e w1 ⟨rfl, v1, st1, -⟩
  simp only [List.nil_append] at st1
  clear st0
  have m0 := st1.box.cell 0
  simp at m0
  go_wp2
  clear m0
  go_loopw [23] (fun i wr => ∃ (k : Nat) (v : Value), k ≤ nb ∧ i = .int .i64 k ∧ St w wr (.slice ba nb bc) (.slice ua nu uc) v (ImgM.nums (ImgM.pre1 M k))) (fun i _ => nb - (intOf i).toNat)
  case atStart => exact ⟨0, v1, Nat.zero_le _, rfl, by rw [ImgM.pre1, HNB.out]; exact st1⟩
  case round =>
    obtain ⟨k, v, hk, rfl, st⟩ := hrel
    clear st1
    by_cases hkn : k < nb
    · obtain ⟨b, o, rfl⟩ := hB.form (by omega)
      obtain ⟨c0, c1⟩ := boxes_at (hB.keep st.keep (fun _ _ h => h)) HNB.out hkn
      have hs := ImgM.pre1_succ M k (by have := HNB.out; omega)
      have hr := ImgM.pre1_rest M (k + 1)
      rw [hs] at hr
      have HS := Lib.hid hs
      have HQ := Lib.hid (HP.out hr)
      clear hs hr
      generalize M.boxes.getD k (0, 0) = x at *
      obtain ⟨x1, x2⟩ := x
      simp only at c0 c1
      go_wp2_with fail
      refine (ints_new (st.alloc _) [x1, x2] HQ.out.1 (by simp) rfl rfl (by simp) HQ.out.2).mono ?_
      rintro e w3 ⟨rfl, v3, st3, -⟩
      go_wp2
      go_roundw
      case rel => exact ⟨k + 1, v3, by omega, by go_num, by rw [HS.out, ImgM.nums_append]; exact st3⟩
      case measure => simp [intOf]; omega
    · obtain rfl : k = nb := by omega
      have m1 := st.box.cell 1
      simp at m1
      have he := ImgM.pre1_all M
      rw [HNB.out, HNU.out] at he
      have hr := ImgM.pre2_rest M 0
      rw [← he] at hr
      have HQ := Lib.hid (HP.out hr)
      have HE := Lib.hid he
      clear he hr
      go_wp2_with fail
      refine (ints_new st [(nu : Int)] HQ.out.1 (by simp) rfl rfl (by simp) HQ.out.2).mono ?_
      rintro e w2 ⟨rfl, v2, st2, -⟩
      rw [← ImgM.nums_append, HE.out] at st2
      clear m1 st v
      have m1 := st2.box.cell 1
      simp at m1
      go_wp2
      clear m1 HE HQ
      go_loopw [44] (fun i wr => ∃ (j : Nat) (v : Value), j ≤ nu ∧ i = .int .i64 j ∧ St w wr (.slice ba k bc) (.slice ua nu uc) v (ImgM.nums (ImgM.pre2 M j))) (fun i _ => nu - (intOf i).toNat)
      case atStart => exact ⟨0, v2, Nat.zero_le _, rfl, st2⟩
      case round =>
        clear st2
        obtain ⟨j, v, hj, rfl, st⟩ := hrel
        by_cases hjn : j < nu
        · obtain ⟨b2, o2, rfl⟩ := hU.form (by omega)
          obtain ⟨lv, cv, ⟨c0, c1, c2, c3, c4, c5⟩, hL, hC⟩ := unts_at (hU.keep st.keep (fun _ _ h => h)) hjn (HU.out j (by have := HNU.out; omega))
          have hs := ImgM.pre2_succ M j (by have := HNU.out; omega)
          have hr := ImgM.pre2_rest M (j + 1)
          rw [hs] at hr
          generalize M.units.getD j default = u at *
          obtain ⟨la, lc, rfl, hlc, hln⟩ := hL.shape
          obtain ⟨ca, cc, rfl, hcc, hcn⟩ := hC.shape
          generalize hnl : u.locals.length = nl at *
          generalize hnc : u.code.length = nc at *
          have HNL := Lib.hid hnl
          have HNC := Lib.hid hnc
          generalize List.flatMap ImgM.untN (List.drop (j + 1) M.units) = R at hr
          have hr1 := HP.out (a := ImgM.pre2 M j) (b := [u.kind, u.params]) (c := (((nl : Int) :: u.locals) ++ [u.result, u.takes, (nc : Int)] ++ ImgM.codeN u.code) ++ R) (by rw [← hr]; simp [ImgM.untN, hnl, hnc])
          have hr2 := HP.out (a := ImgM.pre2 M j ++ [u.kind, u.params]) (b := (nl : Int) :: u.locals) (c := ([u.result, u.takes, (nc : Int)] ++ ImgM.codeN u.code) ++ R) (by rw [← hr]; simp [ImgM.untN, hnl, hnc])
          have hr3 := HP.out (a := ImgM.pre2 M j ++ [u.kind, u.params] ++ ((nl : Int) :: u.locals)) (b := [u.result, u.takes, (nc : Int)]) (c := ImgM.codeN u.code ++ R) (by rw [← hr]; simp [ImgM.untN, hnl, hnc])
          have hnl9 : nl ≤ 1000000000000 := by
            have := congrArg List.length hr
            have h2 := HSz.out
            simp [ImgM.untN, hnl] at this
            omega
          have HR1 := Lib.hid hr1
          have HR2 := Lib.hid hr2
          have HR3 := Lib.hid hr3
          have HR := Lib.hid hr
          have HS := Lib.hid hs
          clear hr1 hr2 hr3 hr hs hnl hnc
          obtain ⟨wo, rfl⟩ : ∃ wo : World, wo = wr := ⟨_, rfl⟩
          go_wp2_with fail
          refine (ints_new (st.alloc _) [u.kind, u.params] HR1.out.1 (by simp) rfl rfl (by simp) HR1.out.2).mono ?_
          rintro e w3 ⟨rfl, v3, st3, hf3⟩
          rw [← ImgM.nums_append] at st3
          have hq3 := hf3.blk (Blk.new wo _ _) (by have := st.size; omega) (fun e => by have := (st.wr.own.lt _ e).2; omega)
          have a3 : v3.ownBlock ≠ some wo.heap.size := hf3.apart (by simp) (fun e => by have := (st.wr.own.lt _ e).2; omega)
          have u2 := hq3.cell 2
          simp at u2
          go_wp2_with fail
          refine (list_old st3 hL (fun z hz => HR2.out.1 z (by simp [hz])) HR2.out.2 hnl9).mono ?_
          rintro e w4 ⟨rfl, v4, st4, hf4⟩
          rw [← ImgM.nums_append] at st4
          have hq4 := hf4.blk hq3 (by have := st.size; omega) a3
          have a4 : v4.ownBlock ≠ some wo.heap.size := hf4.apart hq3.lt a3
          clear u2
          have u3 := hq4.cell 3
          have u4 := hq4.cell 4
          have u5 := hq4.cell 5
          simp at u3 u4 u5
          clear hq3 hf3 a3 st3
          go_wp2_with fail
          refine (ints_new st4 [u.result, u.takes, (nc : Int)] HR3.out.1 (by simp) rfl rfl (by simp) HR3.out.2).mono ?_
          rintro e w5 ⟨rfl, v5, st5, hf5⟩
          rw [← ImgM.nums_append] at st5
          have hq5 := hf5.blk hq4 (by have := st.size; omega) a4
          clear u3 u4 u5
          have u5 := hq5.cell 5
          simp at u5
          clear hq4 hf4 a4 st4 hf5
          have hh : ImgM.pre2 M j ++ [u.kind, u.params] ++ ((nl : Int) :: u.locals) ++ [u.result, u.takes, (nc : Int)] = ImgM.pre2 M j ++ ImgM.untH u := by simp [ImgM.untH, HNL.out, HNC.out]
          rw [hh] at st5
          clear hh
          go_wp2
          clear u5 hq5
          go_loopw [72] (fun i wr => ∃ (t : Nat) (v : Value), t ≤ nc ∧ i = .int .i64 t ∧ St w wr (.slice ba k bc) (.slice (some ⟨b2, o2, none⟩) nu uc) v (ImgM.nums (ImgM.pre2 M j ++ ImgM.untH u ++ ImgM.codeN (u.code.take t)))) (fun i _ => nc - (intOf i).toNat)
          case atStart => exact ⟨0, v5, Nat.zero_le _, rfl, by simpa [ImgM.codeN] using st5⟩
          case round =>
            clear st5
            obtain ⟨t, v6, ht, rfl, st6⟩ := hrel
            by_cases htn : t < nc
            · obtain ⟨b3, o3, rfl⟩ := hC.form (by omega)
              obtain ⟨d0, d1, d2⟩ := code_at (hC.keep st6.keep (fun _ _ h => h)) HNC.out htn
              have hs := ImgM.code_succ u t (by have := HNC.out; omega)
              have hut := ImgM.unt_take u (t + 1)
              rw [hs] at hut
              have hr := HR.out
              rw [← hut] at hr
              generalize u.code.getD t default = x at *
              generalize hpr : ImgM.pre2 M j ++ ImgM.untH u ++ ImgM.codeN (List.take t u.code) = pr at *
              generalize ImgM.codeN (List.drop (t + 1) u.code) = rr at hr
              have hp1 := HP.out (a := pr) (b := [x.op, x.a]) (c := [x.n] ++ rr ++ R) (by rw [← hr, ← hpr]; simp [ImgM.insN])
              have hp2 := HP.out (a := pr ++ [x.op, x.a]) (b := [x.n]) (c := rr ++ R) (by rw [← hr, ← hpr]; simp [ImgM.insN])
              have HP1 := Lib.hid hp1
              have HP2 := Lib.hid hp2
              have HSS := Lib.hid hs
              have HPR := Lib.hid hpr
              clear hp1 hp2 hs hpr hr hut
              obtain ⟨wp, rfl⟩ : ∃ wp : World, wp = wr := ⟨_, rfl⟩
              go_wp2_with fail
              refine (ints_new (st6.alloc _) [x.op, x.a] HP1.out.1 (by simp) rfl rfl (by simp) HP1.out.2).mono ?_
              rintro e w7 ⟨rfl, v7, st7, hf7⟩
              rw [← ImgM.nums_append] at st7
              have hq7 := hf7.blk (Blk.new wp _ _) (by have := st6.size; omega) (fun e => by have := (st6.wr.own.lt _ e).2; omega)
              have q2 := hq7.cell 2
              simp at q2
              clear hf7
              go_wp2_with fail
              refine (num_new st7 x.n (HP2.out.1 _ (by simp)) rfl HP2.out.2).mono ?_
              rintro e w8 ⟨rfl, v8, st8, -⟩
              rw [← ImgM.nums_append] at st8
              clear q2
              go_wp2
              go_roundw
              case rel =>
                refine ⟨t + 1, v8, by omega, by go_num, ?_⟩
                rw [HSS.out, ← List.append_assoc, HPR.out]
                simpa [ImgM.insN] using st8
              case measure => simp [intOf]; omega
            · obtain rfl : t = nc := by omega
              have he : ImgM.pre2 M j ++ ImgM.untH u ++ ImgM.codeN (u.code.take t) = ImgM.pre2 M (j + 1) := by
                rw [HS.out, List.take_of_length_le (by have := HNC.out; omega), ← ImgM.unt_take u t, List.take_of_length_le (by have := HNC.out; omega), List.drop_of_length_le (by have := HNC.out; omega)]
                simp [ImgM.codeN]
              rw [he] at st6
              have hle := HLen.out (a := ImgM.pre2 M j) (b := ImgM.untN u) (c := R) HR.out
              rw [← HS.out] at hle
              obtain ⟨av, cv, rfl, -, -⟩ := (st6.wr.own.row (by omega)).shape
              have p0 := st6.wr.box.cell 0
              simp at p0
              generalize hX : (ImgM.nums (ImgM.pre2 M (j + 1))).length = X at *
              have HX := Lib.hid hX
              clear he hX
              by_cases hbig : 60000 < X
              · have d1 : decide ((60000 : Int) < (X : Int)) = true := by simp; omega
                have hfin : Keeps Nil w wr ∧ 60000 < (ImgM.bytes M).length := ⟨st6.keep, by unfold ImgM.bytes; rw [List.length_append]; omega⟩
                have HF := Lib.hid hfin
                clear hfin hbig
                go_wp2
                go_ret2
                exact ⟨HF.out.1, .inr ⟨HF.out.2, rfl⟩⟩
              · have d1 : decide ((60000 : Int) < (X : Int)) = false := by simp; omega
                clear hbig
                go_wp2
                go_roundw
                case rel => exact ⟨j + 1, _, by omega, by go_num, st6⟩
                case measure => simp [intOf]; omega
        · obtain rfl : j = nu := by omega
          have he := ImgM.pre2_all M
          rw [HNU.out] at he
          rw [he] at st
          clear he
          have hbb : ImgM.nums (ImgM.mdlN M) = ImgM.body M := rfl
          rw [hbb] at st
          clear hbb
          have hbody : (ImgM.body M).length ≤ 100000000000000 := by
            have := (HP.out (a := ImgM.mdlN M) (b := []) (c := []) (by simp)).2
            exact this
          obtain ⟨av, cv, rfl, -, -⟩ := (st.wr.own.row (by omega)).shape
          have p0 := st.wr.box.cell 0
          simp at p0
          have hs2 := sum_any (.slice av (ImgM.body M).length cv) (ImgM.body M).length (ImgM.body M) wr (st.wr.own.row (by omega)) (ImgM.nums_byte _)
          have HS2 := Lib.hid hs2
          clear hs2
          generalize hX : (ImgM.body M).length = X at *
          have HX := Lib.hid hX
          clear hX
          go_wp2_with fail
          refine HS2.out.mono ?_
          rintro e w9 ⟨rfl, rfl⟩
          have hc := Nat.mod_eq_of_lt (show ImgM.crc (ImgM.body M) / 256 < 256 by have := ImgM.crc_lt (ImgM.body M); omega)
          have hby : ImgM.bytes M = ImgM.body M ++ [ImgM.crc (ImgM.body M) / 256, ImgM.crc (ImgM.body M) % 256] := rfl
          generalize ImgM.crc (ImgM.body M) = C at *
          have hlen : (ImgM.bytes M).length = X + 2 := by rw [hby, List.length_append, HX.out]; rfl
          have HBY := Lib.hid hby
          have HLN := Lib.hid hlen
          have hown := st.wr.own
          rw [HX.out] at hown
          have b1 := st.wr.box
          have hne := st.wr.ne
          have HNE := Lib.hid hne
          have p1 := b1.free 0
          have p2 := b1.lt
          have HCC := Lib.hid hc
          clear hby hlen HS2 hne hc
          have d1 : decide ((60000 : Int) < (X : Int) + 2) = decide (60000 < X + 2) := by rw [decide_eq_decide]; omega
          generalize hT : decide (60000 < X + 2) = T at *
          have HT := Lib.hid hT
          clear hT
          go_wp2_with (at_builtin; refine ownB rfl _ _ 52 rfl (w.heap.size + 1 + 1) 5 (.int .u8 0) 1 1 Try.underlying52 (by kernel_rfl) rfl (by decide) (.slice av X cv) X 2 (u8s (ImgM.body M)) rfl (hown.alloc _) _ _ _ rfl (Blk.new' (by simp)) rfl (by simp [Value.oneCell']) (by unfold maxLen; omega) (by omega) (by simp; omega) ?_; intro v3 w3 hown3 hk3 hat3; obtain ⟨a3, k3, rfl, -⟩ := (hown3.row (by omega)).shape; have b3 := (b1.alloc (.cells #[.int .u8 ((C : Int) / 256 % 256), .int .u8 ((C : Int) % 256)] 5)).keep hk3 HNE.out; have q0 := b3.cell 0; have q1 := b3.free 0; have q2 := b3.lt; simp at q0; have HOW := Lib.hid hown3; have HK3 := Lib.hid hk3; have HAT := Lib.hid hat3; clear hown3 hk3 hat3 b3 hown b1 hbody p0 p1)
          all_goals
            obtain ⟨g1, g2⟩ := st.wr.put (cs := [C / 256 % 256, C % 256]) ((Keeps.refl _ _).alloc _) HOW.out (by rw [HX.out]; rfl) HK3.out HAT.out
            have st9 := st.call g1 g2
            rw [HCC.out, ← HBY.out] at st9
            go_ret2
          · have hT : T = true := by assumption
            have hb : 60000 < X + 2 := by have := HT.out; rw [hT] at this; simpa using this
            exact ⟨st9.keep, .inr ⟨by rw [HLN.out]; exact hb, rfl⟩⟩
          · have hT : T = false := by assumption
            have hb : ¬ 60000 < X + 2 := by have := HT.out; rw [hT] at this; simpa using this
            exact ⟨st9.keep, .inl ⟨by rw [HLN.out]; omega, _, rfl, st9.wr.own.mono (by omega)⟩⟩
end Go.Proofs.Ytninmkkcphnniaa.Img
