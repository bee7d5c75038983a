/- yieldref6.Bytes: its walk. -/
import Derived.Test.YtninmkkcphnniaaTellSum
import Derived.Test.YtninmkkcphnniaaTellNum
import Derived.Test.YtninmkkcphnniaaImgBytes
import Derived.Test.YtninmkkcphnniaaRegion
namespace Go.Proofs.Ytninmkkcphnniaa.Img
open Go.RowKit
set_option linter.unusedVariables false
set_option linter.unusedSimpArgs false

/-- the state of the document's Bytes -/
structure Sb (w w1 : World) (bv uv v : Value) (bs : List Nat) : Prop where
  keep : Keeps Nil w w1
  box : Blk w1 w.heap.size #[bv, uv] 51
  own : Own w1 (w.heap.size + 1) 5 1 v bs.length (u8s bs)

theorem Sb.to {w wr w2 : World} {bv uv v : Value} {bs : List Nat} (h : Sb w wr bv uv v bs) (k : Keeps Nil wr w2) : Sb w w2 bv uv v bs :=
  ⟨h.keep.trans k (fun _ _ h => h), h.box.keep k (fun h => h), h.own.keep k (fun _ _ h => h)⟩
theorem Sb.app {w wr w3 : World} {bv uv v v3 : Value} {bs cs : List Nat} (st : Sb w wr bv uv v bs) (ho : Own w3 (w.heap.size + 1) 5 1 v3 (bs.length + cs.length) (u8s bs ++ u8s cs))
    (hk : Keeps (fun i => v.ownBlock = some i) wr w3) : Sb w w3 bv uv v3 (bs ++ cs) :=
  ⟨st.keep.trans hk (fun i hi h => by have := (st.own.lt i h).1; omega), st.box.keep hk (fun h => by have := (st.own.lt _ h).1; omega), by rw [u8s_append, List.length_append]; exact ho⟩

theorem nums_new {wr : World} (zs : List Int) (hz : ∀ z ∈ zs, ImgM.In64 z) {H n : Nat} {arr : Array Value} (hH : wr.heap.size = H) (hl : zs.length = n) (ha : (i64s zs).toArray = arr) (hn : zs.length ≤ 3) :
    Calls Try.prog 46 #[.slice (some ⟨H, 0, none⟩) n n] (wr.alloc (.cells arr 3)) fun e w' => ∃ v, e = .returned v ∧ Keeps Nil wr w' ∧ Own w' (wr.heap.size + 1) 5 1 v (ImgM.nums zs).length (u8s (ImgM.nums zs)) := by
  subst hH hl ha
  refine (ref_nums _ zs.length zs _ (row_new (by simp) (by unfold maxLen; omega)) hz (by omega)).mono ?_
  rintro e w' ⟨v, rfl, hk, ho⟩
  exact ⟨v, rfl, ((Keeps.refl _ _).alloc _).trans hk (fun _ _ h => h), by simpa using ho⟩

theorem part_sz2 {M : ImgM.Mdl} (hw : ∀ n ∈ ImgM.mdlN M, ImgM.In64 n) (hs : (ImgM.mdlN M).length ≤ 1000000000000) {a b c : List Int} (h : a ++ b ++ c = ImgM.mdlN M) :
    (∀ n ∈ b, ImgM.In64 n) ∧ (ImgM.nums a).length ≤ 100000000000000 ∧ (ImgM.nums b).length ≤ 10000000000000 ∧ b.length ≤ 1000000000000 := by
  obtain ⟨h1, h2, -⟩ := ImgM.part_ok hw h
  have h3 := congrArg List.length h
  have h4 := ImgM.nums_len h1
  simp only [List.length_append] at h3
  exact ⟨h1, by omega, by omega, by omega⟩

def RSaid (M : ImgM.Mdl) (w : World) (e : Ending) (w' : World) : Prop :=
  Keeps Nil w w' ∧ (((ImgM.bytes M).length ≤ 60000 ∧ ∃ v', e = .returned (.tuple #[v', .int .i64 0]) ∧ Row w' v' 1 (ImgM.bytes M).length (u8s (ImgM.bytes M))) ∨
    (60000 < (ImgM.bytes M).length ∧ e = .returned (.tuple #[.slice none 0 0, .int .i64 4])))

set_option maxRecDepth 100000 in
set_option maxHeartbeats 4000000 in
theorem ref_bytes (v : Value) (M : ImgM.Mdl) (w : World) (hM : ModAt w v M) (hwf : Wf M) (hsz : (ImgM.mdlN M).length ≤ 1000000000000) :
    Calls Try.prog 23 #[v] w (RSaid M w) := by
  obtain ⟨bv, uv, ucs, rfl, hB, hU, hUu⟩ := hM
  obtain ⟨ba, bc, rfl, hbc, hbn⟩ := hB.shape
  obtain ⟨ua, uc, rfl, huc, hun⟩ := hU.shape
  have HP : Hid (∀ {a b c : List Int}, a ++ b ++ c = ImgM.mdlN M → (∀ n ∈ b, ImgM.In64 n) ∧ (ImgM.nums a).length ≤ 100000000000000 ∧ (ImgM.nums b).length ≤ 10000000000000 ∧ b.length ≤ 1000000000000) := Lib.hid (part_sz2 hwf.nums hsz)
  have HU := Lib.hid hUu
  have HLB : Hid ((ImgM.body M).length ≤ 10000000000000) := Lib.hid (by have := ImgM.nums_len hwf.nums; unfold ImgM.body; omega)
  have HSz : Hid ((ImgM.mdlN M).length ≤ 1000000000000) := Lib.hid hsz
  clear hUu hwf hsz
  generalize hnb : M.boxes.length = nb at *
  generalize hnu : M.units.length = nu at *
  have HNB := Lib.hid hnb
  have HNU := Lib.hid hnu
  clear hnb hnu
  go_enter Try.func23, Try.ntmps23
  have HQ0 := Lib.hid (by
    have := ImgM.pre1_rest M 0
    simp only [ImgM.pre1, List.take_zero, List.flatMap_nil, HNB.out] at this
    exact HP.out (a := []) this)
  go_wp2_with fail
  refine (nums_new [(nb : Int)] HQ0.out.1 (by simp) rfl rfl (by simp)).mono ?_
  rintro e w1 ⟨v1, rfl, hk1, ho1⟩
  have st1 : Sb w w1 (.slice ba nb bc) (.slice ua nu uc) v1 (ImgM.nums [(nb : Int)]) :=
    ⟨((Keeps.refl _ _).alloc _).trans hk1 (fun _ _ h => h), (Blk.new w _ _).keep hk1 (fun h => h), ho1.mono (by simp)⟩
  clear hk1 ho1
  have m0 := st1.box.cell 0
  simp at m0
  go_wp2
  clear m0
  go_loopw [4, 20] (fun o i wr => ∃ (k : Nat), k ≤ nb ∧ i = .int .i64 k ∧ Sb w wr (.slice ba nb bc) (.slice ua nu uc) o (ImgM.nums (ImgM.pre1 M k))) (fun _ i _ => nb - (intOf i).toNat)
  case atStart => exact ⟨0, Nat.zero_le _, rfl, by rw [ImgM.pre1, HNB.out]; exact st1⟩
  case round =>
    obtain ⟨k, hk, rfl, st⟩ := hrel
    clear st1
    by_cases hkn : k < nb
    · obtain ⟨b, o, rfl⟩ := hB.form (by omega)
      obtain ⟨c0, c1⟩ := boxes_at (hB.keep st.keep (fun _ _ h => h)) HNB.out hkn
      have hs := ImgM.pre1_succ M k (by have := HNB.out; omega)
      have hr := ImgM.pre1_rest M (k + 1)
      rw [hs] at hr
      have HS := Lib.hid hs
      generalize M.boxes.getD k (0, 0) = x at *
      obtain ⟨x1, x2⟩ := x
      have HQ := Lib.hid (HP.out (a := ImgM.pre1 M k) (b := [x1, x2]) hr)
      clear hs hr
      simp only at c0 c1
      go_wp2_with fail
      refine (nums_new [x1, x2] HQ.out.1 (by simp) rfl rfl (by simp)).mono ?_
      rintro e w3 ⟨v3, rfl, hk3, ho3⟩
      have st3 := st.to (((Keeps.refl _ _).alloc _).trans hk3 (fun _ _ h => h))
      have hr3 := ho3.row (by omega)
      clear hk3 ho3 c0 c1
      go_wp2_with (at_builtin; refine ownS rfl _ _ 52 rfl (w.heap.size + 1) 5 (.int .u8 0) 1 1 Try.underlying52 (by kernel_rfl) rfl (by decide) _ _ _ rfl st3.own _ _ _ rfl hr3 (u8s_one _) (by have := HQ.out.2; unfold maxLen; omega) (by have := HQ.out.2; omega) (by have := st3.box.lt; omega) ?_; intro v4 w4 hown4 hk4 hat4; have s4 := Sb.app st3 hown4 hk4; rw [← ImgM.nums_append] at s4; have S4 := Lib.hid s4; clear hown4 hk4 hat4 s4)
      go_roundw
      case rel => exact ⟨k + 1, by omega, by go_num, by rw [HS.out]; exact S4.out⟩
      case measure => simp [intOf]; omega
    · obtain rfl : k = nb := by omega
      have m1 := st.box.cell 1
      simp at m1
      have he := ImgM.pre1_all M
      rw [HNB.out, HNU.out] at he
      have hr := ImgM.pre2_rest M 0
      rw [← he] at hr
      have HQ := Lib.hid (HP.out hr)
      have HE := Lib.hid he
      clear he hr
      go_wp2_with fail
      refine (nums_new [(nu : Int)] HQ.out.1 (by simp) rfl rfl (by simp)).mono ?_
      rintro e w3 ⟨v3, rfl, hk3, ho3⟩
      have st3 := st.to hk3
      have hr3 := ho3.row (by omega)
      clear hk3 ho3 m1
      go_wp2_with (at_builtin; refine ownS rfl _ _ 52 rfl (w.heap.size + 1) 5 (.int .u8 0) 1 1 Try.underlying52 (by kernel_rfl) rfl (by decide) _ _ _ rfl st3.own _ _ _ rfl hr3 (u8s_one _) (by have := HQ.out.2; unfold maxLen; omega) (by have := HQ.out.2; omega) (by have := st3.box.lt; omega) ?_; intro v4 w4 hown4 hk4 hat4; have s4 := Sb.app st3 hown4 hk4; rw [← ImgM.nums_append] at s4; have S4 := Lib.hid s4; have m1 := s4.box.cell 1; simp at m1; clear hown4 hk4 hat4 s4)
      clear st3 hr3 st m1
      have st2 := S4.out
      rw [HE.out] at st2
      clear S4
      go_loopw [4, 43] (fun o i wr => ∃ (j : Nat), j ≤ nu ∧ i = .int .i64 j ∧ Sb w wr (.slice ba k bc) (.slice ua nu uc) o (ImgM.nums (ImgM.pre2 M j))) (fun _ i _ => nu - (intOf i).toNat)
      case atStart => exact ⟨0, Nat.zero_le _, rfl, st2⟩
      case round =>
        clear st2
        obtain ⟨j, hj, rfl, st⟩ := hrel
        by_cases hjn : j < nu
        · obtain ⟨b2, o2, rfl⟩ := hU.form (by omega)
          obtain ⟨lv, cv, ⟨c0, c1, c2, c3, c4, c5⟩, hL, hC⟩ := unts_at (hU.keep st.keep (fun _ _ h => h)) hjn (HU.out j (by have := HNU.out; omega))
          have hs := ImgM.pre2_succ M j (by have := HNU.out; omega)
          have hr := ImgM.pre2_rest M (j + 1)
          rw [hs] at hr
          generalize M.units.getD j default = u at *
          obtain ⟨la, lc, rfl, hlc, hln⟩ := hL.shape
          obtain ⟨ca, cc, rfl, hcc, hcn⟩ := hC.shape
          generalize hnl : u.locals.length = nl at *
          generalize hnc : u.code.length = nc at *
          have HNL := Lib.hid hnl
          have HNC := Lib.hid hnc
          generalize List.flatMap ImgM.untN (List.drop (j + 1) M.units) = R at hr
          have hr1 := HP.out (a := ImgM.pre2 M j) (b := [u.kind, u.params, (nl : Int)]) (c := (u.locals ++ [u.result, u.takes, (nc : Int)] ++ ImgM.codeN u.code) ++ R) (by rw [← hr]; simp [ImgM.untN, hnl, hnc])
          have hr2 := HP.out (a := ImgM.pre2 M j ++ [u.kind, u.params, (nl : Int)]) (b := u.locals) (c := ([u.result, u.takes, (nc : Int)] ++ ImgM.codeN u.code) ++ R) (by rw [← hr]; simp [ImgM.untN, hnl, hnc])
          have hr3 := HP.out (a := ImgM.pre2 M j ++ [u.kind, u.params, (nl : Int)] ++ u.locals) (b := [u.result, u.takes, (nc : Int)]) (c := ImgM.codeN u.code ++ R) (by rw [← hr]; simp [ImgM.untN, hnl, hnc])
          have HR1 := Lib.hid hr1
          have HR2 := Lib.hid hr2
          have HR3 := Lib.hid hr3
          have HR := Lib.hid hr
          have HS := Lib.hid hs
          clear hr1 hr2 hr3 hr hs hnl hnc
          obtain ⟨wo, rfl⟩ : ∃ wo : World, wo = wr := ⟨_, rfl⟩
          go_wp2_with fail
          refine (nums_new [u.kind, u.params, (nl : Int)] HR1.out.1 (by simp) rfl rfl (by simp)).mono ?_
          rintro e w3 ⟨v3, rfl, hk3, ho3⟩
          have st3 := st.to (((Keeps.refl _ _).alloc _).trans hk3 (fun _ _ h => h))
          have hr3 := ho3.row (by omega)
          have b3 := (Blk.new wo #[.int .i64 u.kind, .int .i64 u.params, .slice la nl lc, .int .i64 u.result, .int .i64 u.takes, .slice ca nc cc] 86).keep hk3 (fun h => h)
          have a3 : u4.ownBlock ≠ some wo.heap.size := fun e => by have := (st.own.lt _ e).2; omega
          generalize wo.heap.size = q at *
          clear hk3 ho3 c0 c1 c2 c3 c4 c5 st
          go_wp2_with (at_builtin; refine ownS rfl _ _ 52 rfl (w.heap.size + 1) 5 (.int .u8 0) 1 1 Try.underlying52 (by kernel_rfl) rfl (by decide) _ _ _ rfl st3.own _ _ _ rfl hr3 (u8s_one _) (by have := HR1.out.2; unfold maxLen; omega) (by have := HR1.out.2; omega) (by have := st3.box.lt; omega) ?_; intro v4 w4 hown4 hk4 hat4; have s4 := Sb.app st3 hown4 hk4; rw [← ImgM.nums_append] at s4; have S4 := Lib.hid s4; have a4 : v4.ownBlock ≠ some q := (by intro e; rcases hat4 with h | h; exact a3 (h ▸ e); have := h q e; have := b3.lt; omega); have b4 := b3.keep hk4 (fun h => a3 h); have u2 := b4.cell 2; simp at u2; clear hown4 hk4 hat4 s4)
          refine (ref_nums _ nl u.locals _ (hL.keep S4.out.keep (fun _ _ h => h)) HR2.out.1 (by have := HR2.out.2.2.2; have := HNL.out; omega)).mono ?_
          rintro e w5 ⟨v5, rfl, hk5, ho5⟩
          have st5 := S4.out.to hk5
          have hr5 := ho5.row (by omega)
          have b5 := b4.keep hk5 (fun h => h)
          clear hk5 ho5 u2 b4 S4 st3 hr3 b3 a3
          go_wp2_with (at_builtin; refine ownS rfl _ _ 52 rfl (w.heap.size + 1) 5 (.int .u8 0) 1 1 Try.underlying52 (by kernel_rfl) rfl (by decide) _ _ _ rfl st5.own _ _ _ rfl hr5 (u8s_one _) (by have := HR2.out.2; unfold maxLen; omega) (by have := HR2.out.2; omega) (by have := st5.box.lt; omega) ?_; intro v6 w6 hown4 hk4 hat4; have s4 := Sb.app st5 hown4 hk4; rw [← ImgM.nums_append] at s4; have S6 := Lib.hid s4; have a6 : v6.ownBlock ≠ some q := (by intro e; rcases hat4 with h | h; exact a4 (h ▸ e); have := h q e; have := b5.lt; omega); have b6 := b5.keep hk4 (fun h => a4 h); have u3 := b6.cell 3; have u4' := b6.cell 4; have u5 := b6.cell 5; simp at u3 u4' u5; clear hown4 hk4 hat4 s4)
          refine (nums_new [u.result, u.takes, (nc : Int)] HR3.out.1 (by simp) rfl rfl (by simp)).mono ?_
          rintro e w7 ⟨v7, rfl, hk7, ho7⟩
          have st7 := S6.out.to hk7
          have hr7 := ho7.row (by omega)
          have b7 := b6.keep hk7 (fun h => h)
          clear hk7 ho7 u3 u4' u5 b6 S6 st5 hr5 b5 a4
          go_wp2_with (at_builtin; refine ownS rfl _ _ 52 rfl (w.heap.size + 1) 5 (.int .u8 0) 1 1 Try.underlying52 (by kernel_rfl) rfl (by decide) _ _ _ rfl st7.own _ _ _ rfl hr7 (u8s_one _) (by have := HR3.out.2; unfold maxLen; omega) (by have := HR3.out.2; omega) (by have := st7.box.lt; omega) ?_; intro v8 w8 hown4 hk4 hat4; have s4 := Sb.app st7 hown4 hk4; rw [← ImgM.nums_append] at s4; have S8 := Lib.hid s4; have a8 : v8.ownBlock ≠ some q := (by intro e; rcases hat4 with h | h; exact a6 (h ▸ e); have := h q e; have := b7.lt; omega); have b8 := b7.keep hk4 (fun h => a6 h); have u5 := b8.cell 5; simp at u5; clear hown4 hk4 hat4 s4)
          have st9 := S8.out
          rw [show ImgM.pre2 M j ++ [u.kind, u.params, (nl : Int)] ++ u.locals ++ [u.result, u.takes, (nc : Int)] = ImgM.pre2 M j ++ ImgM.untH u by simp [ImgM.untH, HNL.out, HNC.out]] at st9
          clear u5 b8 a8 b7 a6 st7 hr7 S8
          go_loopw [4, 77] (fun o i wr => ∃ (t : Nat), t ≤ nc ∧ i = .int .i64 t ∧ Sb w wr (.slice ba k bc) (.slice (some ⟨b2, o2, none⟩) nu uc) o (ImgM.nums (ImgM.pre2 M j ++ ImgM.untH u ++ ImgM.codeN (u.code.take t)))) (fun _ i _ => nc - (intOf i).toNat)
          case atStart => exact ⟨0, Nat.zero_le _, rfl, by simpa [ImgM.codeN] using st9⟩
          case round =>
            clear st9
            obtain ⟨t, ht, rfl, st⟩ := hrel
            by_cases htn : t < nc
            · obtain ⟨b3, o3, rfl⟩ := hC.form (by omega)
              obtain ⟨d0, d1, d2⟩ := code_at (hC.keep st.keep (fun _ _ h => h)) HNC.out htn
              have hs := ImgM.code_succ u t (by have := HNC.out; omega)
              have hut := ImgM.unt_take u (t + 1)
              rw [hs] at hut
              have hr := HR.out
              rw [← hut] at hr
              generalize u.code.getD t default = x at *
              obtain ⟨xo, xa, xn⟩ := x
              generalize hpr : ImgM.pre2 M j ++ ImgM.untH u ++ ImgM.codeN (List.take t u.code) = pr at *
              generalize ImgM.codeN (List.drop (t + 1) u.code) = rr at hr
              have hp1 := HP.out (a := pr) (b := [xo, xa]) (c := [xn] ++ rr ++ R) (by rw [← hr, ← hpr]; simp [ImgM.insN])
              have hp2 := HP.out (a := pr ++ [xo, xa]) (b := [xn]) (c := rr ++ R) (by rw [← hr, ← hpr]; simp [ImgM.insN])
              have HP1 := Lib.hid hp1
              have HP2 := Lib.hid hp2
              have HSS := Lib.hid hs
              have HPR := Lib.hid hpr
              clear hp1 hp2 hs hpr hr hut
              simp only at d0 d1 d2
              go_wp2
              have st1 : Sb w (wr.alloc (.cells #[.int .i64 xo, .int .i64 xa, .int .i64 xn] 89)) (.slice ba k bc) (.slice (some ⟨b2, o2, none⟩) nu uc) u4 (ImgM.nums pr) := st.to ((Keeps.refl _ _).alloc _)
              have b1 : Blk (wr.alloc (.cells #[.int .i64 xo, .int .i64 xa, .int .i64 xn] 89)) wr.heap.size #[.int .i64 xo, .int .i64 xa, .int .i64 xn] 89 := Blk.new _ _ _
              have a1 : u4.ownBlock ≠ some wr.heap.size := fun e => by have := (st.own.lt _ e).2; omega
              clear d0 d1 d2 st
              generalize World.alloc wr _ = w9 at *
              generalize wr.heap.size = q2 at *
              have st2 := st1.to ((Keeps.refl _ _).drew)
              have b2' := b1.drew
              have hT : w9.drew.cell? ⟨q2, 0, none⟩ = some (.int .i64 xo) ∧ w9.drew.cell? ⟨q2, 1, none⟩ = some (.int .i64 xa) ∧ w9.drew.cell? ⟨q2, 2, none⟩ = some (.int .i64 xn) :=
                ⟨(b2'.cell 0).trans (by simp), (b2'.cell 1).trans (by simp), (b2'.cell 2).trans (by simp)⟩
              clear b1 st1
              refine regionT 12 (fun w' => w'.cell? ⟨q2, 0, none⟩ = some (.int .i64 xo) ∧ w'.cell? ⟨q2, 1, none⟩ = some (.int .i64 xa) ∧ w'.cell? ⟨q2, 2, none⟩ = some (.int .i64 xn)) (by kernel_rfl) ?_
              refine take0 (i := 0) (v := u4) rfl (by kernel_rfl) (by kernel_rfl) (by kernel_rfl) (by decide) (fun _ _ _ h => h) (Or.inl ⟨by rfl, fun wS _ => ?_⟩) hT ?_
              · go_simp
              refine take0 (i := 1) (v := .pointer (some ⟨q2, 0, none⟩)) rfl (by kernel_rfl) (by kernel_rfl) (by kernel_rfl) (by decide) (fun _ _ _ h => h) (Or.inl ⟨by rfl, fun wS _ => ?_⟩) hT ?_
              · go_simp
              refine take0 (i := 3) (v := .pointer (some ⟨q2, 1, none⟩)) rfl (by kernel_rfl) (by kernel_rfl) (by kernel_rfl) (by decide) (fun _ _ _ h => h) (Or.inl ⟨by rfl, fun wS _ => ?_⟩) hT ?_
              · go_simp
              refine take0 (i := 8) (v := .pointer (some ⟨q2, 2, none⟩)) rfl (by kernel_rfl) (by kernel_rfl) (by kernel_rfl) (by decide) (fun _ _ _ h => h) (Or.inl ⟨by rfl, fun wS _ => ?_⟩) hT ?_
              · go_simp
              refine takeT (i := 2) (v := .int .i64 xo) rfl (by kernel_rfl) (by kernel_rfl) (by kernel_rfl) (by kernel_rfl) (by kernel_rfl) (fun _ _ _ h => h) (Or.inl ⟨by rfl, fun wS hSS => ?_⟩) hT ?_
              · obtain ⟨hS0, hS1, hS2⟩ := hSS
                go_simp
              refine takeT (i := 4) (v := .int .i64 xa) rfl (by kernel_rfl) (by kernel_rfl) (by kernel_rfl) (by kernel_rfl) (by kernel_rfl) (fun _ _ _ h => h) (Or.inl ⟨by rfl, fun wS hSS => ?_⟩) hT ?_
              · obtain ⟨hS0, hS1, hS2⟩ := hSS
                go_simp
              refine takeT (i := 9) (v := .int .i64 xn) rfl (by kernel_rfl) (by kernel_rfl) (by kernel_rfl) (by kernel_rfl) (by kernel_rfl) (fun _ _ _ h => h) (Or.inl ⟨by rfl, fun wS hSS => ?_⟩) hT ?_
              · obtain ⟨hS0, hS1, hS2⟩ := hSS
                go_simp
              generalize w9.drew = w0 at *
              refine oneT (i := 5) (by kernel_rfl) rfl (fun K hK => ?_)
              go_simp
              have hT5 : ∀ ob, (w0.alloc ob).cell? ⟨q2, 0, none⟩ = some (.int .i64 xo) ∧ (w0.alloc ob).cell? ⟨q2, 1, none⟩ = some (.int .i64 xa) ∧ (w0.alloc ob).cell? ⟨q2, 2, none⟩ = some (.int .i64 xn) := fun ob =>
                ⟨((b2'.alloc ob).cell 0).trans (by simp), ((b2'.alloc ob).cell 1).trans (by simp), ((b2'.alloc ob).cell 2).trans (by simp)⟩
              refine hK _ _ (.inr (hT5 _)) ?_
              clear hK K hT5 hT
              refine oneT (i := 6) (by kernel_rfl) rfl (fun K hK => ?_)
              go_simp
              refine (nums_new [xo, xa] HP1.out.1 (by simp) rfl rfl (by simp)).mono ?_
              rintro e w3 ⟨v3, rfl, hk3, ho3⟩
              have st3 := st2.to hk3
              have b3' := b2'.keep hk3 (fun h => h)
              have hr3 := ho3.row (by omega)
              refine hK _ _ (.inr ⟨(b3'.cell 0).trans (by simp), (b3'.cell 1).trans (by simp), (b3'.cell 2).trans (by simp)⟩) ?_
              clear hK K hk3 ho3 st2 b2'
              refine oneT (i := 7) (by kernel_rfl) rfl (fun K hK => ?_)
              refine ownStepS rfl _ _ 52 rfl (w.heap.size + 1) 5 (.int .u8 0) 1 1 Try.underlying52 (by kernel_rfl) rfl (by decide) _ _ _ rfl st3.own _ _ _ rfl hr3 (u8s_one _) (by have := HP1.out.2; unfold maxLen; omega) (by have := HP1.out.2; omega) (by have := st3.box.lt; omega) ?_
              intro v5 w5 hown4 hk4 hat4
              have s4 := Sb.app st3 hown4 hk4
              rw [← ImgM.nums_append] at s4
              have b5 := b3'.keep hk4 (fun h => a1 h)
              refine hK _ _ (.inr ⟨(b5.cell 0).trans (by simp), (b5.cell 1).trans (by simp), (b5.cell 2).trans (by simp)⟩) ?_
              have a5 : v5.ownBlock ≠ some q2 := (by intro e; rcases hat4 with h | h; exact a1 (h ▸ e); have := h q2 e; have := b3'.lt; omega)
              clear hK K hown4 hk4 hat4 b3' st3 hr3
              refine oneT (i := 10) (by kernel_rfl) rfl (fun K hK => ?_)
              go_simp
              refine (ref_num xn _ (HP2.out.1 _ (by simp))).mono ?_
              rintro e w6 ⟨v6, rfl, hk6, ho6⟩
              have st6 := s4.to hk6
              have b6 := b5.keep hk6 (fun h => h)
              have hr6 := ho6.row (by omega)
              refine hK _ _ (.inr ⟨(b6.cell 0).trans (by simp), (b6.cell 1).trans (by simp), (b6.cell 2).trans (by simp)⟩) ?_
              clear hK K hk6 ho6 s4 b5
              have hn1 : ImgM.nums [xn] = ImgM.num xn := by simp [ImgM.nums]
              have HN1 := Lib.hid hn1
              clear hn1
              refine oneT (i := 11) (by kernel_rfl) rfl (fun K hK => ?_)
              refine ownStepS rfl _ _ 52 rfl (w.heap.size + 1) 5 (.int .u8 0) 1 1 Try.underlying52 (by kernel_rfl) rfl (by decide) _ _ _ rfl st6.own _ _ _ rfl hr6 (u8s_one _) (by have := HP2.out.2; rw [HN1.out] at this; unfold maxLen; omega) (by have := HP2.out.2; rw [HN1.out] at this; omega) (by have := st6.box.lt; omega) ?_
              intro v7 w7 hown4 hk4 hat4
              have s7 := Sb.app st6 hown4 hk4
              rw [← HN1.out, ← ImgM.nums_append] at s7
              have b7 := b6.keep hk4 (fun h => a5 h)
              refine hK _ _ (.inr ⟨(b7.cell 0).trans (by simp), (b7.cell 1).trans (by simp), (b7.cell 2).trans (by simp)⟩) ?_
              have S7 := Lib.hid s7
              clear hK K hown4 hk4 hat4 b6 st6 hr6 s7 b7 a5 a1
              refine oneT (i := 12) (by kernel_rfl) rfl (fun K hK => ?_)
              go_simp
              refine hK _ _ (.inl (by kernel_rfl)) ?_
              clear hK K
              refine doneT (by kernel_rfl) ?_ _
              go_wp2
              go_roundw
              case rel =>
                refine ⟨t + 1, by omega, by go_num, ?_⟩
                have := S7.out
                rw [HSS.out, ← List.append_assoc, HPR.out]
                simpa [ImgM.insN] using this
              case measure => simp [intOf]; omega
            · obtain rfl : t = nc := by omega
              have he : ImgM.pre2 M j ++ ImgM.untH u ++ ImgM.codeN (u.code.take t) = ImgM.pre2 M (j + 1) := by
                rw [HS.out, List.take_of_length_le (by have := HNC.out; omega), ← ImgM.unt_take u t, List.take_of_length_le (by have := HNC.out; omega), List.drop_of_length_le (by have := HNC.out; omega)]
                simp [ImgM.codeN]
              rw [he] at st
              clear he
              go_wp2
              go_roundw
              case rel => exact ⟨j + 1, by omega, by go_num, st⟩
              case measure => simp [intOf]; omega
        · obtain rfl : j = nu := by omega
          have he := ImgM.pre2_all M
          rw [HNU.out] at he
          rw [he] at st
          clear he
          have st9 : Sb w wr (.slice ba k bc) (.slice ua j uc) u4 (ImgM.body M) := st
          clear st
          have hr9 := st9.own.row (by omega)
          have HS2 := Lib.hid (ref_sum u4 (ImgM.body M).length (ImgM.body M) wr hr9 (ImgM.nums_byte _))
          have hclt := ImgM.crc_lt (ImgM.body M)
          have hown9 := st9.own
          have HK9 := Lib.hid st9.keep
          have hbl : (ImgM.bytes M).length = (ImgM.body M).length + 2 := by simp [ImgM.bytes]
          have hby : u8s (ImgM.bytes M) = u8s (ImgM.body M) ++ [.int .u8 ((ImgM.crc (ImgM.body M) : Int) / 256), .int .u8 ((ImgM.crc (ImgM.body M) : Int) % 256)] := by simp [ImgM.bytes, u8s]
          have hx2 := HLB.out
          clear st9 hr9
          generalize ImgM.crc (ImgM.body M) = C at *
          generalize u8s (ImgM.body M) = U at *
          generalize (ImgM.body M).length = X at *
          have HBL := Lib.hid hbl
          have HBY := Lib.hid hby
          have HX2 := Lib.hid hx2
          clear hbl hby hx2
          go_wp2_with fail
          refine HS2.out.mono ?_
          rintro e w2 ⟨rfl, rfl⟩
          by_cases hbig : 60000 < X + 2
          · have d1 : decide ((60000 : Int) < (X : Int) + 2) = true := by simp; omega
            have HB := Lib.hid hbig
            clear hbig
            go_wp2_with (at_builtin; refine ownB rfl _ _ 52 rfl (w.heap.size + 1) 5 (.int .u8 0) 1 1 Try.underlying52 (by kernel_rfl) rfl (by decide) _ _ 2 _ rfl (hown9.alloc _) _ _ [.int .u8 ((C : Int) / 256), .int .u8 ((C : Int) % 256)] rfl (Blk.new' (by simp)) rfl (by simp [Value.oneCell']) (by have := HX2.out; unfold maxLen; omega) (by have := HX2.out; omega) (by have := HK9.out.size; simp; omega) ?_; intro v5 w5 hown5 hk5 hat5; obtain ⟨a5, k5, rfl, -⟩ := (hown5.row (by omega)).shape; have HO5 := Lib.hid hown5; have HK5 := Lib.hid ((HK9.out.alloc _).trans hk5 (fun i hi h => by have := (hown9.lt i h).1; omega)); clear hown5 hk5 hat5)
            go_ret2
            exact ⟨HK5.out, .inr ⟨by have := HBL.out; have := HB.out; omega, rfl⟩⟩
          · have d1 : decide ((60000 : Int) < (X : Int) + 2) = false := by simp; omega
            have HB := Lib.hid hbig
            clear hbig
            go_wp2_with (at_builtin; refine ownB rfl _ _ 52 rfl (w.heap.size + 1) 5 (.int .u8 0) 1 1 Try.underlying52 (by kernel_rfl) rfl (by decide) _ _ 2 _ rfl (hown9.alloc _) _ _ [.int .u8 ((C : Int) / 256), .int .u8 ((C : Int) % 256)] rfl (Blk.new' (by simp)) rfl (by simp [Value.oneCell']) (by have := HX2.out; unfold maxLen; omega) (by have := HX2.out; omega) (by have := HK9.out.size; simp; omega) ?_; intro v5 w5 hown5 hk5 hat5; obtain ⟨a5, k5, rfl, -⟩ := (hown5.row (by omega)).shape; have HO5 := Lib.hid hown5; have HK5 := Lib.hid ((HK9.out.alloc _).trans hk5 (fun i hi h => by have := (hown9.lt i h).1; omega)); clear hown5 hk5 hat5)
            go_ret2
            refine ⟨HK5.out, .inl ⟨by have := HBL.out; have := HB.out; omega, _, rfl, ?_⟩⟩
            rw [HBL.out, HBY.out]
            exact HO5.out.row (by omega)
end Go.Proofs.Ytninmkkcphnniaa.Img
