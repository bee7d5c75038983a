/- The reference's comparisons: of lists of ints, of bytes, of modules that are the same. -/
import Derived.Test.YtninmkkcphnniaaSame
import Derived.Test.YtninmkkcphnniaaMod
import Derived.BigQuiet
import Derived.BigRegion
namespace Go.Proofs.Ytninmkkcphnniaa.Img
open Go.RowKit
set_option linter.unusedVariables false
set_option linter.unusedSimpArgs false

set_option maxRecDepth 100000 in
set_option maxHeartbeats 400000 in
theorem same_ints6 (a b : Value) (n m : Nat) (xs ys : List Int) (w : World) (ha : Row w a 1 n (xs.map (Value.int .i64))) (hb : Row w b 1 m (ys.map (Value.int .i64))) :
    Calls Try.prog 55 #[a, b] w fun e w' => e = .returned (.bool (decide (xs = ys))) ∧ ∃ k, w' = w.drewN k := by
  have ha0 := ha
  have hb0 := hb
  obtain ⟨la, ma, ao, ca, rfl, hca, hao⟩ := ha
  obtain ⟨lb, mb, bo, cb, rfl, hcb, hbo⟩ := hb
  simp at la lb
  unfold maxLen at ma mb
  by_cases hnm : n = m
  · subst hnm
    have hb1 : ((n : Int) != (n : Int)) = false := by simp
    go_enter Try.func55, Try.ntmps55
    go_wp2
    go_loopw [13] (fun i wr => ∃ k : Nat, k ≤ n ∧ i = .int .i64 k ∧ xs.take k = ys.take k ∧ ∃ q, wr = w.drewN q) (fun i _ => n - (intOf i).toNat)
    case atStart => exact ⟨0, Nat.zero_le _, rfl, by simp, 0, rfl⟩
    case round =>
      obtain ⟨k, hk, rfl, hpre, q, rfl⟩ := hrel
      by_cases hkn : k < n
      · obtain ⟨ba, oa, rfl, -⟩ := hao (by omega)
        obtain ⟨bb, ob, rfl, -⟩ := hbo (by omega)
        clear hao hbo
        have c1 := row_ints ha0 k hkn
        have c2 := row_ints hb0 k hkn
        have i0 : (0 : Int) ≤ (k : Int) := Int.natCast_nonneg _
        have i1 : (k : Int) < (n : Int) := by omega
        by_cases he : xs.getD k 0 = ys.getD k 0
        · have hx := take_ext 0 hpre (by omega) (by omega) he
          have hne : (xs.getD k 0 != ys.getD k 0) = false := by rw [he]; simp
          generalize xs.getD k 0 = x at *
          generalize ys.getD k 0 = y at *
          have He := Lib.hid he
          have Hx := Lib.hid hx
          clear he hx hpre
          go_wp2
          go_quiet (fail)
          go_wp2
          go_roundw
          case rel => exact ⟨k + 1, by omega, by go_num, Hx.out, q + nq, by simp⟩
          case measure => simp [intOf]; omega
        · have hne : (xs.getD k 0 != ys.getD k 0) = true := by simpa using he
          have hxy : xs ≠ ys := fun e => he (by rw [e])
          generalize xs.getD k 0 = x at *
          generalize ys.getD k 0 = y at *
          have Hxy := Lib.hid hxy
          clear he hpre hxy
          go_wp2
          go_quiet (fail)
          go_wp2
          go_ret
          exact ⟨by simp [Hxy.out], q + nq, by simp⟩
      · obtain rfl : k = n := by omega
        have hxy : xs = ys := by rwa [List.take_of_length_le (by omega), List.take_of_length_le (by omega)] at hpre
        have Hxy := Lib.hid hxy
        clear hpre hxy
        go_wp2
        go_ret
        exact ⟨by simp [Hxy.out], _, rfl⟩
  · have hb1 : ((n : Int) != (m : Int)) = true := by rw [bne_iff_ne]; omega
    have hxy : xs ≠ ys := fun e => hnm (by rw [← la, ← lb, e])
    have Hxy := Lib.hid hxy
    clear hxy
    go_enter Try.func55, Try.ntmps55
    go_wp2
    go_ret
    exact ⟨by simp [Hxy.out], 0, rfl⟩

set_option maxRecDepth 100000 in
set_option maxHeartbeats 400000 in
theorem same_u8 (a b : Value) (n m : Nat) (xs ys : List Int) (w : World) (ha : Row w a 1 n (xs.map (Value.int .u8))) (hb : Row w b 1 m (ys.map (Value.int .u8))) :
    Calls Try.prog 24 #[a, b] w fun e w' => e = .returned (.bool (decide (xs = ys))) ∧ ∃ k, w' = w.drewN k := by
  have ha0 := ha
  have hb0 := hb
  obtain ⟨la, ma, ao, ca, rfl, hca, hao⟩ := ha
  obtain ⟨lb, mb, bo, cb, rfl, hcb, hbo⟩ := hb
  simp at la lb
  unfold maxLen at ma mb
  by_cases hnm : n = m
  · subst hnm
    have hb1 : ((n : Int) != (n : Int)) = false := by simp
    go_enter Try.func24, Try.ntmps24
    go_wp2
    go_loopw [13] (fun i wr => ∃ k : Nat, k ≤ n ∧ i = .int .i64 k ∧ xs.take k = ys.take k ∧ ∃ q, wr = w.drewN q) (fun i _ => n - (intOf i).toNat)
    case atStart => exact ⟨0, Nat.zero_le _, rfl, by simp, 0, rfl⟩
    case round =>
      obtain ⟨k, hk, rfl, hpre, q, rfl⟩ := hrel
      by_cases hkn : k < n
      · obtain ⟨ba, oa, rfl, -⟩ := hao (by omega)
        obtain ⟨bb, ob, rfl, -⟩ := hbo (by omega)
        clear hao hbo
        have c1 := row_ints ha0 k hkn
        have c2 := row_ints hb0 k hkn
        have i0 : (0 : Int) ≤ (k : Int) := Int.natCast_nonneg _
        have i1 : (k : Int) < (n : Int) := by omega
        by_cases he : xs.getD k 0 = ys.getD k 0
        · have hx := take_ext 0 hpre (by omega) (by omega) he
          have hne : (xs.getD k 0 != ys.getD k 0) = false := by rw [he]; simp
          generalize xs.getD k 0 = x at *
          generalize ys.getD k 0 = y at *
          have He := Lib.hid he
          have Hx := Lib.hid hx
          clear he hx hpre
          go_wp2
          go_quiet (fail)
          go_wp2
          go_roundw
          case rel => exact ⟨k + 1, by omega, by go_num, Hx.out, q + nq, by simp⟩
          case measure => simp [intOf]; omega
        · have hne : (xs.getD k 0 != ys.getD k 0) = true := by simpa using he
          have hxy : xs ≠ ys := fun e => he (by rw [e])
          generalize xs.getD k 0 = x at *
          generalize ys.getD k 0 = y at *
          have Hxy := Lib.hid hxy
          clear he hpre hxy
          go_wp2
          go_quiet (fail)
          go_wp2
          go_ret
          exact ⟨by simp [Hxy.out], q + nq, by simp⟩
      · obtain rfl : k = n := by omega
        have hxy : xs = ys := by rwa [List.take_of_length_le (by omega), List.take_of_length_le (by omega)] at hpre
        have Hxy := Lib.hid hxy
        clear hpre hxy
        go_wp2
        go_ret
        exact ⟨by simp [Hxy.out], _, rfl⟩
  · have hb1 : ((n : Int) != (m : Int)) = true := by rw [bne_iff_ne]; omega
    have hxy : xs ≠ ys := fun e => hnm (by rw [← la, ← lb, e])
    have Hxy := Lib.hid hxy
    clear hxy
    go_enter Try.func24, Try.ntmps24
    go_wp2
    go_ret
    exact ⟨by simp [Hxy.out], 0, rfl⟩


structure SS (w wr : World) (a b c d : Value) : Prop where
  keep : Keeps Nil w wr
  one : Blk wr w.heap.size #[a, b] 51
  two : Blk wr (w.heap.size + 1) #[c, d] 51

theorem SS.drewN {w wr : World} {a b c d : Value} (h : SS w wr a b c d) (q : Nat) : SS w (wr.drewN q) a b c d := ⟨h.keep.drewN q, h.one.drewN q, h.two.drewN q⟩

set_option maxRecDepth 100000 in
set_option maxHeartbeats 4000000 in
theorem same_mod (v1 v2 : Value) (M : ImgM.Mdl) (w : World) (h1 : ModAt w v1 M) (h2 : ModAt w v2 M) :
    Calls Try.prog 29 #[v1, v2] w fun e w' => e = .returned (.bool true) ∧ Keeps Nil w w' := by
  obtain ⟨bv, uv, ucs, rfl, hB, hU, hUu⟩ := h1
  obtain ⟨bv', uv', ucs', rfl, hB', hU', hUu'⟩ := h2
  obtain ⟨ba, bc, rfl, hbc, hbn⟩ := hB.shape
  obtain ⟨ua, uc, rfl, huc, hun⟩ := hU.shape
  obtain ⟨ba', bc', rfl, hbc', hbn'⟩ := hB'.shape
  obtain ⟨ua', uc', rfl, huc', hun'⟩ := hU'.shape
  generalize hnb : M.boxes.length = nb at *
  generalize hnu : M.units.length = nu at *
  have HNB := Lib.hid hnb
  have HNU := Lib.hid hnu
  have HUU := Lib.hid hUu
  have HUU' := Lib.hid hUu'
  clear hnb hnu hUu hUu'
  have d1 : ((nb : Int) != (nb : Int)) = false := by simp
  have d2 : ((nu : Int) != (nu : Int)) = false := by simp
  go_enter Try.func29, Try.ntmps29
  go_wp2
  generalize hW : World.alloc (World.alloc w _) _ = w2 at *
  have hs : SS w w2 (.slice ba nb bc) (.slice ua nu uc) (.slice ba' nb bc') (.slice ua' nu uc') := by
    rw [← hW]
    exact ⟨((Keeps.refl _ _).alloc _).alloc _, (Blk.new _ _ _).alloc _, Blk.new' (by simp)⟩
  clear hW d1 d2
  go_loopw [29] (fun i wr => ∃ k : Nat, k ≤ nb ∧ i = .int .i64 k ∧ SS w wr (.slice ba nb bc) (.slice ua nu uc) (.slice ba' nb bc') (.slice ua' nu uc')) (fun i _ => nb - (intOf i).toNat)
  case atStart => exact ⟨0, Nat.zero_le _, rfl, hs⟩
  case round =>
    obtain ⟨k, hk, rfl, hs⟩ := hrel
    by_cases hkn : k < nb
    · obtain ⟨b, o, rfl⟩ := hB.form (by omega)
      obtain ⟨b', o', rfl⟩ := hB'.form (by omega)
      obtain ⟨c0, c1⟩ := boxes_at (hB.keep hs.keep (fun _ _ h => h)) HNB.out hkn
      obtain ⟨e0, e1⟩ := boxes_at (hB'.keep hs.keep (fun _ _ h => h)) HNB.out hkn
      generalize M.boxes.getD k (0, 0) = x at *
      obtain ⟨x1, x2⟩ := x
      simp only at c0 c1 e0 e1
      have m1 := hs.one.cell 0
      have m2 := hs.two.cell 0
      simp at m1 m2
      have i0 : (0 : Int) ≤ (k : Int) := Int.natCast_nonneg _
      have i1 : (k : Int) < (nb : Int) := by omega
      go_wp2
      go_quiet (fail)
      go_wp2
      go_roundw
      case rel => exact ⟨k + 1, by omega, by go_num, hs.drewN _⟩
      case measure => simp [intOf]; omega
    · obtain rfl : k = nb := by omega
      have m1 := hs.one.cell 1
      simp at m1
      go_wp2
      clear m1
      have hs1 := hs
      clear hs
      go_loopw [47] (fun i wr => ∃ j : Nat, j ≤ nu ∧ i = .int .i64 j ∧ SS w wr (.slice ba k bc) (.slice ua nu uc) (.slice ba' k bc') (.slice ua' nu uc')) (fun i _ => nu - (intOf i).toNat)
      case atStart => exact ⟨0, Nat.zero_le _, rfl, hs1⟩
      case round =>
        clear hs1
        obtain ⟨j, hj, rfl, hs⟩ := hrel
        by_cases hjn : j < nu
        · obtain ⟨b, o, rfl⟩ := hU.form (by omega)
          obtain ⟨b', o', rfl⟩ := hU'.form (by omega)
          obtain ⟨lv, cv, ⟨c0, c1, c2, c3, c4, c5⟩, hL, hC⟩ := unts_at (hU.keep hs.keep (fun _ _ h => h)) hjn (HUU.out j hjn)
          have hL0 := hL
          obtain ⟨lv', cv', ⟨e0, e1, e2, e3, e4, e5⟩, hL', hC'⟩ := unts_at (hU'.keep hs.keep (fun _ _ h => h)) hjn (HUU'.out j hjn)
          have hL0' := hL'
          generalize M.units.getD j default = u at *
          obtain ⟨kind, params, locals, result, takes, code⟩ := u
          simp only at c0 c1 c2 c3 c4 c5 hL hC e0 e1 e2 e3 e4 e5 hL' hC' hL0 hL0'
          clear hL hL'
          obtain ⟨la, lc, rfl, -, -⟩ := hL0.shape
          obtain ⟨la', lc', rfl, -, -⟩ := hL0'.shape
          obtain ⟨ca, cc, rfl, -, hcn⟩ := hC.shape
          obtain ⟨ca', cc', rfl, -, -⟩ := hC'.shape
          have HSI : Hid (∀ w', Keeps Nil w w' → Calls Try.prog 55 #[.slice la _ lc, .slice la' _ lc'] w' fun e w'' => e = .returned (.bool true) ∧ Keeps Nil w' w'') := Lib.hid fun w' hk' =>
            (same_ints6 _ _ _ _ locals locals w' (hL0.keep hk' (fun _ _ h => h)) (hL0'.keep hk' (fun _ _ h => h))).mono fun e w'' ⟨h1, q, h2⟩ => ⟨by rw [h1]; simp, by rw [h2]; exact (Keeps.refl _ _).drewN q⟩
          clear hL0 hL0'
          generalize hln : locals.length = ln at *
          generalize hcl : code.length = cn at *
          have HLN := Lib.hid hln
          have HCL := Lib.hid hcl
          clear hln hcl
          have m1 := hs.one.cell 1
          have m2 := hs.two.cell 1
          simp at m1 m2
          have i0 : (0 : Int) ≤ (j : Int) := Int.natCast_nonneg _
          have i1 : (j : Int) < (nu : Int) := by omega
          have g1 := hs.one.lt
          have g2 := hs.two.lt
          have g3 := World.block_lt_of_cell? wr _ c0
          have g4 := World.block_lt_of_cell? wr _ e0
          simp only at g3 g4
          go_wp2
          go_region
          all_goals clear c0 c1 c2 c3 c4 c5 e0 e1 e2 e3 e4 e5 m1 m2 g1 g2 g3 g4 i0 i1
          · generalize hW : World.drew _ = w5
            have hk5 : Keeps Nil wr w5 := by rw [← hW]; exact (((Keeps.refl _ _).alloc _).alloc _).drew
            have bx : Blk w5 (wr.heap.size) #[.int .i64 kind, .int .i64 params, .slice la ln lc, .int .i64 result, .int .i64 takes, .slice ca cn cc] 86 := by rw [← hW]; exact ((Blk.new _ _ _).alloc _).drew
            have bz : Blk w5 (wr.heap.size + 1) #[.int .i64 kind, .int .i64 params, .slice la' ln lc', .int .i64 result, .int .i64 takes, .slice ca' cn cc'] 86 := by rw [← hW]; exact (Blk.new' (by simp)).drew
            have hs5 : SS w w5 (.slice ba k bc) (.slice (some ⟨b, o, none⟩) nu uc) (.slice ba' k bc') (.slice (some ⟨b', o', none⟩) nu uc') := ⟨hs.keep.trans hk5 (fun _ _ h => h), hs.one.keep hk5 (fun h => h), hs.two.keep hk5 (fun h => h)⟩
            clear hW hk5
            generalize wr.heap.size = H at *
            have x0 := bx.cell 0
            have x1 := bx.cell 1
            have x2 := bx.cell 2
            have x3 := bx.cell 3
            have x4 := bx.cell 4
            have z0 := bz.cell 0
            have z1 := bz.cell 1
            have z2 := bz.cell 2
            have z3 := bz.cell 3
            have z4 := bz.cell 4
            simp at x0 x1 x2 x3 x4 z0 z1 z2 z3 z4
            go_wp2_with fail
            refine (HSI.out w5 hs5.keep).mono ?_
            rintro e w6 ⟨rfl, hk6⟩
            have bx6 := bx.keep hk6 (fun h => h)
            have bz6 := bz.keep hk6 (fun h => h)
            have hs6 : SS w w6 (.slice ba k bc) (.slice (some ⟨b, o, none⟩) nu uc) (.slice ba' k bc') (.slice (some ⟨b', o', none⟩) nu uc') := ⟨hs5.keep.trans hk6 (fun _ _ h => h), hs5.one.keep hk6 (fun h => h), hs5.two.keep hk6 (fun h => h)⟩
            clear x0 x1 x2 x3 x4 z0 z1 z2 z3 z4 hk6 bx bz hs5
            have x5 := bx6.cell 5
            have z5 := bz6.cell 5
            simp at x5 z5
            go_wp2
            go_loopw [106] (fun i wr => ∃ t : Nat, t ≤ cn ∧ i = .int .i64 t ∧ SS w wr (.slice ba k bc) (.slice (some ⟨b, o, none⟩) nu uc) (.slice ba' k bc') (.slice (some ⟨b', o', none⟩) nu uc') ∧ Blk wr (H) #[.int .i64 kind, .int .i64 params, .slice la ln lc, .int .i64 result, .int .i64 takes, .slice ca cn cc] 86 ∧ Blk wr (H + 1) #[.int .i64 kind, .int .i64 params, .slice la' ln lc', .int .i64 result, .int .i64 takes, .slice ca' cn cc'] 86) (fun i _ => cn - (intOf i).toNat)
            case atStart => exact ⟨0, Nat.zero_le _, rfl, hs6, bx6, bz6⟩
            case round =>
              clear hs6 bx6 bz6 x5 z5 w5 w6
              obtain ⟨t, ht, rfl, hs7, bx, bz⟩ := hrel
              by_cases htn : t < cn
              · obtain ⟨cb, co, rfl⟩ := hC.form (by omega)
                obtain ⟨cb', co', rfl⟩ := hC'.form (by omega)
                obtain ⟨c0, c1, c2⟩ := code_at (hC.keep hs7.keep (fun _ _ h => h)) HCL.out htn
                obtain ⟨e0, e1, e2⟩ := code_at (hC'.keep hs7.keep (fun _ _ h => h)) HCL.out htn
                generalize code.getD t default = ii at *
                obtain ⟨op, ia, ib⟩ := ii
                simp only at c0 c1 c2 e0 e1 e2
                have x5 := bx.cell 5
                have z5 := bz.cell 5
                simp at x5 z5
                have i0 : (0 : Int) ≤ (t : Int) := Int.natCast_nonneg _
                have i1 : (t : Int) < (cn : Int) := by omega
                go_wp2
                go_quiet (fail)
                go_wp2
                go_roundw
                case rel => exact ⟨t + 1, by omega, by go_num, hs7.drewN _, bx.drewN _, bz.drewN _⟩
                case measure => simp [intOf]; omega
              · obtain rfl : t = cn := by omega
                go_wp2
                go_roundw
                case rel => exact ⟨j + 1, by omega, by go_num, hs7⟩
                case measure => simp [intOf]; omega
          · generalize hW : World.drew _ = w5
            have hk5 : Keeps Nil wr w5 := by rw [← hW]; exact (((Keeps.refl _ _).alloc _).alloc _).drew
            have bx : Blk w5 (wr.heap.size + 1) #[.int .i64 kind, .int .i64 params, .slice la ln lc, .int .i64 result, .int .i64 takes, .slice ca cn cc] 86 := by rw [← hW]; exact (Blk.new' (by simp)).drew
            have bz : Blk w5 (wr.heap.size) #[.int .i64 kind, .int .i64 params, .slice la' ln lc', .int .i64 result, .int .i64 takes, .slice ca' cn cc'] 86 := by rw [← hW]; exact ((Blk.new _ _ _).alloc _).drew
            have hs5 : SS w w5 (.slice ba k bc) (.slice (some ⟨b, o, none⟩) nu uc) (.slice ba' k bc') (.slice (some ⟨b', o', none⟩) nu uc') := ⟨hs.keep.trans hk5 (fun _ _ h => h), hs.one.keep hk5 (fun h => h), hs.two.keep hk5 (fun h => h)⟩
            clear hW hk5
            generalize wr.heap.size = H at *
            have x0 := bx.cell 0
            have x1 := bx.cell 1
            have x2 := bx.cell 2
            have x3 := bx.cell 3
            have x4 := bx.cell 4
            have z0 := bz.cell 0
            have z1 := bz.cell 1
            have z2 := bz.cell 2
            have z3 := bz.cell 3
            have z4 := bz.cell 4
            simp at x0 x1 x2 x3 x4 z0 z1 z2 z3 z4
            go_wp2_with fail
            refine (HSI.out w5 hs5.keep).mono ?_
            rintro e w6 ⟨rfl, hk6⟩
            have bx6 := bx.keep hk6 (fun h => h)
            have bz6 := bz.keep hk6 (fun h => h)
            have hs6 : SS w w6 (.slice ba k bc) (.slice (some ⟨b, o, none⟩) nu uc) (.slice ba' k bc') (.slice (some ⟨b', o', none⟩) nu uc') := ⟨hs5.keep.trans hk6 (fun _ _ h => h), hs5.one.keep hk6 (fun h => h), hs5.two.keep hk6 (fun h => h)⟩
            clear x0 x1 x2 x3 x4 z0 z1 z2 z3 z4 hk6 bx bz hs5
            have x5 := bx6.cell 5
            have z5 := bz6.cell 5
            simp at x5 z5
            go_wp2
            go_loopw [106] (fun i wr => ∃ t : Nat, t ≤ cn ∧ i = .int .i64 t ∧ SS w wr (.slice ba k bc) (.slice (some ⟨b, o, none⟩) nu uc) (.slice ba' k bc') (.slice (some ⟨b', o', none⟩) nu uc') ∧ Blk wr (H + 1) #[.int .i64 kind, .int .i64 params, .slice la ln lc, .int .i64 result, .int .i64 takes, .slice ca cn cc] 86 ∧ Blk wr (H) #[.int .i64 kind, .int .i64 params, .slice la' ln lc', .int .i64 result, .int .i64 takes, .slice ca' cn cc'] 86) (fun i _ => cn - (intOf i).toNat)
            case atStart => exact ⟨0, Nat.zero_le _, rfl, hs6, bx6, bz6⟩
            case round =>
              clear hs6 bx6 bz6 x5 z5 w5 w6
              obtain ⟨t, ht, rfl, hs7, bx, bz⟩ := hrel
              by_cases htn : t < cn
              · obtain ⟨cb, co, rfl⟩ := hC.form (by omega)
                obtain ⟨cb', co', rfl⟩ := hC'.form (by omega)
                obtain ⟨c0, c1, c2⟩ := code_at (hC.keep hs7.keep (fun _ _ h => h)) HCL.out htn
                obtain ⟨e0, e1, e2⟩ := code_at (hC'.keep hs7.keep (fun _ _ h => h)) HCL.out htn
                generalize code.getD t default = ii at *
                obtain ⟨op, ia, ib⟩ := ii
                simp only at c0 c1 c2 e0 e1 e2
                have x5 := bx.cell 5
                have z5 := bz.cell 5
                simp at x5 z5
                have i0 : (0 : Int) ≤ (t : Int) := Int.natCast_nonneg _
                have i1 : (t : Int) < (cn : Int) := by omega
                go_wp2
                go_quiet (fail)
                go_wp2
                go_roundw
                case rel => exact ⟨t + 1, by omega, by go_num, hs7.drewN _, bx.drewN _, bz.drewN _⟩
                case measure => simp [intOf]; omega
              · obtain rfl : t = cn := by omega
                go_wp2
                go_roundw
                case rel => exact ⟨j + 1, by omega, by go_num, hs7⟩
                case measure => simp [intOf]; omega
        · obtain rfl : j = nu := by omega
          go_wp2
          go_ret
          exact ⟨rfl, hs.keep⟩
end Go.Proofs.Ytninmkkcphnniaa.Img
