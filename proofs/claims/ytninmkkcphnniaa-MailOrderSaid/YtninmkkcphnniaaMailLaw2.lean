/- 'alive' of chapter 5, and the law MailOrder: their walks. -/
import Derived.Test.YtninmkkcphnniaaMailPlay
import Derived.Test.YtninmkkcphnniaaSame
namespace Go.Proofs.Ytninmkkcphnniaa.Mail
open Go.RowKit
set_option linter.unusedVariables false

set_option maxRecDepth 100000 in
set_option maxHeartbeats 1000000 in
theorem alive_true (w : World) : Calls Try.prog 17 #[] w fun e w' => e = .returned (.bool true) ∧ Keeps Nil w w' := by
  go_enter Try.func17, Try.ntmps17
  go_wp2_with fail
  refine (play_any 1 _ [(true, 7), (true, 8)] 2 rfl _ (Row.of_blk (n := 2) (Blk.new w _ _) rfl (by unfold maxLen; omega)) (by omega) (by omega) (by omega)).mono ?_
  rintro e w1 ⟨vo, vw, rfl, hk1, ho1, hw1⟩
  have e1 : (MailM.run (Int.toNat 1) [] [(true, 7), (true, 8)]) = ([(true, 0), (false, 0)], [7]) := rfl
  rw [e1] at ho1 hw1
  have r1 := ho1.row (by omega)
  have r2 := hw1.row (by omega)
  clear ho1 hw1 e1
  obtain ⟨ao, ca, rfl, -, -⟩ := r1.shape
  obtain ⟨aw, cw, rfl, -, -⟩ := r2.shape
  obtain ⟨b, off, rfl⟩ := r1.form (by omega)
  obtain ⟨b', off', rfl⟩ := r2.form (by simp)
  have c0 := r1.cellsAt 0 (by omega)
  have c2 := r1.cellsAt 2 (by omega)
  have d0 := r2.cellsAt 0 (by simp)
  simp [opCells] at c0 c2 d0
  have hk := (Keeps.refl Nil w).alloc (.cells #[.bool true, .int .i64 7, .bool true, .int .i64 8] 34) |>.trans hk1 (fun _ _ h => h)
  clear r1 r2 hk1
  go_wp2
  go_ret
  exact ⟨rfl, hk⟩

set_option maxRecDepth 100000 in
set_option maxHeartbeats 1000000 in
theorem order_out (places : Int) (v : Value) (w : World) (h : places < 1 ∨ 20 < places) :
    Calls Try.prog 4 #[.int .i64 places, v] w fun e w' => e = .returned (.bool true) ∧ Below w.heap.size w w' := by
  go_enter Try.func4, Try.ntmps4
  go_wp2_with fail
  refine (alive_true w).mono ?_
  rintro e w1 ⟨rfl, hk1⟩
  go_wp2_with fail
  refine (play_out places v w1 h).mono ?_
  rintro e w2 ⟨rfl, rfl⟩
  go_wp2
  go_ret
  exact ⟨rfl, hk1.below (Nat.le_refl _) (fun _ h => h.elim)⟩

set_option maxRecDepth 100000 in
set_option maxHeartbeats 2000000 in
theorem order_in (places : Int) (v : Value) (l : List (Bool × Int)) (n : Nat) (hn : l.length = n) (w : World) (hv : Row w v 2 n (opCells l)) (hsz : n * 16 ≤ 140737488351232) (hvb : ∀ b, v.ownBlock = some b → 0 < n → b < w.heap.size)
    (h1 : 1 ≤ places) (h2 : places ≤ 20) :
    Calls Try.prog 4 #[.int .i64 places, v] w fun e w' => e = .returned (.bool true) ∧ Below w.heap.size w w' := by
  obtain ⟨cap, rfl⟩ := Int.eq_ofNat_of_zero_le (show 0 ≤ places by omega)
  have Hn := Lib.hid hn
  clear hn
  obtain ⟨ai, ci, rfl, hci, hni⟩ := hv.shape
  go_enter Try.func4, Try.ntmps4
  go_wp2_with fail
  refine (alive_true w).mono ?_
  rintro e w1 ⟨rfl, hk1⟩
  have hv1 := hv.keep hk1 (fun _ _ h => h)
  go_wp2_with fail
  refine (play_any cap _ l n Hn.out w1 hv1 h1 h2 hsz).mono ?_
  rintro e w2 ⟨vo, vw, rfl, hk2, ho2, hw2⟩
  have hi := hv1.keep hk2 (fun _ _ h => h)
  have ho := ho2.row (by omega)
  have hw := hw2.row (by omega)
  simp only [Int.toNat_natCast] at ho hw
  obtain ⟨ao, co, rfl, hco, -⟩ := ho.shape
  obtain ⟨aw, cw, rfl, hcw, -⟩ := hw.shape
  have hq : (MailM.run cap [] l).2.length ≤ cap := MailM.run_le cap l [] (by simp)
  have hlen : (MailM.run cap [] l).1.length = n := by rw [MailM.run_length]; exact Hn.out
  have hfifo := MailM.fifo cap l []
  generalize hg : (MailM.run cap [] l).1 = g at *
  generalize hqq : (MailM.run cap [] l).2 = q at *
  generalize hqn : q.length = qn at *
  have Hq := Lib.hid hqn
  have Hlen := Lib.hid hlen
  have Hfifo := Lib.hid hfifo
  have hbel : Keeps Nil w w2 := hk1.trans hk2 (fun _ _ h => h)
  clear hg hqq hqn hlen hfifo hv hv1 hk1 hk2 ho2 hw2
  have hdq : decide (qn ≤ cap) = true := by simpa using hq
  go_wp2
  go_loopw [8, 9, 33] (fun vp vg i wr => ∃ k : Nat, k ≤ n ∧ i = .int .i64 k ∧ Keeps Nil w2 wr ∧
      Own wr w2.heap.size 2 1 vp (MailM.puts (l.take k) (g.take k)).length ((MailM.puts (l.take k) (g.take k)).map (Value.int .i64)) ∧
      Own wr w2.heap.size 2 1 vg (MailM.gots (l.take k) (g.take k)).length ((MailM.gots (l.take k) (g.take k)).map (Value.int .i64)) ∧ (∀ b, vp.ownBlock = some b → vg.ownBlock ≠ some b)) (fun _ _ i _ => n - (intOf i).toNat)
  case atStart => exact ⟨0, Nat.zero_le _, rfl, Keeps.refl _ _, Own.nil _ _ _ _, Own.nil _ _ _ _, fun b h => by cases h⟩
  case round =>
    obtain ⟨k, hk, rfl, hkw, hp, hgo, hsep⟩ := hrel
    by_cases hkn : k < n
    · obtain ⟨bi, oi, rfl⟩ := hi.form (by omega)
      obtain ⟨bo, oo, rfl⟩ := ho.form (by omega)
      have hll : k < l.length := by have := Hn.out; omega
      have hgl : k < g.length := by have := Hlen.out; omega
      have hgi := opCells_get l k hll
      have hgo' := opCells_get g k hgl
      have c1 := (hi.keep hkw (fun _ _ h => h)).cellsAt (k * 2) (by omega)
      have c2 := (hi.keep hkw (fun _ _ h => h)).cellsAt (k * 2 + 1) (by omega)
      have c3 := (ho.keep hkw (fun _ _ h => h)).cellsAt (k * 2) (by omega)
      have c4 := (ho.keep hkw (fun _ _ h => h)).cellsAt (k * 2 + 1) (by omega)
      rw [← Nat.add_assoc] at c2 c4
      rw [hgi.1] at c1
      rw [hgi.2] at c2
      rw [hgo'.1] at c3
      rw [hgo'.2] at c4
      have hlo := World.block_lt_of_cell? wr _ c3
      have hps := MailM.puts_snoc (l.take k) (g.take k) (l.getD k (false, 0)) (g.getD k (false, 0)) (by simp; omega)
      have hgs := MailM.gots_snoc (l.take k) (g.take k) (l.getD k (false, 0)) (g.getD k (false, 0)) (by simp; omega)
      have et : l.take k ++ [l.getD k (false, 0)] = l.take (k + 1) := by rw [List.take_succ_eq_append_getElem hll]; simp [List.getD_eq_getElem?_getD, hll]
      have et' : g.take k ++ [g.getD k (false, 0)] = g.take (k + 1) := by rw [List.take_succ_eq_append_getElem hgl]; simp [List.getD_eq_getElem?_getD, hgl]
      rw [et, et'] at hps hgs
      have hnp : (MailM.puts (l.take k) (g.take k)).length ≤ k := Nat.le_trans (MailM.puts_le _ _) (by simp; omega)
      have hng : (MailM.gots (l.take k) (g.take k)).length ≤ k := Nat.le_trans (MailM.gots_le _ _) (by simp; omega)
      clear hgi hgo' et et'
      generalize hps0 : MailM.puts (l.take k) (g.take k) = ps at *
      generalize hgs0 : MailM.gots (l.take k) (g.take k) = gs at *
      generalize hpn : ps.length = np at *
      generalize hgn : gs.length = ng at *
      generalize l.getD k (false, 0) = o at *
      generalize g.getD k (false, 0) = x at *
      obtain ⟨o1, o2⟩ := o
      obtain ⟨x1, x2⟩ := x
      simp only at c1 c2 c3 c4 hps hgs
      have Hps := Lib.hid hps
      have Hgs := Lib.hid hgs
      have Hpn := Lib.hid hpn
      have Hgn := Lib.hid hgn
      have hw0 := hkw.size
      have hnu8 : ∀ i, i < w2.heap.size → ¬ u8.ownBlock = some i := fun i hi e => by have := (hp.lt i e).1; omega
      have hnu9 : ∀ i, i < w2.heap.size → ¬ u9.ownBlock = some i := fun i hi e => by have := (hgo.lt i e).1; omega
      clear hps hgs hpn hgn hps0 hgs0
      cases o1 with
      | true =>
        cases x1 with
        | true =>
          go_wp2_with ((at_builtin; refine own1 rfl (.tmp 47) (.tmp 50) 24 rfl w2.heap.size 2 (.int .i64 0) 1 8 Try.underlying24 (by kernel_rfl) rfl (by decide) u8 np (ps.map (Value.int .i64)) rfl (by repeat (first | exact hp | refine Own.alloc ?_ _ | refine Own.drewN ?_ _ | refine Own.drew ?_)) _ _ _ rfl (Blk.new' (by simp)) rfl (by simp [Value.oneCell']) (by unfold maxLen; omega) (by omega) (by simp; omega) ?_; intro v1 w3 hp1 hk3 hat; have cx : w3.cell? ⟨wr.heap.size, 0, none⟩ = some (.bool true) := (hk3.cell (by simp <;> omega) (fun h => by have := (hp.lt _ h).2; simp at this)).trans (by simp [go_sem])))
          go_roundw
          case rel =>
            have hz := hk3.size
            simp at hz
            refine ⟨k + 1, by omega, by go_num, Keeps.trans (by repeat (first | exact hkw | refine Keeps.alloc ?_ _ | refine Keeps.drewN ?_ _ | refine Keeps.drew ?_)) hk3 (fun i hi h => hnu8 i hi h), ?_, ?_, ?_⟩
            · rw [Hps.out]; simpa [Hpn.out] using hp1
            · rw [Hgs.out]
              simp only [Bool.not_true, Bool.false_and, Bool.false_eq_true, if_false, List.append_nil, Hgn.out]
              exact Own.keep (by repeat (first | exact hgo | refine Own.alloc ?_ _ | refine Own.drewN ?_ _ | refine Own.drew ?_)) hk3 (fun i h1 h2 => hsep i h2 h1)
            · intro i h1 h2
              rcases hat with h | h
              · exact hsep i (by rw [← h]; exact h1) h2
              · have h3 := h i h1
                have h4 := (hgo.lt i h2).2
                simp at h3
                omega
          case measure => simp [intOf]; omega
        | false =>
          go_wp2
          go_roundw
          case rel =>
            refine ⟨k + 1, by omega, by go_num, (by repeat (first | exact hkw | refine Keeps.alloc ?_ _ | refine Keeps.drewN ?_ _ | refine Keeps.drew ?_)), ?_, ?_, hsep⟩
            · rw [Hps.out]; simpa [Hpn.out] using hp.alloc _
            · rw [Hgs.out]; simpa [Hgn.out] using hgo.alloc _
          case measure => simp [intOf]; omega
      | false =>
        cases x1 with
        | true =>
          go_wp2_with ((at_builtin; refine own1 rfl (.tmp 62) (.tmp 68) 24 rfl w2.heap.size 2 (.int .i64 0) 1 8 Try.underlying24 (by kernel_rfl) rfl (by decide) u9 ng (gs.map (Value.int .i64)) rfl (by repeat (first | exact hgo | refine Own.alloc ?_ _ | refine Own.drewN ?_ _ | refine Own.drew ?_)) _ _ _ rfl (Blk.new' (by simp)) rfl (by simp [Value.oneCell']) (by unfold maxLen; omega) (by omega) (by simp; omega) ?_; intro v1 w3 hp1 hk3 hat))
          go_roundw
          case rel =>
            have hz := hk3.size
            simp at hz
            refine ⟨k + 1, by omega, by go_num, Keeps.trans (by repeat (first | exact hkw | refine Keeps.alloc ?_ _ | refine Keeps.drewN ?_ _ | refine Keeps.drew ?_)) hk3 (fun i hi h => hnu9 i hi h), ?_, ?_, ?_⟩
            · rw [Hps.out]
              simp only [Bool.false_and, Bool.false_eq_true, if_false, List.append_nil, Hpn.out]
              exact Own.keep (by repeat (first | exact hp | refine Own.alloc ?_ _ | refine Own.drewN ?_ _ | refine Own.drew ?_)) hk3 (fun i h1 h2 => hsep i h1 h2)
            · rw [Hgs.out]; simpa [Hgn.out] using hp1
            · intro i h1 h2
              rcases hat with h | h
              · exact hsep i h1 (by rw [← h]; exact h2)
              · have h3 := h i h2
                have h4 := (hp.lt i h1).2
                simp at h3
                omega
          case measure => simp [intOf]; omega
        | false =>
          go_wp2
          go_roundw
          case rel =>
            refine ⟨k + 1, by omega, by go_num, (by repeat (first | exact hkw | refine Keeps.alloc ?_ _ | refine Keeps.drewN ?_ _ | refine Keeps.drew ?_)), ?_, ?_, hsep⟩
            · rw [Hps.out]; simpa [Hpn.out] using hp.alloc _
            · rw [Hgs.out]; simpa [Hgn.out] using hgo.alloc _
          case measure => simp [intOf]; omega
    · obtain rfl : k = n := by omega
      have e1 : l.take k = l := List.take_of_length_le (by have := Hn.out; omega)
      have e2 : g.take k = g := List.take_of_length_le (by have := Hlen.out; omega)
      rw [e1, e2] at hp hgo
      have hng : (MailM.gots l g).length ≤ k := Nat.le_trans (MailM.gots_le _ _) (by have := Hn.out; omega)
      have hpo := Hfifo.out
      simp only [List.nil_append] at hpo
      have hwr := hw.keep hkw (fun _ _ h => h)
      rw [hpo] at hp
      clear e1 e2 hpo
      generalize MailM.gots l g = gs at *
      generalize hgn : gs.length = ng at *
      have Hgn := Lib.hid hgn
      clear hgn
      go_wp2_with (at_builtin; refine ownS (by go_simp) (.tmp 77) (.tmp 78) 24 rfl w2.heap.size 2 (.int .i64 0) 1 8 Try.underlying24 (by kernel_rfl) rfl (by decide) u9 ng (gs.map (Value.int .i64)) rfl hgo _ _ _ rfl hwr (by intro u hu; obtain ⟨_, _, rfl⟩ := List.mem_map.1 hu; rfl) (by unfold maxLen; omega) (by omega) hkw.size ?_; intro v1 w3 hp1 hk3 hat)
      have hsm := same_i64 u8 v1 _ _ _ _ w3 ((hp.keep hk3 (fun i h1 h2 => hsep i h1 h2)).row (by omega)) (by have := hp1.row (by omega); rw [← List.map_append] at this; exact this)
      simp only [decide_true] at hsm
      have hfin : Below w.heap.size w w3 := (hbel.trans (hkw.trans hk3 (fun i hi h => by have := (hgo.lt i h).1; omega)) (fun _ _ h => h)).below (Nat.le_refl _) (fun _ h => h.elim)
      refine hsm.mono ?_
      rintro e w4 ⟨rfl, j, rfl⟩
      go_wp2
      go_ret
      exact ⟨rfl, below_drewN hfin j⟩

end Go.Proofs.Ytninmkkcphnniaa.Mail
