/- mail.Play: what comes of any doings with a box. -/
import Derived.Test.YtninmkkcphnniaaMailWalks
import Derived.Test.YtninmkkcphnniaaMailMath
import Derived.Test.YtninmkkcphnniaaOwn
namespace Go.Proofs.Ytninmkkcphnniaa.Mail
open Go.RowKit
set_option linter.unusedVariables false

def opCells (l : List (Bool × Int)) : List Value := l.flatMap fun o => [.bool o.1, .int .i64 o.2]

theorem opCells_length (l : List (Bool × Int)) : (opCells l).length = l.length * 2 := by
  induction l with
  | nil => rfl
  | cons a r ih => simp only [opCells, List.flatMap_cons, List.length_append, List.length_cons, List.length_nil] at ih ⊢; omega

theorem opCells_append (l m : List (Bool × Int)) : opCells (l ++ m) = opCells l ++ opCells m := by simp [opCells]

theorem opCells_get (l : List (Bool × Int)) (k : Nat) (hk : k < l.length) : (opCells l)[k * 2]? = some (.bool (l.getD k (false, 0)).1) ∧ (opCells l)[k * 2 + 1]? = some (.int .i64 (l.getD k (false, 0)).2) := by
  induction l generalizing k with
  | nil => simp at hk
  | cons a r ih =>
    cases k with
    | zero => simp [opCells]
    | succ k =>
      have := ih k (by simpa using hk)
      simp only [opCells, List.flatMap_cons, List.cons_append, List.nil_append] at this ⊢
      rw [show (k + 1) * 2 = k * 2 + 1 + 1 by omega]
      simpa using this

/-- what a round does to the relation -/
theorem play_round {cap k : Nat} {l : List (Bool × Int)} (hk : k < l.length) (q : List Int) (g : List (Bool × Int)) (hq : (MailM.run cap [] (l.take k)).2 = q) (hg : (MailM.run cap [] (l.take k)).1 = g) :
    (MailM.run cap [] (l.take (k + 1))).2 = (MailM.step cap q (l.getD k (false, 0))).2 ∧ opCells (MailM.run cap [] (l.take (k + 1))).1 = opCells g ++ [.bool (MailM.step cap q (l.getD k (false, 0))).1.1, .int .i64 (MailM.step cap q (l.getD k (false, 0))).1.2] := by
  rw [List.take_succ_eq_append_getElem hk, MailM.run_snoc, hq, hg, opCells_append]
  simp [List.getD_eq_getElem?_getD, hk, opCells]

set_option maxRecDepth 100000 in
set_option maxHeartbeats 1000000 in
theorem play_any (places : Int) (v : Value) (l : List (Bool × Int)) (n : Nat) (hn : l.length = n) (w : World) (hv : Row w v 2 n (opCells l)) (h1 : 1 ≤ places) (h2 : places ≤ 20) (hsz : n * 16 ≤ 140737488351232) :
    Calls Try.prog 14 #[.int .i64 places, v] w fun e w' => ∃ vo vw, e = .returned (.tuple #[vo, vw, .int .i64 0]) ∧ Keeps Nil w w' ∧
      Own w' w.heap.size 30 2 vo n (opCells (MailM.run places.toNat [] l).1) ∧ Own w' w.heap.size 2 1 vw (MailM.run places.toNat [] l).2.length ((MailM.run places.toNat [] l).2.map (Value.int .i64)) := by
  obtain ⟨cap, rfl⟩ := Int.eq_ofNat_of_zero_le (show 0 ≤ places by omega)
  simp only [Int.toNat_natCast]
  have hv0 := hv
  obtain ⟨hl, hm, ao, ca, rfl, hca, hao⟩ := hv
  unfold maxLen at hm
  have Hn := Lib.hid hn
  have hd1 : decide ((cap : Int) < 1) = false := by simpa using h1
  have hd2 : decide ((20 : Int) < (cap : Int)) = false := by simpa using h2
  clear hn hl
  go_enter Try.func14, Try.ntmps14
  go_wp2_with (go_at_call 31; refine (new_box cap _ (by omega) (by omega)).mono ?_; rintro e w1 ⟨p, la, rfl, hp, hla, hk1, hbox⟩)
  have hlt1 := hbox.lt
  go_loopw [8, 22] (fun vo i wr => ∃ k : Nat, k ≤ n ∧ i = .int .i64 k ∧ Keeps Nil w wr ∧ w1.heap.size ≤ wr.heap.size ∧ BoxAt wr p la cap (MailM.run cap [] (l.take k)).2 ∧
      Own wr w1.heap.size 30 2 vo k (opCells (MailM.run cap [] (l.take k)).1)) (fun _ i _ => n - (intOf i).toNat)
  case atStart => exact ⟨0, Nat.zero_le _, rfl, hk1, Nat.le_refl _, by simpa [MailM.run] using hbox, Own.nil _ _ _ _⟩
  case round =>
    obtain ⟨k, hk, rfl, hkw, hsz1, hb, hown⟩ := hrel
    by_cases hkn : k < n
    · obtain ⟨b, off, rfl, -⟩ := hao (by omega)
      clear hao
      have hlen : k < l.length := by have := Hn.out; omega
      have hround := play_round (cap := cap) hlen _ _ rfl rfl
      have hget := opCells_get l k hlen
      have hc1 := hv0.cellsAt (k * 2) (by omega)
      have hc2 := hv0.cellsAt (k * 2 + 1) (by omega)
      rw [← Nat.add_assoc] at hc2
      rw [hget.1] at hc1
      rw [hget.2] at hc2
      have hbl : b < w.heap.size := World.block_lt_of_cell? w _ hc1
      have c1 := (hkw.cell (p := ⟨b, off + k * 2, none⟩) hbl (fun h => h)).trans hc1
      have c2 := (hkw.cell (p := ⟨b, off + k * 2 + 1, none⟩) hbl (fun h => h)).trans hc2
      clear hc1 hc2 hget
      generalize hq : (MailM.run cap [] (l.take k)).2 = q at *
      generalize hg : (MailM.run cap [] (l.take k)).1 = g at *
      generalize ho : l.getD k (false, 0) = o at *
      obtain ⟨pt, x⟩ := o
      simp only at c1 c2
      have Hround := Lib.hid hround
      clear hround hq hg ho
      have hnp : ∀ i, u8.ownBlock = some i → ¬ (i = p ∨ i = la) := fun i hi => by have := (hown.lt i hi).1; omega
      have hnu : ∀ i, i < w.heap.size → ¬ u8.ownBlock = some i := fun i hi e => by have := (hown.lt i e).1; have := hk1.size; omega
      have hw1 := hk1.size
      cases pt with
      | true =>
        by_cases hful : q.length = cap
        · have Hst : Hid (MailM.step cap q (true, x) = ((false, 0), q)) := by show _ = _; simp [MailM.step, hful]
          have hd3 : decide (q.length = cap) = true := by simpa using hful
          clear hful
          go_wp2_with (first | (go_at_call 32; refine (full_box p la cap q _ ((hb.alloc _).alloc _)).mono ?_; rintro e w2 ⟨rfl, j, rfl⟩) | (at_builtin; refine own1 rfl _ _ 23 rfl w1.heap.size 30 (.agg #[.bool false, .int .i64 0]) 2 16 Try.underlying23 (by kernel_rfl) rfl (by decide) u8 k (opCells g) rfl (by repeat (first | exact hown | refine Own.alloc ?_ _ | refine Own.drewN ?_ _ | refine Own.drew ?_)) _ _ _ rfl (Blk.new' (by simp)) rfl (by simp [Value.oneCell']) (by unfold maxLen; omega) (by omega) (by simp; omega) ?_; intro v1 w3 hown1 hk3 hat))
          go_roundw
          case rel =>
            have hR := Hround.out
            rw [Hst.out] at hR
            have hz := hk3.size
            simp at hz
            refine ⟨k + 1, by omega, by go_num, Keeps.trans (by repeat (first | exact hkw | refine Keeps.alloc ?_ _ | refine Keeps.drewN ?_ _ | refine Keeps.drew ?_)) hk3 (fun i hi h => hnu i hi h), by omega, ?_, by rw [hR.2]; exact hown1⟩
            rw [hR.1]
            exact ((((hb.alloc _).alloc _).drewN _).alloc _).keep hk3 (fun h => hnp p h (.inl rfl)) (fun h => hnp la h (.inr rfl))
          case measure => simp [intOf]; omega
        · have hlt : q.length < cap := by have := hb.le; omega
          have Hful := Lib.hid hlt
          have Hst : Hid (MailM.step cap q (true, x) = ((true, 0), q ++ [x])) := by show _ = _; simp [MailM.step, hlt]
          have hd3 : decide (q.length = cap) = false := by simpa using hful
          clear hful hlt
          go_wp2_with (first | (go_at_call 32; refine (full_box p la cap q _ ((hb.alloc _).alloc _)).mono ?_; rintro e w2 ⟨rfl, j, rfl⟩) | (go_at_call 33; refine (put_box p la cap q x _ (((hb.alloc _).alloc _).drewN _) Hful.out).mono ?_; rintro e w2 ⟨rfl, hk2, hb2⟩; have hz2 := hk2.size; have c20 : w2.cell? ⟨wr.heap.size + 1, 0, none⟩ = some (.bool false) := (hk2.cell (by simp) (by simp; omega)).trans (by simp [go_sem]); have c21 : w2.cell? ⟨wr.heap.size + 1, 1, none⟩ = some (.int .i64 0) := (hk2.cell (by simp) (by simp; omega)).trans (by simp [go_sem]); have f20 : w2.frozen? ⟨wr.heap.size + 1, 0, none⟩ = false := (hk2.frozen (by simp) (by simp; omega)).trans (by simp [go_sem])) | (at_builtin; refine own1 rfl _ _ 23 rfl w1.heap.size 30 (.agg #[.bool false, .int .i64 0]) 2 16 Try.underlying23 (by kernel_rfl) rfl (by decide) u8 k (opCells g) rfl (Own.alloc (Own.keep (w := (((wr.alloc _).alloc _).drewN j)) (by repeat (first | exact hown | refine Own.alloc ?_ _ | refine Own.drewN ?_ _ | refine Own.drew ?_)) hk2 hnp |>.keep ((Keeps.refl (fun i => i = wr.heap.size + 1) _).setCell (fun _ => rfl) _) (fun i hi e => by have := (hown.lt i hi).2; omega)) _) _ _ _ rfl (Blk.new' (by simp)) rfl (by simp [Value.oneCell']) (by unfold maxLen; omega) (by omega) (by simp at hz2 ⊢; omega) ?_; intro v1 w3 hown1 hk3 hat))
          go_roundw
          case rel =>
            have hR := Hround.out
            rw [Hst.out] at hR
            have hz := hk3.size
            simp at hz hz2
            have hkA : Keeps Nil w w2 := Keeps.trans (by repeat (first | exact hkw | refine Keeps.alloc ?_ _ | refine Keeps.drewN ?_ _ | refine Keeps.drew ?_)) hk2 (fun i hi h => by omega)
            refine ⟨k + 1, by omega, by go_num, ((hkA.setCell (fun h => by simp at h; omega) _).alloc _).trans hk3 (fun i hi h => hnu i hi h), by omega, ?_, by rw [hR.2]; exact hown1⟩
            rw [hR.1]
            exact ((hb2.keep ((Keeps.refl (fun i => i = wr.heap.size + 1) _).setCell (fun _ => rfl) _) (by omega) (by omega)).alloc _).keep hk3 (fun h => hnp p h (.inl rfl)) (fun h => hnp la h (.inr rfl))
          case measure => simp [intOf]; omega
      | false =>
        cases q with
        | nil =>
          have Hst : Hid (MailM.step cap [] (false, x) = ((false, 0), [])) := by show _ = _; simp [MailM.step]
          have hd3 : decide (([] : List Int).length = 0) = true := by simp
          go_wp2_with (first | (go_at_call 34; refine (empty_box p la cap [] _ ((hb.alloc _).alloc _)).mono ?_; rintro e w2 ⟨rfl, rfl⟩) | (at_builtin; refine own1 rfl _ _ 23 rfl w1.heap.size 30 (.agg #[.bool false, .int .i64 0]) 2 16 Try.underlying23 (by kernel_rfl) rfl (by decide) u8 k (opCells g) rfl (by repeat (first | exact hown | refine Own.alloc ?_ _ | refine Own.drewN ?_ _ | refine Own.drew ?_)) _ _ _ rfl (Blk.new' (by simp)) rfl (by simp [Value.oneCell']) (by unfold maxLen; omega) (by omega) (by simp; omega) ?_; intro v1 w3 hown1 hk3 hat))
          go_roundw
          case rel =>
            have hR := Hround.out
            rw [Hst.out] at hR
            have hz := hk3.size
            simp at hz
            refine ⟨k + 1, by omega, by go_num, Keeps.trans (by repeat (first | exact hkw | refine Keeps.alloc ?_ _ | refine Keeps.drewN ?_ _ | refine Keeps.drew ?_)) hk3 (fun i hi h => hnu i hi h), by omega, ?_, by rw [hR.2]; exact hown1⟩
            rw [hR.1]
            exact (((hb.alloc _).alloc _).alloc _).keep hk3 (fun h => hnp p h (.inl rfl)) (fun h => hnp la h (.inr rfl))
          case measure => simp [intOf]; omega
        | cons y qr =>
          have Hst : Hid (MailM.step cap (y :: qr) (false, x) = ((true, y), qr)) := by show _ = _; simp [MailM.step]
          have hd3 : decide ((y :: qr).length = 0) = false := by simp
          go_wp2_with (first | (go_at_call 34; refine (empty_box p la cap (y :: qr) _ ((hb.alloc _).alloc _)).mono ?_; rintro e w2 ⟨rfl, rfl⟩) | (go_at_call 35; refine (take_box p la cap y qr _ ((hb.alloc _).alloc _)).mono ?_; rintro e w2 ⟨rfl, hk2, hb2⟩; have hz2 := hk2.size; have c20 : w2.cell? ⟨wr.heap.size + 1, 0, none⟩ = some (.bool false) := (hk2.cell (by simp) (by simp; omega)).trans (by simp [go_sem]); have c21 : w2.cell? ⟨wr.heap.size + 1, 1, none⟩ = some (.int .i64 0) := (hk2.cell (by simp) (by simp; omega)).trans (by simp [go_sem]); have f20 : w2.frozen? ⟨wr.heap.size + 1, 0, none⟩ = false := (hk2.frozen (by simp) (by simp; omega)).trans (by simp [go_sem]); have f21 : w2.frozen? ⟨wr.heap.size + 1, 1, none⟩ = false := (hk2.frozen (by simp) (by simp; omega)).trans (by simp [go_sem])) | (at_builtin; refine own1 rfl _ _ 23 rfl w1.heap.size 30 (.agg #[.bool false, .int .i64 0]) 2 16 Try.underlying23 (by kernel_rfl) rfl (by decide) u8 k (opCells g) rfl (Own.alloc (Own.keep (w := ((wr.alloc _).alloc _)) (by repeat (first | exact hown | refine Own.alloc ?_ _ | refine Own.drewN ?_ _ | refine Own.drew ?_)) hk2 hnp |>.keep (((Keeps.refl (fun i => i = wr.heap.size + 1) _).setCell (fun _ => rfl) _).setCell (fun _ => rfl) _) (fun i hi e => by have := (hown.lt i hi).2; omega)) _) _ _ _ rfl (Blk.new' (by simp)) rfl (by simp [Value.oneCell']) (by unfold maxLen; omega) (by omega) (by simp at hz2 ⊢; omega) ?_; intro v1 w3 hown1 hk3 hat))
          go_roundw
          case rel =>
            have hR := Hround.out
            rw [Hst.out] at hR
            have hz := hk3.size
            simp at hz hz2
            have hkA : Keeps Nil w w2 := Keeps.trans (by repeat (first | exact hkw | refine Keeps.alloc ?_ _ | refine Keeps.drewN ?_ _ | refine Keeps.drew ?_)) hk2 (fun i hi h => by omega)
            refine ⟨k + 1, by omega, by go_num, (((hkA.setCell (fun h => by simp at h; omega) _).setCell (fun h => by simp at h; omega) _).alloc _).trans hk3 (fun i hi h => hnu i hi h), by omega, ?_, by rw [hR.2]; exact hown1⟩
            rw [hR.1]
            exact ((hb2.keep (((Keeps.refl (fun i => i = wr.heap.size + 1) _).setCell (fun _ => rfl) _).setCell (fun _ => rfl) _) (by omega) (by omega)).alloc _).keep hk3 (fun h => hnp p h (.inl rfl)) (fun h => hnp la h (.inr rfl))
          case measure => simp [intOf]; omega
    · obtain rfl : k = n := by omega
      have hlk : l.take k = l := List.take_of_length_le (by have := Hn.out; omega)
      rw [hlk] at hb hown
      have Hlk := Lib.hid hlk
      clear hlk
      generalize hq : (MailM.run cap [] l).2 = q at *
      generalize hg : (MailM.run cap [] l).1 = g at *
      have Hq := Lib.hid hq
      have Hg := Lib.hid hg
      clear hao hq hg
      go_wp2_with (go_at_call 36; refine (words_box p la cap q _ hb).mono ?_; rintro e w2 ⟨vw, rfl, hk2, hrow⟩)
      go_ret3
      rw [Hq.out, Hg.out]
      exact ⟨u8, vw, rfl, hkw.trans hk2 (fun _ _ h => h), (hown.keep hk2 (fun _ _ h => h)).mono hk1.size, (Own.of_row hrow).mono hkw.size⟩

theorem play_out (places : Int) (v : Value) (w : World) (h : places < 1 ∨ 20 < places) :
    Calls Try.prog 14 #[.int .i64 places, v] w fun e w' => e = .returned (.tuple #[.slice none 0 0, .slice none 0 0, .int .i64 3]) ∧ w = w' := by
  rcases h with h | h
  · have hd1 : decide (places < 1) = true := by simpa using h
    go_enter Try.func14, Try.ntmps14
    go_wp2
    go_ret3
    exact ⟨rfl, rfl⟩
  · have hd1 : decide (places < 1) = false := by simp; omega
    have hd2 : decide (20 < places) = true := by simpa using h
    go_enter Try.func14, Try.ntmps14
    go_wp2
    go_ret3
    exact ⟨rfl, rfl⟩

end Go.Proofs.Ytninmkkcphnniaa.Mail
