/- stacks.Play: what any doings leave of a stack. -/
import Derived.Test.YtninmkkcphnniaaStackWalks
import Derived.Test.YtninmkkcphnniaaStackMath
namespace Go.Proofs.Ytninmkkcphnniaa.Stk
open Go.RowKit
set_option linter.unusedVariables false
set_option linter.unusedSimpArgs false

def opCells (l : List StackM.Op) : List Value := l.flatMap fun o => [.int .i64 o.1, .int .i64 o.2.1, .int .i64 o.2.2]

theorem opCells_length (l : List StackM.Op) : (opCells l).length = l.length * 3 := by
  induction l with
  | nil => rfl
  | cons a r ih => simp only [opCells, List.flatMap_cons, List.length_append, List.length_cons, List.length_nil] at ih ⊢; omega
theorem opCells_append (l m : List StackM.Op) : opCells (l ++ m) = opCells l ++ opCells m := by simp [opCells]
theorem opCells_get (l : List StackM.Op) (k : Nat) (hk : k < l.length) : (opCells l)[k * 3]? = some (.int .i64 (l.getD k (0, 0, 0)).1) ∧ (opCells l)[k * 3 + 1]? = some (.int .i64 (l.getD k (0, 0, 0)).2.1) ∧ (opCells l)[k * 3 + 2]? = some (.int .i64 (l.getD k (0, 0, 0)).2.2) := by
  induction l generalizing k with
  | nil => simp at hk
  | cons a r ih =>
    cases k with
    | zero => simp [opCells]
    | succ k =>
      have := ih k (by simpa using hk)
      simp only [opCells, List.flatMap_cons, List.cons_append, List.nil_append] at this ⊢
      rw [show (k + 1) * 3 = k * 3 + 1 + 1 + 1 by omega]
      simpa using this

def nats (l : List Nat) : List Value := l.map fun r : Nat => .int .i64 (r : Int)
@[go_sem] def flt (e i : Int) : Value := .agg #[.int .i64 e, .int .i64 i]

/-- what Play answers -/
def Answers (w : World) (n : Nat) (r : Except (Int × Nat) (List Int × Nat × List Nat)) (e : Ending) (w' : World) : Prop :=
  match r with
  | .error (er, i) => e = .returned (.tuple #[.slice none 0 0, .slice none 0 0, flt er i])
  | .ok (ws, _, rs) => ∃ vw vr, e = .returned (.tuple #[vw, vr, flt 0 0]) ∧ Own w' w.heap.size 2 1 vw ws.length (ws.map (Value.int .i64)) ∧ Own w' w.heap.size 3 1 vr n (nats rs)

theorem round_err {mn mx : Nat} {l : List StackM.Op} {k : Nat} (hk : k < l.length) {ws : List Int} {rm : Nat} {rs : List Nat} {er : Int} (h : StackM.run mn mx [] mn 0 (l.take k) = .ok (ws, rm, rs))
    (hs : StackM.step mn mx ws rm (l.getD k (0, 0, 0)) = .error er) : StackM.run mn mx [] mn 0 l = .error (er, k) := by
  have e : l = l.take k ++ l.getD k (0, 0, 0) :: l.drop (k + 1) := by
    have : l.getD k (0, 0, 0) = l[k] := by simp [List.getD_eq_getElem?_getD, hk]
    rw [this, List.getElem_cons_drop]; simp
  rw [e, StackM.run_append, h]
  simp only [StackM.run, hs]
  simp; omega

theorem round_ok {mn mx : Nat} {l : List StackM.Op} {k : Nat} (hk : k < l.length) {ws ws' : List Int} {rm rm' : Nat} {rs : List Nat} (h : StackM.run mn mx [] mn 0 (l.take k) = .ok (ws, rm, rs))
    (hs : StackM.step mn mx ws rm (l.getD k (0, 0, 0)) = .ok (ws', rm')) : StackM.run mn mx [] mn 0 (l.take (k + 1)) = .ok (ws', rm', rs ++ [rm']) := by
  rw [List.take_succ_eq_append_getElem hk, StackM.run_append, h]
  have : l.getD k (0, 0, 0) = l[k] := by simp [List.getD_eq_getElem?_getD, hk]
  rw [this] at hs
  simp only [StackM.run, hs]

set_option maxRecDepth 100000 in
set_option maxHeartbeats 2000000 in
theorem play_any (mn mx : Nat) (v : Value) (l : List StackM.Op) (n : Nat) (hn : l.length = n) (w : World) (hv : Row w v 3 n (opCells l)) (h1 : 1 ≤ mn) (h2 : mn ≤ mx) (h3 : mx ≤ 400) (hsz : n * 24 ≤ 140737488455328) :
    Calls Try.prog 18 #[.int .i64 mn, .int .i64 mx, v] w fun e w' => Keeps Nil w w' ∧ Answers w n (StackM.run mn mx [] mn 0 l) e w' := by
  have Hn := Lib.hid hn
  clear hn
  obtain ⟨ai, ci, rfl, hci, hni⟩ := hv.shape
  have d1 : decide ((mn : Int) < 1) = false := by simp; omega
  have d2 : decide (mx < mn) = false := by simp; omega
  have d3 : decide ((400 : Int) < (mx : Int)) = false := by simp; omega
  go_enter Try.func18, Try.ntmps18
  go_wp2_with fail
  refine (new_at mn mx _ h1 h2 h3).mono ?_
  rintro e w1 ⟨p, la, rfl, hp, hla, hk1, hst⟩
  simp at hp hla
  have hF : Blk w1 w.heap.size #[.int .i64 0, .int .i64 0] 39 := (Blk.new w _ _).keep hk1 (fun h => h)
  have hk0 : Keeps Nil w w1 := ((Keeps.refl _ _).alloc _).trans hk1 (fun _ _ h => h)
  have hb1 := hst.lt
  have hsz1 := hk0.size
  clear hk1
  go_wp2
  go_loopw [7, 30] (fun vr i wr => ∃ (k la : Nat) (ws : List Int) (rm : Nat) (rs : List Nat), k ≤ n ∧ i = .int .i64 k ∧ StackM.run mn mx [] mn 0 (l.take k) = .ok (ws, rm, rs) ∧ Keeps Nil w wr ∧ w1.heap.size ≤ wr.heap.size ∧
      StackAt wr p la mn mx rm ws ∧ w.heap.size < la ∧ Own wr w1.heap.size 3 1 vr k (nats rs) ∧ vr.ownBlock ≠ some la ∧ Blk wr w.heap.size #[.int .i64 0, .int .i64 0] 39) (fun _ i _ => n - (intOf i).toNat)
  case atStart => exact ⟨0, la, [], mn, [], Nat.zero_le _, rfl, by simp [StackM.run], hk0, Nat.le_refl _, hst, by omega, Own.nil _ _ _ _, by simp [Value.ownBlock], hF⟩
  case round =>
    obtain ⟨k, la, ws, rm, rs, hk, rfl, hrun, hkw, hsw, hst, hla, hown, hsep, hF⟩ := hrel
    by_cases hkn : k < n
    · obtain ⟨bi, oi, rfl⟩ := hv.form (by omega)
      have hll : k < l.length := by have := Hn.out; omega
      have hgi := opCells_get l k hll
      have hvr := hv.keep hkw (fun _ _ h => h)
      have c1 := hvr.cellsAt (k * 3) (by omega)
      have c2 := hvr.cellsAt (k * 3 + 1) (by omega)
      have c3 := hvr.cellsAt (k * 3 + 2) (by omega)
      rw [← Nat.add_assoc] at c2 c3
      rw [hgi.1] at c1
      rw [hgi.2.1] at c2
      rw [hgi.2.2] at c3
      have hErr := fun er => round_err (er := er) hll hrun
      have hOk := fun ws' rm' => round_ok (ws' := ws') (rm' := rm') hll hrun
      have hlb := hst.lt
      have hbd := hst.bounds
      have hcl := hst.cells
      have hpF : p ≠ w.heap.size := by omega
      have hnp : ¬ u7.ownBlock = some p := fun e => by have := (hown.lt p e).1; omega
      have f0 := hF.free 0
      have f1 := hF.free 1
      have e0 := hF.cell 0
      have e1 := hF.cell 1
      simp at e0 e1
      have hFl := hF.lt
      clear hgi hvr
      generalize l.getD k (0, 0, 0) = o at *
      obtain ⟨kd, nn, vv⟩ := o
      simp only at c1 c2 c3
      have HErr := Lib.hid hErr
      have HOk := Lib.hid hOk
      have Hrun := Lib.hid hrun
      have Hsep := Lib.hid hsep
      have Hcl := Lib.hid hcl.2.2
      have p0 := hcl.1
      have p1 := hcl.2.1
      clear hErr hOk hrun hsep hcl
      by_cases hk1 : kd < 1
      · have b1 : decide (kd < 1) = true := by simpa using hk1
        go_wp2
        have hA := HErr.out 1 (by simp [StackM.step, hk1])
        refine bodyPost_ret (v := .tuple #[.slice none 0 0, .slice none 0 0, flt 1 k]) (by simp [results, Try.results18, go_sem, flt, e0, e1, f0, f1, hFl]) rfl ⟨?_, ?_⟩
        · (repeat (first | exact hkw | refine Keeps.alloc ?_ _ | refine Keeps.drewN ?_ _ | refine Keeps.drew ?_ | refine Keeps.setCell ?_ (fun h => by simp at h) _))
        · rw [hA]; rfl
      have b1 : decide (kd < 1) = false := by simpa using hk1
      by_cases hk3 : 3 < kd
      · have b2 : decide (3 < kd) = true := by simpa using hk3
        go_wp2
        have hA := HErr.out 1 (by simp [StackM.step, hk3])
        refine bodyPost_ret (v := .tuple #[.slice none 0 0, .slice none 0 0, flt 1 k]) (by simp [results, Try.results18, go_sem, flt, e0, e1, f0, f1, hFl]) rfl ⟨?_, ?_⟩
        · (repeat (first | exact hkw | refine Keeps.alloc ?_ _ | refine Keeps.drewN ?_ _ | refine Keeps.drew ?_ | refine Keeps.setCell ?_ (fun h => by simp at h) _))
        · rw [hA]; rfl
      have b2 : decide (3 < kd) = false := by simpa using hk3
      by_cases hp1 : kd = 1
      · subst hp1
        clear b1 b2 hk1 hk3
        by_cases hfull : ws.length = mx
        · have Hf := Lib.hid hfull
          clear hfull
          go_wp2_with (go_at_call 38; refine (push_no p la mn mx rm ws vv _ (hst.alloc _) Hf.out).mono ?_; rintro e w2 ⟨rfl, j, rfl⟩)
          have hA := HErr.out 4 (by simp [StackM.step, Hf.out])
          refine bodyPost_ret (v := .tuple #[.slice none 0 0, .slice none 0 0, flt 4 k]) (by simp [results, Try.results18, go_sem, flt, e0, e1, f0, f1, hFl]) rfl ⟨?_, ?_⟩
          · (repeat (first | exact hkw | refine Keeps.alloc ?_ _ | refine Keeps.drewN ?_ _ | refine Keeps.drew ?_ | refine Keeps.setCell ?_ (fun h => by simp at h) _))
          · rw [hA]; rfl
        · have hs : StackM.step mn mx ws rm (1, nn, vv) = .ok (ws ++ [vv], if ws.length = rm then min (2 * rm) mx else rm) := by simp [StackM.step, hfull]
          have hO := HOk.out _ _ hs
          have Hf := Lib.hid hfull
          generalize hrr : (if ws.length = rm then min (2 * rm) mx else rm) = rm' at *
          have Hrr := Lib.hid hrr
          have HO := Lib.hid hO
          clear hfull hs hrr hO
          go_wp2_with (first | (go_at_call 38; refine (push_at p la mn mx rm ws vv _ (hst.alloc _) Hf.out).mono ?_; rintro e w2 ⟨la', rfl, hla', hk2, hst2⟩; rw [Hrr.out] at hst2; have hz2 := hk2.size; simp at hz2 hla') | (go_at_call 41; refine (room_at p la' mn mx rm' (ws ++ [vv]) _ hst2).mono ?_; rintro e w9 ⟨rfl, rfl⟩) | (at_builtin; refine own1 rfl _ _ 37 rfl w1.heap.size 3 (.int .i64 0) 1 8 Try.underlying37 (by kernel_rfl) rfl (by decide) u7 k (nats rs) rfl (Own.alloc (Own.keep (by repeat (first | with_reducible exact hown | with_reducible refine Own.alloc ?_ _ | with_reducible refine Own.drew ?_ | with_reducible refine Own.drewN ?_ _ | exact hown)) hk2 (fun i h1 h2 => by rcases h2 with rfl | rfl <;> first | exact hnp h1 | exact Hsep.out h1)) _) _ _ _ rfl (Blk.new' (by simp)) rfl (by simp [Value.oneCell']) (by unfold maxLen; omega) (by omega) (by simp; omega) ?_; intro v1 w3 hown1 hk3 hat))
          go_roundw
          case rel =>
            have hz := hk3.size
            simp at hz
            have hnl : ¬ u7.ownBlock = some la' := by
              intro h
              rcases hla' with h' | h'
              · first | exact Hsep.out h | (rw [h'] at h; exact Hsep.out h)
              · have := (hown.lt _ h).2; omega
            have hkA : Keeps Nil w w2 := Keeps.trans (by repeat (first | with_reducible exact hkw | with_reducible refine Keeps.alloc ?_ _ | with_reducible refine Keeps.drew ?_ | with_reducible refine Keeps.drewN ?_ _ | exact hkw)) hk2 (fun i hi h => by omega)
            refine ⟨k + 1, la', _, _, _, by omega, by go_num, HO.out, (hkA.alloc _).trans hk3 (fun i hi h => by have := (hown.lt i h).1; omega), by omega, (hst2.alloc _).keep hk3 hnp hnl, by omega, ?_, ?_, ?_⟩
            · simpa [nats] using hown1
            · intro h
              rcases hat with h' | h'
              · exact hnl (by rw [← h']; exact h)
              · have := h' _ h; have := hst2.lt.2; simp at *; omega
            · exact ((Blk.alloc (Blk.keep (by repeat (first | exact hF | refine Blk.alloc ?_ _ | refine Blk.drewN ?_ _)) hk2 (by omega)) _).keep hk3 (fun h => by have := (hown.lt _ h).1; omega))
          case measure => simp [intOf]; omega
      · have b3 : (kd == 1) = false := by simpa using hp1
        have hc23 : kd = 2 ∨ kd = 3 := by omega
        by_cases hbad : nn < 0 ∨ (ws.length : Int) < nn ∨ (kd = 3 ∧ nn = ws.length)
        · have hs : StackM.step mn mx ws rm (kd, nn, vv) = .error 3 := by simp only [StackM.step, if_neg hp1]; rw [if_neg (by omega), if_pos hbad]
          have hA := HErr.out 3 hs
          have HA := Lib.hid hA
          clear hA hs
          have Hb := Lib.hid hbad
          have Hc := Lib.hid hc23
          clear hbad hc23
          by_cases g1 : nn < 0
          · have x1 : decide (nn < 0) = true := by simpa using g1
            clear g1
            go_wp2
            go_quiet (fail)
            go_wp2
            refine bodyPost_ret (v := .tuple #[.slice none 0 0, .slice none 0 0, flt 3 k]) (by simp [results, Try.results18, go_sem, flt, e0, e1, f0, f1, hFl]) rfl ⟨?_, ?_⟩
            · (repeat (first | exact hkw | refine Keeps.alloc ?_ _ | refine Keeps.drewN ?_ _ | refine Keeps.drew ?_ | refine Keeps.setCell ?_ (fun h => by simp at h) _))
            · rw [HA.out]; rfl
          have x1 : decide (nn < 0) = false := by simpa using g1
          obtain ⟨L, hL⟩ : ∃ L, L = ws.length := ⟨_, rfl⟩
          rw [← hL] at p1
          have HL := Lib.hid hL
          by_cases g2 : (L : Int) < nn
          · have x2 : decide ((L : Int) < nn) = true := by simpa using g2
            clear g1 g2 hL
            go_wp2
            go_quiet (fail)
            go_wp2
            refine bodyPost_ret (v := .tuple #[.slice none 0 0, .slice none 0 0, flt 3 k]) (by simp [results, Try.results18, go_sem, flt, e0, e1, f0, f1, hFl]) rfl ⟨?_, ?_⟩
            · (repeat (first | exact hkw | refine Keeps.alloc ?_ _ | refine Keeps.drewN ?_ _ | refine Keeps.drew ?_ | refine Keeps.setCell ?_ (fun h => by simp at h) _))
            · rw [HA.out]; rfl
          have hg : kd = 3 ∧ nn = (L : Int) := by have := Hb.out; rw [← hL] at this; omega
          obtain ⟨rfl, rfl⟩ := hg
          have x2 : decide ((L : Int) < (L : Int)) = false := by simp
          have x3 : ((L : Int) == (L : Int)) = true := by simp
          clear g1 g2 hL b1 b2 b3
          go_wp2
          go_quiet (fail)
          go_wp2
          refine bodyPost_ret (v := .tuple #[.slice none 0 0, .slice none 0 0, flt 3 k]) (by simp [results, Try.results18, go_sem, flt, e0, e1, f0, f1, hFl]) rfl ⟨?_, ?_⟩
          · (repeat (first | exact hkw | refine Keeps.alloc ?_ _ | refine Keeps.drewN ?_ _ | refine Keeps.drew ?_ | refine Keeps.setCell ?_ (fun h => by simp at h) _))
          · rw [HA.out]; rfl
        · obtain ⟨m, rfl⟩ : ∃ m : Nat, nn = m := ⟨nn.toNat, by omega⟩
          obtain ⟨L, hL⟩ : ∃ L, L = ws.length := ⟨_, rfl⟩
          rw [← hL] at p1 hbad
          have x1 : decide ((m : Int) < 0) = false := decide_eq_false (by omega)
          have x2 : decide ((L : Int) < (m : Int)) = false := by simp; omega
          have x4 : decide (L < m) = false := by simp; omega
          rcases hc23 with rfl | rfl
          · have hs : StackM.step mn mx ws rm (2, m, vv) = .ok (ws.take (ws.length - m), if ws.length - m ≤ rm / 4 ∧ mn < rm then max (rm / 2) mn else rm) := by
              simp only [StackM.step, if_neg hp1]
              rw [if_neg (by omega), if_neg (by rw [← hL]; omega)]
              rfl
            have hO := HOk.out _ _ hs
            have hml : m ≤ ws.length := by omega
            have Hm := Lib.hid hml
            generalize hrr : (if ws.length - m ≤ rm / 4 ∧ mn < rm then max (rm / 2) mn else rm) = rm' at *
            have Hrr := Lib.hid hrr
            have HO := Lib.hid hO
            generalize hww : ws.take (ws.length - m) = ws' at *
            have Hww := Lib.hid hww
            clear hs hrr hO hww hml hbad hL b1 b2 b3
            go_wp2
            go_quiet (fail)
            go_wp2_with (first | (go_at_call 39; refine (pop_at p la mn mx rm ws m _ ((hst.alloc _).drewN _) Hm.out).mono ?_; rintro e w2 ⟨la', rfl, hla', hk2', hst2⟩; rw [Hrr.out, Hww.out] at hst2; have hk2 := hk2'.mono (T := fun i => i = p ∨ i = la) (fun _ _ h => Or.inl h); have hz2 := hk2.size; simp at hz2 hla') | (go_at_call 41; refine (room_at p la' mn mx rm' ws' _ hst2).mono ?_; rintro e w9 ⟨rfl, rfl⟩) | (at_builtin; refine own1 rfl _ _ 37 rfl w1.heap.size 3 (.int .i64 0) 1 8 Try.underlying37 (by kernel_rfl) rfl (by decide) u7 k (nats rs) rfl (Own.alloc (Own.keep (by repeat (first | with_reducible exact hown | with_reducible refine Own.alloc ?_ _ | with_reducible refine Own.drew ?_ | with_reducible refine Own.drewN ?_ _ | exact hown)) hk2 (fun i h1 h2 => by rcases h2 with rfl | rfl <;> first | exact hnp h1 | exact Hsep.out h1)) _) _ _ _ rfl (Blk.new' (by simp)) rfl (by simp [Value.oneCell']) (by unfold maxLen; omega) (by omega) (by simp; omega) ?_; intro v1 w3 hown1 hk3 hat))
            go_roundw
            case rel =>
              have hz := hk3.size
              simp at hz
              have hnl : ¬ u7.ownBlock = some la' := by
                intro h
                rcases hla' with h' | h'
                · first | exact Hsep.out h | (rw [h'] at h; exact Hsep.out h)
                · have := (hown.lt _ h).2; omega
              have hkA : Keeps Nil w w2 := Keeps.trans (by repeat (first | with_reducible exact hkw | with_reducible refine Keeps.alloc ?_ _ | with_reducible refine Keeps.drew ?_ | with_reducible refine Keeps.drewN ?_ _ | exact hkw)) hk2 (fun i hi h => by omega)
              refine ⟨k + 1, la', _, _, _, by omega, by go_num, HO.out, (hkA.alloc _).trans hk3 (fun i hi h => by have := (hown.lt i h).1; omega), by omega, (hst2.alloc _).keep hk3 hnp hnl, by omega, ?_, ?_, ?_⟩
              · simpa [nats] using hown1
              · intro h
                rcases hat with h' | h'
                · exact hnl (by rw [← h']; exact h)
                · have := h' _ h; have := hst2.lt.2; simp at *; omega
              · exact ((Blk.alloc (Blk.keep (by repeat (first | exact hF | refine Blk.alloc ?_ _ | refine Blk.drewN ?_ _)) hk2 (by omega)) _).keep hk3 (fun h => by have := (hown.lt _ h).1; omega))
            case measure => simp [intOf]; omega
          · have hs : StackM.step mn mx ws rm (3, m, vv) = .ok (ws.set m vv, rm) := by
              simp only [StackM.step, if_neg hp1]
              rw [if_neg (by omega), if_neg (by rw [← hL]; omega), if_neg (by omega)]
              simp
            have hO := HOk.out _ _ hs
            have hml : m < ws.length := by omega
            have hmr : m < rm := by omega
            have x5 : ((m : Int) == (L : Int)) = false := by rw [beq_eq_false_iff_ne]; omega
            have hw0 := Hcl.out m hml
            have HO := Lib.hid hO
            have hw1 := hw0.1
            have hw2 := hw0.2
            generalize hgg : ws.getD m 0 = gg at hw1
            clear hs hO hbad hL b1 b2 b3 hw0 hgg hml
            go_wp2
            go_quiet (fail)
            go_wp2
            refine region_still_tail 7 (by kernel_rfl) (by kernel_rfl) ?_
            simp only [List.take_succ_cons, List.take_zero, List.drop_succ_cons, List.drop_zero]
            iterate 3 (refine wpStill_step (fun K hK => ?_); go_simp; (try go_bits); refine hK _ ?_; clear hK K)
            refine wpStill_step (fun K hK => ?_); go_simp; refine ⟨_, (at_at p la mn mx rm ws m _ ((hst.alloc _).drewN _) hmr).mono (fun e w' ⟨he, hw⟩ => ⟨he, hw.symm⟩), hK _ ?_⟩; clear hK K
            iterate 3 (refine wpStill_step (fun K hK => ?_); go_simp; (try go_bits); refine hK _ ?_; clear hK K)
            refine wpStill_nil ?_
            go_wp2_with fail
            have hla' : la = la ∨ wr.heap.size ≤ la := .inl rfl
            generalize hw2 : World.setCell _ ⟨la, m, none⟩ _ = w2
            have hk2 : Keeps (fun i => i = p ∨ i = la) (wr.alloc (.cells #[.int .i64 3, .int .i64 m, .int .i64 vv] 46)) w2 := by
              rw [← hw2]; exact Keeps.setCell (S := fun i => i = p ∨ i = la) ((Keeps.refl _ _).drewN _) (fun _ => .inr rfl) _
            have hst2 : StackAt w2 p la mn mx rm (ws.set m vv) := by
              rw [← hw2]; exact StackAt.setAt ((hst.alloc _).drewN _) m vv rfl
            have hz2 := hk2.size
            simp at hz2
            clear hw2
            refine (room_at p la mn mx rm (ws.set m vv) _ hst2).mono ?_
            rintro e w9 ⟨rfl, rfl⟩
            go_wp2_with (first | (go_at_call 41; refine (room_at p la mn mx rm (ws.set m vv) _ hst2).mono ?_; rintro e w9 ⟨rfl, rfl⟩) | (at_builtin; refine own1 rfl _ _ 37 rfl w1.heap.size 3 (.int .i64 0) 1 8 Try.underlying37 (by kernel_rfl) rfl (by decide) u7 k (nats rs) rfl (Own.alloc (Own.keep (by repeat (first | with_reducible exact hown | with_reducible refine Own.alloc ?_ _ | with_reducible refine Own.drew ?_ | with_reducible refine Own.drewN ?_ _ | exact hown)) hk2 (fun i h1 h2 => by rcases h2 with rfl | rfl <;> first | exact hnp h1 | exact Hsep.out h1)) _) _ _ _ rfl (Blk.new' (by simp)) rfl (by simp [Value.oneCell']) (by unfold maxLen; omega) (by omega) (by simp; omega) ?_; intro v1 w3 hown1 hk3 hat))
            go_roundw
            case rel =>
              have hz := hk3.size
              simp at hz
              have hnl : ¬ u7.ownBlock = some la := by
                intro h
                rcases hla' with h' | h'
                · first | exact Hsep.out h | (rw [h'] at h; exact Hsep.out h)
                · have := (hown.lt _ h).2; omega
              have hkA : Keeps Nil w w2 := Keeps.trans (by repeat (first | with_reducible exact hkw | with_reducible refine Keeps.alloc ?_ _ | with_reducible refine Keeps.drew ?_ | with_reducible refine Keeps.drewN ?_ _ | exact hkw)) hk2 (fun i hi h => by omega)
              refine ⟨k + 1, la, _, _, _, by omega, by go_num, HO.out, (hkA.alloc _).trans hk3 (fun i hi h => by have := (hown.lt i h).1; omega), by omega, (hst2.alloc _).keep hk3 hnp hnl, by omega, ?_, ?_, ?_⟩
              · simpa [nats] using hown1
              · intro h
                rcases hat with h' | h'
                · exact hnl (by rw [← h']; exact h)
                · have := h' _ h; have := hst2.lt.2; simp at *; omega
              · exact ((Blk.alloc (Blk.keep (by repeat (first | exact hF | refine Blk.alloc ?_ _ | refine Blk.drewN ?_ _)) hk2 (by omega)) _).keep hk3 (fun h => by have := (hown.lt _ h).1; omega))
            case measure => simp [intOf]; omega
    · obtain rfl : k = n := by omega
      have hlk : l.take k = l := List.take_of_length_le (by have := Hn.out; omega)
      rw [hlk] at hrun
      have Hrun := Lib.hid hrun
      have f0 := hF.free 0
      have f1 := hF.free 1
      have e0 := hF.cell 0
      have e1 := hF.cell 1
      simp at e0 e1
      have hFl := hF.lt
      clear hlk hrun
      go_wp2_with (go_at_call 42; refine (words_at p la mn mx rm ws _ hst).mono ?_; rintro e w2 ⟨vw, rfl, hk2, how⟩; have e20 := (hk2.cell (p := ⟨w.heap.size, 0, none⟩) hFl (fun h => h)).trans e0; have e21 := (hk2.cell (p := ⟨w.heap.size, 1, none⟩) hFl (fun h => h)).trans e1; have f20 := (hk2.frozen (p := ⟨w.heap.size, 0, none⟩) hFl (fun h => h)).trans f0; have f21 := (hk2.frozen (p := ⟨w.heap.size, 1, none⟩) hFl (fun h => h)).trans f1; have hFl2 : w.heap.size < w2.heap.size := Nat.lt_of_lt_of_le hFl hk2.size)
      refine bodyPost_ret (v := .tuple #[vw, u7, flt 0 0]) (by simp [results, Try.results18, go_sem, flt, e20, e21, f20, f21, hFl2]) rfl ⟨?_, ?_⟩
      · exact ((hkw.trans hk2 (fun _ _ h => h)).setCell (fun h => by simp at h) _).setCell (fun h => by simp at h) _
      · rw [Hrun.out]
        have hkF : Keeps (fun i => i = w.heap.size) w2 ((w2.setCell { block := w.heap.size, off := 0 } (Value.int IntKind.i64 0)).setCell { block := w.heap.size, off := 1 } (Value.int IntKind.i64 0)) :=
          Keeps.setCell (S := fun i => i = w.heap.size) (Keeps.setCell (S := fun i => i = w.heap.size) (Keeps.refl _ _) (fun _ => rfl) _) (fun _ => rfl) _
        exact ⟨vw, u7, rfl, (how.mono hkw.size).keep hkF (fun i h1 h2 => by have := (how.lt i h1).1; omega), ((hown.mono hsz1).keep hk2 (fun _ _ h => h)).keep hkF (fun i h1 h2 => by have := (hown.lt i h1).1; omega)⟩
end Go.Proofs.Ytninmkkcphnniaa.Stk
