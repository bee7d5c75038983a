/- image.Parse: the walk of the reader's 'unit'. -/
import Derived.Test.YtninmkkcphnniaaImgCount
import Derived.Test.YtninmkkcphnniaaRegion
import Derived.Deep.RegionHeld3
import Derived.RegionDies
import Derived.Deep.RegionLaw
namespace Go.Proofs.Ytninmkkcphnniaa.Img
open Go.RowKit
set_option linter.unusedVariables false
set_option linter.unusedSimpArgs false

/-- what has been read, ahead of what comes -/
def pre {α : Type} (xs : List α) : Option (List α × List Nat) → Option (List α × List Nat)
  | none => none
  | some (ys, s) => some (xs ++ ys, s)
theorem pre_nil {α : Type} (o : Option (List α × List Nat)) : pre [] o = o := by cases o <;> rfl
theorem pre_no {α : Type} {f : ImgM.Rd α} {xs : List α} {n : Nat} {l : List Nat} (h : f l = none) : pre xs (ImgM.rdMany f (n + 1) l) = none := by simp [ImgM.rdMany, h, pre]
theorem pre_yes {α : Type} {f : ImgM.Rd α} {xs : List α} {n : Nat} {l r : List Nat} {a : α} (h : f l = some (a, r)) : pre xs (ImgM.rdMany f (n + 1) l) = pre (xs ++ [a]) (ImgM.rdMany f n r) := by
  simp only [ImgM.rdMany, h]
  cases ImgM.rdMany f n r with
  | none => rfl
  | some y => simp [pre]
theorem pre_end {α : Type} {f : ImgM.Rd α} {xs : List α} {l : List Nat} : pre xs (ImgM.rdMany f 0 l) = some (xs, l) := by simp [ImgM.rdMany, pre]

theorem count_small {m : Nat} {l r : List Nat} {x : Nat} (hb : ∀ c ∈ l, c < 256) (hd : ImgM.rdCount m l = some (x, r)) (hl : l.length ≤ 100000) : (∀ c ∈ r, c < 256) ∧ x ≤ 100000 ∧ r.length ≤ 100000 := by
  unfold ImgM.rdCount at hd
  cases h1 : ImgM.rdNum l with
  | none => rw [h1] at hd; cases hd
  | some y =>
    obtain ⟨y, s⟩ := y
    rw [h1] at hd
    simp only at hd
    split at hd
    · cases hd
    rename_i hgood
    simp only [Option.some.injEq, Prod.mk.injEq] at hd
    obtain ⟨rfl, rfl⟩ := hd
    obtain ⟨e1, -⟩ := ImgM.pair_num.back l y s hb h1
    have h2 : s.length ≤ l.length := by rw [e1, List.length_append]; omega
    have h3 := Nat.div_le_self s.length m
    exact ⟨ImgM.in_rest hb e1, by omega, by omega⟩

def UnitSaid (p : Nat) (l : List Nat) (w : World) (e : Ending) (w' : World) : Prop :=
  Keeps (fun i => i = p) w w' ∧ match ImgM.rdUnt l with
    | none => e = Bad
    | some (u, r) => ∃ lv cv v' n', e = .returned (.agg #[.int .i64 u.kind, .int .i64 u.params, lv, .int .i64 u.result, .int .i64 u.takes, cv]) ∧ Rr w' p v' n' r ∧
        Own w' w.heap.size 3 1 lv u.locals.length (i64s u.locals) ∧ Own w' w.heap.size 89 3 cv u.code.length (codeC u.code)

set_option maxRecDepth 100000 in
set_option maxHeartbeats 4000000 in
theorem unit_rd (p : Nat) (v : Value) (n : Nat) (l : List Nat) (w : World) (hr : Rr w p v n l) (hb : ∀ c ∈ l, c < 256) (hlen : l.length ≤ 100000) :
    Calls Try.prog 51 #[.pointer (some ⟨p, 0, none⟩)] w (UnitSaid p l w) := by
  have hp := hr.box.lt
  have HB := Lib.hid hb
  go_enter Try.func51, Try.ntmps51
  go_wp2_with fail
  generalize hW0 : World.alloc w _ = w0 at *
  have hB0 : Blk w0 w.heap.size #[.int .i64 0, .int .i64 0, .slice none 0 0, .int .i64 0, .int .i64 0, .slice none 0 0] 86 := by rw [← hW0]; exact Blk.new _ _ _
  have hk0 : Keeps (fun i => i = p) w w0 := by rw [← hW0]; exact (Keeps.refl _ _).alloc _
  have hr0 : Rr w0 p v n l := by rw [← hW0]; exact hr.keep (S := Nil) ((Keeps.refl _ _).alloc _) (fun _ _ h => h)
  clear hW0 hr
  have hu : ImgM.rdUnt l = ImgM.rdUnt l := rfl
  conv at hu => rhs; unfold ImgM.rdUnt ImgM.rdTwo
  cases h1 : ImgM.rdNum l with
  | none =>
    rw [h1] at hu
    refine (int_no hr0 hb h1).mono ?_
    rintro e w' ⟨rfl, hk⟩
    have HF := Lib.hid (show UnitSaid p l w Bad w' from ⟨hk0.trans hk (fun _ _ h => h), by rw [hu]⟩)
    clear hu hk hk0 h1 hb hr0 hB0
    go_wp2
    exact ⟨rfl, HF.out⟩
  | some x =>
    obtain ⟨x1, r1⟩ := x
    rw [h1] at hu
    simp only at hu
    refine (int_yes hr0 hb h1).mono ?_
    rintro e w1 ⟨rfl, hk1, v1, n1, hr1⟩
    obtain ⟨hq1, hx1⟩ := ImgM.pair_num.back l x1 r1 hb h1
    have hb1 := ImgM.in_rest hb hq1
    have hl1 : r1.length ≤ 100000 := by rw [hq1, List.length_append] at hlen; omega
    have hkA := hk0.trans hk1 (fun _ _ h => h)
    have hB1 := hB0.keep hk1 (by omega)
    have HU := Lib.hid hu
    clear hk1 hr0 hk0 h1 hb hu hB0 hq1 hlen
    go_wp2_with fail
    cases h2 : ImgM.rdNum r1 with
    | none =>
      have hu := HU.out
      rw [h2] at hu
      refine (int_no hr1 hb1 h2).mono ?_
      rintro e w' ⟨rfl, hk⟩
      have HF := Lib.hid (show UnitSaid p l w Bad w' from ⟨hkA.trans hk (fun _ _ h => h), by rw [hu]⟩)
      clear hu hk hkA h2 hb1 hr1 HU hB1
      go_wp2
      exact ⟨rfl, HF.out⟩
    | some x =>
      obtain ⟨x2, r2⟩ := x
      have hu := HU.out
      rw [h2] at hu
      simp only at hu
      refine (int_yes hr1 hb1 h2).mono ?_
      rintro e w2 ⟨rfl, hk2, v2, n2, hr2⟩
      obtain ⟨hq2, hx2⟩ := ImgM.pair_num.back r1 x2 r2 hb1 h2
      have hb2 := ImgM.in_rest hb1 hq2
      have hl2 : r2.length ≤ 100000 := by rw [hq2, List.length_append] at hl1; omega
      have hkB := hkA.trans hk2 (fun _ _ h => h)
      have hB2 := hB1.keep hk2 (by omega)
      have HU := Lib.hid hu
      clear hk2 hr1 hkA h2 hb1 hu hB1 hq2 hl1
      go_wp2_with fail
      generalize hW3 : World.alloc w2 _ = w3 at *
      have hB3 : Blk w3 w.heap.size #[.int .i64 0, .int .i64 0, .slice none 0 0, .int .i64 0, .int .i64 0, .slice none 0 0] 86 := by rw [← hW3]; exact hB2.alloc _
      have hC3 : Blk w3 w2.heap.size #[.int .i64 x1, .int .i64 x2, .slice none 0 0, .int .i64 0, .int .i64 0, .slice none 0 0] 86 := by rw [← hW3]; exact Blk.new _ _ _
      have hk3 : Keeps (fun i => i = p) w w3 := by rw [← hW3]; exact hkB.alloc _
      have hr3 : Rr w3 p v2 n2 r2 := by rw [← hW3]; exact hr2.keep (S := Nil) ((Keeps.refl _ _).alloc _) (fun _ _ h => h)
      have hz2 : w.heap.size < w2.heap.size := hB2.lt
      clear hW3 hr2 hB2 hkB
      generalize w2.heap.size = q at *
      have hu := HU.out
      unfold ImgM.rdList at hu
      cases h3 : ImgM.rdCount 1 r2 with
      | none =>
        rw [h3] at hu
        refine (count_no 1 (by omega) (by omega) hr3 hb2 h3).mono ?_
        rintro e w' ⟨rfl, hk⟩
        have HF := Lib.hid (show UnitSaid p l w Bad w' from ⟨hk3.trans hk (fun _ _ h => h), by rw [hu]⟩)
        clear hu hk hk3 h3 hb2 hr3 HU hB3 hC3
        go_wp2
        exact ⟨rfl, HF.out⟩
      | some x =>
        obtain ⟨N, r3⟩ := x
        rw [h3] at hu
        simp only at hu
        refine (count_yes 1 (by omega) (by omega) hr3 hb2 h3).mono ?_
        rintro e w4 ⟨rfl, hk4, v4, n4, hr4⟩
        obtain ⟨hb4, hN, hl4⟩ := count_small hb2 h3 hl2
        have hk5 := hk3.trans hk4 (fun _ _ h => h)
        have hB4 := hB3.keep hk4 (by omega)
        have hC4 := hC3.keep hk4 (by omega)
        have HU := Lib.hid hu
        clear hk4 hk3 hr3 hu h3 hb2 hB3 hC3
        go_wp2
        go_loopw [11] (fun i wr => ∃ (k : Nat) (lv v : Value) (n : Nat) (xs : List Int) (r : List Nat), k ≤ N ∧ i = .int .i64 k ∧ Keeps (fun i => i = p) w wr ∧ Rr wr p v n r ∧ q < wr.heap.size ∧
          Blk wr w.heap.size #[.int .i64 0, .int .i64 0, .slice none 0 0, .int .i64 0, .int .i64 0, .slice none 0 0] 86 ∧ Blk wr q #[.int .i64 x1, .int .i64 x2, lv, .int .i64 0, .int .i64 0, .slice none 0 0] 86 ∧
          Own wr (q + 1) 3 1 lv k (i64s xs) ∧ Hid (ImgM.rdMany ImgM.rdNum N r3 = pre xs (ImgM.rdMany ImgM.rdNum (N - k) r) ∧ (∀ c ∈ r, c < 256) ∧ r.length ≤ 100000)) (fun i _ => N - (intOf i).toNat)
        case atStart => exact ⟨0, _, v4, n4, [], r3, Nat.zero_le _, rfl, hk5, hr4, hC4.lt, hB4, hC4, Own.nil _ _ _ _, Lib.hid ⟨by rw [pre_nil]; rfl, hb4, hl4⟩⟩
        case round =>
          clear hB4 hC4 hr4 hk5 hb4 hl4
          obtain ⟨k, lv, v, n, xs, r, hk, rfl, hkw, hr, hqw, hB, hC, hown, hH⟩ := hrel
          obtain ⟨hrd, hb, hl⟩ := hH.out
          by_cases hkn : k < N
          · have c2 := hC.cell 2
            have f2 := hC.free 2
            simp at c2
            have hrW : Rr wr.drew p v n r := hr.keep (S := Nil) ((Keeps.refl _ _).drew) (fun _ _ h => h)
            obtain ⟨j, hj⟩ : ∃ j, N - k = j + 1 := ⟨N - k - 1, by omega⟩
            rw [hj] at hrd
            cases hd : ImgM.rdNum r with
            | none =>
              have HC := Lib.hid (int_no hrW hb hd)
              rw [pre_no hd] at hrd
              have hu := HU.out
              rw [hrd] at hu
              have HF := Lib.hid (show ∀ w', Keeps (fun i => i = p) w w' → UnitSaid p l w Bad w' from fun w' hk => ⟨hk, by rw [hu]⟩)
              clear hd hrd hb hl hown hu hj hr hrW
              go_wp2
              go_region_dies
              all_goals
                refine HC.out.mono ?_
                rintro e w5 ⟨rfl, hk5⟩
                have HF2 := Lib.hid (HF.out w5 (hkw.drew.trans hk5 (fun _ _ h => h)))
                clear hk5
                go_wp2
                exact ⟨rfl, HF2.out⟩
            | some x =>
              obtain ⟨x, r'⟩ := x
              have HC := Lib.hid (int_yes hrW hb hd)
              rw [pre_yes hd] at hrd
              obtain ⟨hq, hx⟩ := ImgM.pair_num.back r x r' hb hd
              have HR := Lib.hid (show ImgM.rdMany ImgM.rdNum N r3 = pre (xs ++ [x]) (ImgM.rdMany ImgM.rdNum j r') ∧ (∀ c ∈ r', c < 256) ∧ r'.length ≤ 100000 from ⟨hrd, ImgM.in_rest hb hq, by rw [hq, List.length_append] at hl; omega⟩)
              have HJ := Lib.hid hj
              clear hd hrd hb hl hj hr hrW hq
              go_wp2
              go_region_law ((first | (go_simp; go_at_call 50; refine HC.out.mono ?_; rintro e w5 ⟨rfl, hk5, v5, n5, hr5⟩; have b5 := hC.drew.keep hk5 (fun h => by omega); have c25 := b5.cell 2; simp at c25; have c27 : ∀ ob, World.cell? (World.alloc w5 ob) ⟨q, 2, none⟩ = some lv := fun ob => ((b5.alloc ob).cell 2).trans (by simp)) | (refine ownStep1 rfl _ _ 37 rfl (q + 1) 3 (.int .i64 0) 1 8 Try.underlying37 (by kernel_rfl) rfl (by decide) lv k (i64s xs) rfl (Own.alloc (Own.keep (Own.drew hown) hk5 (fun i h1 h2 => by have := (hown.lt i h1).1; omega)) _) _ _ [.int .i64 x] rfl (Blk.new' (by simp)) rfl (by simp [Value.oneCell']) (by unfold maxLen; omega) (by omega) (by have := hk5.size; simp at this; simp; omega) ?_; intro v6 w6 hown6 hk6 hat6; obtain ⟨a6, k6, rfl, -⟩ := (hown6.row (by omega)).shape; have b6 := ((hC.drew.keep hk5 (fun h => by omega)).alloc (.cells #[.int .i64 x] 3)).keep hk6 (fun h => by have := (hown.lt _ h).1; omega); have c26 := b6.cell 2; have f26 := b6.free 2; have l26 := b6.lt; simp at c26; have HOW := Lib.hid hown6; have HK6 := Lib.hid hk6; have HAT := Lib.hid hat6; clear hown6 hk6 hat6)))
              all_goals
                have hz6 := HK6.out.size
                have hz5 := hk5.size
                simp at hz6 hz5
                have hkq : ∀ u, Keeps (fun i => i = q) w6 (w6.setCell ⟨q, 2, none⟩ u) := fun u => Keeps.setCell (S := fun i => i = q) (Keeps.refl _ _) (fun _ => rfl) u
                have hk6 : Keeps (fun i => i = q ∨ lv.ownBlock = some i) w5 (w6.setCell ⟨q, 2, none⟩ (.slice a6 (k + 1) k6)) :=
                  Keeps.setCell (S := fun i => i = q ∨ lv.ownBlock = some i) ((((Keeps.refl _ _).alloc _).trans HK6.out (fun i _ h => Or.inr h))) (fun _ => .inl rfl) _
                have hS : ∀ b, b < q → ¬ (b = q ∨ lv.ownBlock = some b) := fun b hb h => by rcases h with h | h; (omega); (have := (hown.lt b h).1; omega)
                have hpq : p < q := by omega
                have hfin : Keeps (fun i => i = p) w (w6.setCell ⟨q, 2, none⟩ (.slice a6 (k + 1) k6)) := (hkw.drew.trans hk5 (fun _ _ h => h)).trans hk6 (fun i hi h => absurd h (hS i (by omega)))
                have hr6 := hr5.keep hk6 (fun b hb => hS b (by omega))
                have hBn := (hB.drew.keep hk5 (by omega)).keep hk6 (hS _ (by omega))
                have hCn : Blk (w6.setCell ⟨q, 2, none⟩ (.slice a6 (k + 1) k6)) q #[.int .i64 x1, .int .i64 x2, .slice a6 (k + 1) k6, .int .i64 0, .int .i64 0, .slice none 0 0] 86 := (b6.set 2 _).to rfl (by simp)
                have hOn := (HOW.out.keep (hkq (.slice a6 (k + 1) k6)) (fun b hb h => by have := (HOW.out.lt b hb).1; omega))
                have HFin := Lib.hid (And.intro hfin (And.intro hr6 (And.intro hBn (And.intro hCn hOn))))
                clear hfin hr6 hBn hCn hOn hk6 hkq hS b6 b5 hk5 hr5 hB hC hown c25 c27 c26 f26
                go_wp2
                go_roundw
                case rel =>
                  obtain ⟨g1, g2, g3, g4, g5⟩ := HFin.out
                  refine ⟨k + 1, _, _, _, xs ++ [x], r', by omega, by go_num, g1, g2, g4.lt, g3, g4, ?_, Lib.hid ?_⟩
                  · simpa [i64s] using g5
                  · have := HR.out
                    rw [show N - (k + 1) = j by have := HJ.out; omega]
                    exact this
                case measure => simp [intOf]; omega
          · obtain rfl : k = N := by omega
            rw [Nat.sub_self, pre_end] at hrd
            have hu := HU.out
            rw [hrd] at hu
            simp only at hu
            have hxl := hown.len
            have HU := Lib.hid hu
            clear hrd hu
            simp [i64s] at hxl
            have HXL := Lib.hid hxl
            clear hxl
            go_wp2_with fail
            cases h5 : ImgM.rdNum r with
            | none =>
              have hu := HU.out
              rw [h5] at hu
              refine (int_no hr hb h5).mono ?_
              rintro e w' ⟨rfl, hk⟩
              have HF := Lib.hid (show UnitSaid p l w Bad w' from ⟨hkw.trans hk (fun _ _ h => h), by rw [hu]⟩)
              clear hu hk hkw h5 hb hr HU hB hC hown
              go_wp2
              exact ⟨rfl, HF.out⟩
            | some x =>
              obtain ⟨x3, r4⟩ := x
              have hu := HU.out
              rw [h5] at hu
              simp only at hu
              refine (int_yes hr hb h5).mono ?_
              rintro e w5 ⟨rfl, hk5, v5, n5, hr5⟩
              obtain ⟨hq5, hx5⟩ := ImgM.pair_num.back r x3 r4 hb h5
              have hb5 := ImgM.in_rest hb hq5
              have hl5 : r4.length ≤ 100000 := by rw [hq5, List.length_append] at hl; omega
              have hkC := hkw.trans hk5 (fun _ _ h => h)
              have hB5 := hB.keep hk5 (by omega)
              have hC5 := hC.keep hk5 (by omega)
              have hO5 := hown.keep hk5 (fun b h1 h2 => by have := (hown.lt b h1).1; omega)
              have HU := Lib.hid hu
              clear hk5 hr hkw h5 hb hu hB hC hown hq5 hl
              go_wp2_with fail
              cases h6 : ImgM.rdNum r4 with
              | none =>
                have hu := HU.out
                rw [h6] at hu
                refine (int_no hr5 hb5 h6).mono ?_
                rintro e w' ⟨rfl, hk⟩
                have HF := Lib.hid (show UnitSaid p l w Bad w' from ⟨hkC.trans hk (fun _ _ h => h), by rw [hu]⟩)
                clear hu hk hkC h6 hb5 hr5 HU hB5 hC5 hO5
                go_wp2
                exact ⟨rfl, HF.out⟩
              | some x =>
                obtain ⟨x4, r5⟩ := x
                have hu := HU.out
                rw [h6] at hu
                simp only at hu
                refine (int_yes hr5 hb5 h6).mono ?_
                rintro e w6 ⟨rfl, hk6, v6, n6, hr6⟩
                obtain ⟨hq6, hx6⟩ := ImgM.pair_num.back r4 x4 r5 hb5 h6
                have hb6 := ImgM.in_rest hb5 hq6
                have hl6 : r5.length ≤ 100000 := by rw [hq6, List.length_append] at hl5; omega
                have hkD := hkC.trans hk6 (fun _ _ h => h)
                have hB6 := hB5.keep hk6 (by omega)
                have hC6 := hC5.keep hk6 (by omega)
                have hO6 := hO5.keep hk6 (fun b h1 h2 => by have := (hO5.lt b h1).1; omega)
                have HU := Lib.hid hu
                clear hk6 hr5 hkC h6 hb5 hu hB5 hC5 hO5 hq6 hl5
                have c3 := hC6.cell 3
                have c4 := hC6.cell 4
                have f3 := hC6.free 3
                have f4 := hC6.free 4
                have lq := hC6.lt
                simp at c3 c4
                go_wp2_with fail
                generalize hW7 : World.setCell (World.setCell w6 _ _) _ _ = w7 at *
                have hk7 : Keeps (fun i => i = q) w6 w7 := by rw [← hW7]; exact Keeps.setCell (S := fun i => i = q) (Keeps.setCell (S := fun i => i = q) (Keeps.refl _ _) (fun _ => rfl) _) (fun _ => rfl) _
                have hC7 : Blk w7 q #[.int .i64 x1, .int .i64 x2, lv, .int .i64 x3, .int .i64 x4, .slice none 0 0] 86 := by rw [← hW7]; exact ((hC6.set 3 _).set 4 _).to rfl (by simp)
                have hB7 := hB6.keep hk7 (by omega)
                have hr7 := hr6.keep hk7 (fun b hb => by omega)
                have hO7 := hO6.keep hk7 (fun b h1 h2 => by have := (hO6.lt b h1).1; omega)
                have hkE : Keeps (fun i => i = p) w w7 := hkD.trans hk7 (fun i hi h => by omega)
                clear hW7 hk7 hC6 hB6 hr6 hO6 hkD c3 c4 f3 f4 lq
                cases h7 : ImgM.rdCount 3 r5 with
                | none =>
                  have hu := HU.out
                  rw [h7] at hu
                  refine (count_no 3 (by omega) (by omega) hr7 hb6 h7).mono ?_
                  rintro e w' ⟨rfl, hk⟩
                  have HF := Lib.hid (show UnitSaid p l w Bad w' from ⟨hkE.trans hk (fun _ _ h => h), by rw [hu]⟩)
                  clear hu hk hkE h7 hb6 hr7 HU hB7 hC7 hO7
                  go_wp2
                  exact ⟨rfl, HF.out⟩
                | some x =>
                  obtain ⟨N2, r7⟩ := x
                  have hu := HU.out
                  rw [h7] at hu
                  simp only at hu
                  refine (count_yes 3 (by omega) (by omega) hr7 hb6 h7).mono ?_
                  rintro e w8 ⟨rfl, hk8, v8, n8, hr8⟩
                  obtain ⟨hb8, hN2, hl8⟩ := count_small hb6 h7 hl6
                  have hkF := hkE.trans hk8 (fun _ _ h => h)
                  have hB8 := hB7.keep hk8 (by omega)
                  have hC8 := hC7.keep hk8 (by omega)
                  have hO8 := hO7.keep hk8 (fun b h1 h2 => by have := (hO7.lt b h1).1; omega)
                  have HU := Lib.hid hu
                  clear hk8 hkE hr7 hu h7 hb6 hB7 hC7 hO7
                  go_wp2
                  go_loopw [29] (fun i wr => ∃ (t : Nat) (cv v : Value) (n : Nat) (ys : List ImgM.Ins) (r : List Nat), t ≤ N2 ∧ i = .int .i64 t ∧ Keeps (fun i => i = p) w wr ∧ Rr wr p v n r ∧ q < wr.heap.size ∧
                    Blk wr w.heap.size #[.int .i64 0, .int .i64 0, .slice none 0 0, .int .i64 0, .int .i64 0, .slice none 0 0] 86 ∧ Blk wr q #[.int .i64 x1, .int .i64 x2, lv, .int .i64 x3, .int .i64 x4, cv] 86 ∧
                    Own wr (q + 1) 3 1 lv k (i64s xs) ∧ Own wr (q + 1) 89 3 cv t (codeC ys) ∧ Hid (∀ b, lv.ownBlock = some b → cv.ownBlock ≠ some b) ∧ Hid (ImgM.rdMany ImgM.rdIns N2 r7 = pre ys (ImgM.rdMany ImgM.rdIns (N2 - t) r) ∧ (∀ c ∈ r, c < 256) ∧ r.length ≤ 100000)) (fun i _ => N2 - (intOf i).toNat)
                  case atStart => exact ⟨0, _, v8, n8, [], r7, Nat.zero_le _, rfl, hkF, hr8, hC8.lt, hB8, hC8, hO8, Own.nil _ _ _ _, Lib.hid (by simp [Value.ownBlock]), Lib.hid ⟨by rw [pre_nil]; rfl, hb8, hl8⟩⟩
                  case round =>
                    clear hB8 hC8 hr8 hkF hb8 hl8 hO8
                    obtain ⟨t, cv, v, n, ys, r, ht, rfl, hkw, hr, hqw, hB, hC, hO, hown, hsep, hH⟩ := hrel
                    obtain ⟨hrd, hb, hl⟩ := hH.out
                    by_cases htn : t < N2
                    · have c5 := hC.cell 5
                      simp at c5
                      have hrW : Rr wr.drew p v n r := hr.keep (S := Nil) ((Keeps.refl _ _).drew) (fun _ _ h => h)
                      have hkW : Keeps (fun i => i = p) w wr.drew := hkw.drew
                      have hCW : Blk wr.drew q #[.int .i64 x1, .int .i64 x2, lv, .int .i64 x3, .int .i64 x4, cv] 86 := hC
                      have hT : wr.drew.cell? ⟨q, 5, none⟩ = some cv := c5
                      have HOO := Lib.hid (And.intro hO hown)
                      have HBC := Lib.hid (And.intro hB hC)
                      have HRD := Lib.hid hrd
                      clear hrd hr hB hC hO hown hkw c5
                      go_wp2
                      refine regionT 10 (fun w' => w'.cell? ⟨q, 5, none⟩ = some cv) (by kernel_rfl) ?_
                      refine take0 (i := 0) (v := .pointer (some ⟨q, 5, none⟩)) rfl (by kernel_rfl) (by kernel_rfl) (by kernel_rfl) (by decide) (fun _ _ _ h => h) (Or.inl ⟨by rfl, fun wS _ => ?_⟩) hT ?_
                      · go_simp
                      refine takeT (i := 1) (v := cv) rfl (by kernel_rfl) (by kernel_rfl) (by kernel_rfl) (by kernel_rfl) (by kernel_rfl) (fun _ _ _ h => h) (Or.inl ⟨by rfl, fun wS hSS => ?_⟩) hT ?_
                      · go_simp
                      refine take0 (i := 2) (v := .pointer (some ⟨p, 0, none⟩)) rfl (by kernel_rfl) (by kernel_rfl) (by kernel_rfl) (by decide) (fun _ _ _ h => h) (Or.inl ⟨by rfl, fun wS _ => ?_⟩) hT ?_
                      · go_simp
                      refine take0 (i := 4) (v := .pointer (some ⟨p, 0, none⟩)) rfl (by kernel_rfl) (by kernel_rfl) (by kernel_rfl) (by decide) (fun _ _ _ h => h) (Or.inl ⟨by rfl, fun wS _ => ?_⟩) hT ?_
                      · go_simp
                      refine take0 (i := 6) (v := .pointer (some ⟨p, 0, none⟩)) rfl (by kernel_rfl) (by kernel_rfl) (by kernel_rfl) (by decide) (fun _ _ _ h => h) (Or.inl ⟨by rfl, fun wS _ => ?_⟩) hT ?_
                      · go_simp
                      have hHU := HU.out
                      have HFB : Hid (ImgM.rdMany ImgM.rdIns N2 r7 = none → ∀ w', Keeps (fun i => i = p) w w' → UnitSaid p l w Bad w') := Lib.hid fun hn w' hk => ⟨hk, by rw [hn] at hHU; rw [hHU]⟩
                      obtain ⟨j, hj⟩ : ∃ j, N2 - t = j + 1 := ⟨N2 - t - 1, by omega⟩
                      have hrd := HRD.out
                      rw [hj] at hrd
                      have HJ := Lib.hid hj
                      clear hHU hj
                      refine oneT (i := 3) (by kernel_rfl) rfl (fun K hK => ?_)
                      go_simp
                      cases h1 : ImgM.rdNum r with
                      | none =>
                        have hn : ImgM.rdIns r = none := by simp [ImgM.rdIns, h1]
                        have HFF := Lib.hid (HFB.out (hrd.trans (pre_no hn)))
                        refine (int_no hrW hb h1).mono ?_
                        rintro e w9 ⟨rfl, hk9⟩
                        have HF := Lib.hid (HFF.out w9 (hkW.trans hk9 (fun _ _ h => h)))
                        clear hk9 hrd hn hrW hkW hCW hT h1 hb hl HFB
                        go_wp2
                        exact ⟨rfl, HF.out⟩
                      | some x =>
                        obtain ⟨y1, s1⟩ := x
                        obtain ⟨hq1, -⟩ := ImgM.pair_num.back r y1 s1 hb h1
                        have hb1 := ImgM.in_rest hb hq1
                        have hl1 : s1.length ≤ 100000 := by rw [hq1, List.length_append] at hl; omega
                        refine (int_yes hrW hb h1).mono ?_
                        rintro e w9 ⟨rfl, hk9, v9, n9, hr9⟩
                        have hkX := hkW.trans hk9 (fun _ _ h => h)
                        have hC9 := hCW.keep hk9 (by omega)
                        have hT : w9.cell? ⟨q, 5, none⟩ = some cv := (hC9.cell 5).trans (by simp)
                        refine hK _ _ (.inr hT) ?_
                        have HX := Lib.hid (Keeps.trans (S := fun i => i = p) ((Keeps.refl _ wr).drew) hk9 (fun _ _ h => h))
                        clear hK K hrW hkW hCW hk9 hq1
                        refine oneT (i := 5) (by kernel_rfl) rfl (fun K hK => ?_)
                        go_simp
                        cases h2 : ImgM.rdNum s1 with
                        | none =>
                          have hn : ImgM.rdIns r = none := by simp [ImgM.rdIns, h1, h2]
                          have HFF := Lib.hid (HFB.out (hrd.trans (pre_no hn)))
                          refine (int_no hr9 hb1 h2).mono ?_
                          rintro e w10 ⟨rfl, hk10⟩
                          have HF := Lib.hid (HFF.out w10 (hkX.trans hk10 (fun _ _ h => h)))
                          clear hk10 hrd hn hr9 hkX hC9 hT h1 h2 hb hb1 hl hl1 HFB
                          go_wp2
                          exact ⟨rfl, HF.out⟩
                        | some x =>
                          obtain ⟨y2, s2⟩ := x
                          obtain ⟨hq2, -⟩ := ImgM.pair_num.back s1 y2 s2 hb1 h2
                          have hb2 := ImgM.in_rest hb1 hq2
                          have hl2 : s2.length ≤ 100000 := by rw [hq2, List.length_append] at hl1; omega
                          refine (int_yes hr9 hb1 h2).mono ?_
                          rintro e w10 ⟨rfl, hk10, v10, n10, hr10⟩
                          have hkY := hkX.trans hk10 (fun _ _ h => h)
                          have hC10 := hC9.keep hk10 (by omega)
                          have hT : w10.cell? ⟨q, 5, none⟩ = some cv := (hC10.cell 5).trans (by simp)
                          refine hK _ _ (.inr hT) ?_
                          have HX2 := Lib.hid (HX.out.trans hk10 (fun _ _ h => h))
                          clear hK K hr9 hkX hC9 hk10 hq2 HX
                          refine oneT (i := 7) (by kernel_rfl) rfl (fun K hK => ?_)
                          go_simp
                          cases h3 : ImgM.rdNum s2 with
                          | none =>
                            have hn : ImgM.rdIns r = none := by simp [ImgM.rdIns, h1, h2, h3]
                            have HFF := Lib.hid (HFB.out (hrd.trans (pre_no hn)))
                            refine (num_no hr10 hb2 h3).mono ?_
                            rintro e w11 ⟨rfl, hk11⟩
                            have HF := Lib.hid (HFF.out w11 (hkY.trans hk11 (fun _ _ h => h)))
                            clear hk11 hrd hn hr10 hkY hC10 hT h1 h2 h3 hb hb1 hb2 hl hl1 hl2 HFB
                            go_wp2
                            exact ⟨rfl, HF.out⟩
                          | some x =>
                            obtain ⟨y3, s3⟩ := x
                            obtain ⟨hq3, -⟩ := ImgM.pair_num.back s2 y3 s3 hb2 h3
                            have hb3 := ImgM.in_rest hb2 hq3
                            have hl3 : s3.length ≤ 100000 := by rw [hq3, List.length_append] at hl2; omega
                            refine (num_yes hr10 hb2 h3).mono ?_
                            rintro e w11 ⟨rfl, hk11, v11, n11, hr11⟩
                            have hkZ := hkY.trans hk11 (fun _ _ h => h)
                            have hC11 := hC10.keep hk11 (by omega)
                            have hT : w11.cell? ⟨q, 5, none⟩ = some cv := (hC11.cell 5).trans (by simp)
                            refine hK _ _ (.inr hT) ?_
                            have hX3 := HX2.out.trans hk11 (fun _ _ h => h)
                            have hy : ImgM.rdIns r = some (⟨y1, y2, y3⟩, s3) := by simp [ImgM.rdIns, h1, h2, h3]
                            rw [pre_yes hy] at hrd
                            have HR := Lib.hid (And.intro hrd (And.intro hb3 hl3))
                            obtain ⟨hO, hown⟩ := HOO.out
                            obtain ⟨hB, -⟩ := HBC.out
                            have hO11 := hO.keep hX3 (fun b h1 h2 => by have := (hO.lt b h1).1; omega)
                            have hw11 := hown.keep hX3 (fun b h1 h2 => by have := (hown.lt b h1).1; omega)
                            have hB11 := hB.keep hX3 (by omega)
                            have hz11 := hX3.size
                            clear hK K hr10 hkY hC10 hk11 hq3 HX2 hX3 hO hown hB HOO HBC hrd hy h1 h2 h3 hb hb1 hb2 hb3 hl hl1 hl2 hl3 HFB
                            refine oneT (i := 8) (by kernel_rfl) rfl (fun K hK => ?_)
                            go_simp
                            refine hK _ _ (.inr hT) ?_
                            clear hK K
                            refine oneT (i := 9) (by kernel_rfl) rfl (fun K hK => ?_)
                            go_simp
                            refine hK _ _ (.inr (((hC11.alloc _).cell 5).trans (by simp))) ?_
                            clear hK K
                            refine oneT (i := 10) (by kernel_rfl) rfl (fun K hK => ?_)
                            refine ownStep1 rfl _ _ 84 rfl (q + 1) 89 (.agg #[.int .i64 0, .int .i64 0, .int .i64 0]) 3 24 Try.underlying84 (by kernel_rfl) rfl (by decide) cv t (codeC ys) rfl (Own.alloc hw11 _) _ _ [.int .i64 y1, .int .i64 y2, .int .i64 y3] rfl (Blk.new' (by simp)) rfl (by simp [Value.oneCell']) (by unfold maxLen; omega) (by omega) (by simp; omega) ?_
                            intro v12 w12 hown12 hk12 hat12
                            obtain ⟨a12, k12, rfl, -⟩ := (hown12.row (by omega)).shape
                            refine hK _ _ (.inl (by kernel_rfl)) ?_
                            clear hK K
                            have hne12 : ¬ cv.ownBlock = some q := fun h => by have := (hw11.lt _ h).1; omega
                            have b12 := (hC11.alloc (.cells #[.int .i64 y1, .int .i64 y2, .int .i64 y3] 89)).keep hk12 hne12
                            have c5 := b12.cell 5
                            have f5 := b12.free 5
                            have l5 := b12.lt
                            simp at c5
                            refine oneT (i := 11) (by kernel_rfl) rfl (fun K hK => ?_)
                            go_simp
                            refine hK _ _ (.inl (by kernel_rfl)) ?_
                            clear hK K
                            refine oneT (i := 12) (by kernel_rfl) rfl (fun K hK => ?_)
                            go_simp
                            refine hK _ _ (.inl (by kernel_rfl)) ?_
                            clear hK K
                            refine doneT (by kernel_rfl) ?_ _
                            have hz12 := hk12.size
                            simp at hz12
                            have hkN : Keeps (fun i => i = q ∨ cv.ownBlock = some i) w11 (w12.setCell ⟨q, 5, none⟩ (.slice a12 (t + 1) k12)) :=
                              Keeps.setCell (S := fun i => i = q ∨ cv.ownBlock = some i) ((((Keeps.refl _ _).alloc _).trans hk12 (fun i _ h => Or.inr h))) (fun _ => .inl rfl) _
                            have hS : ∀ b, b < q → ¬ (b = q ∨ cv.ownBlock = some b) := fun b hb h => by rcases h with h | h; (omega); (have := (hw11.lt b h).1; omega)
                            have hpq : p < q := by omega
                            have hkq : Keeps (fun i => i = q) w12 (w12.setCell ⟨q, 5, none⟩ (.slice a12 (t + 1) k12)) := Keeps.setCell (S := fun i => i = q) (Keeps.refl _ _) (fun _ => rfl) _
                            have g1 : Keeps (fun i => i = p) w (w12.setCell ⟨q, 5, none⟩ (.slice a12 (t + 1) k12)) := hkZ.trans hkN (fun i hi h => absurd h (hS i (by omega)))
                            have g2 := hr11.keep hkN (fun b hb => hS b (by omega))
                            have g3 := hB11.keep hkN (hS _ (by omega))
                            have g4 : Blk (w12.setCell ⟨q, 5, none⟩ (.slice a12 (t + 1) k12)) q #[.int .i64 x1, .int .i64 x2, lv, .int .i64 x3, .int .i64 x4, .slice a12 (t + 1) k12] 86 := (b12.set 5 _).to rfl (by simp)
                            have g5 := hown12.keep hkq (fun b h1 h2 => by have := (hown12.lt b h1).1; omega)
                            have hsp := hsep.out
                            have g6 := hO11.keep hkN (fun b h1 h2 => by rcases h2 with h2 | h2; (have := (hO11.lt b h1).1; omega); exact hsp b h1 h2)
                            have g7 : ∀ b, lv.ownBlock = some b → (Value.slice a12 (t + 1) k12).ownBlock ≠ some b := fun b h1 h2 => by
                              rcases hat12 with h | h
                              · exact hsp b h1 (by rw [← h]; exact h2)
                              · have := h b h2
                                have := (hO11.lt b h1).2
                                simp at *
                                omega
                            have HFin := Lib.hid (And.intro g1 (And.intro g2 (And.intro g3 (And.intro g4 (And.intro g5 (And.intro g6 g7))))))
                            clear g1 g2 g3 g4 g5 g6 g7 hkN hS hkq hsp b12 c5 f5 l5 hne12 hown12 hk12 hat12 hO11 hw11 hB11 hr11 hC11 hkZ hT
                            go_wp2
                            go_roundw
                            case rel =>
                              obtain ⟨g1, g2, g3, g4, g5, g6, g7⟩ := HFin.out
                              refine ⟨t + 1, _, _, _, ys ++ [⟨y1, y2, y3⟩], s3, by omega, by go_num, g1, g2, g4.lt, g3, g4, g6, ?_, Lib.hid g7, Lib.hid ?_⟩
                              · simpa [codeC, insC] using g5
                              · have := HR.out
                                rw [show N2 - (t + 1) = j by have := HJ.out; omega]
                                exact this
                            case measure => simp [intOf]; omega
                    · obtain rfl : t = N2 := by omega
                      rw [Nat.sub_self, pre_end] at hrd
                      have hu := HU.out
                      rw [hrd] at hu
                      simp only at hu
                      obtain ⟨la, lc, rfl, -⟩ := (hO.row (by omega)).shape
                      obtain ⟨ca, cc, rfl, -⟩ := (hown.row (by omega)).shape
                      have hxl := hown.len
                      have hyl : ys.length = t := by
                        have : ∀ z : List ImgM.Ins, (codeC z).length = z.length * 3 := by
                          intro z
                          induction z with
                          | nil => rfl
                          | cons a z ih => simp [codeC, insC] at ih ⊢; omega
                        rw [this] at hxl
                        omega
                      have hxl2 := HXL.out
                      have e0 := hC.cell 0
                      have e1 := hC.cell 1
                      have e2 := hC.cell 2
                      have e3 := hC.cell 3
                      have e4 := hC.cell 4
                      have e5 := hC.cell 5
                      have d0 := hB.cell 0
                      have d1 := hB.cell 1
                      have d2 := hB.cell 2
                      have d3 := hB.cell 3
                      have d4 := hB.cell 4
                      have d5 := hB.cell 5
                      have f0 := hB.free 0
                      have f1 := hB.free 1
                      have f2 := hB.free 2
                      have f3 := hB.free 3
                      have f4 := hB.free 4
                      have f5 := hB.free 5
                      have lB := hB.lt
                      simp at e0 e1 e2 e3 e4 e5 d0 d1 d2 d3 d4 d5
                      have hset : ∀ w' : World, Keeps (fun i => i = w.heap.size) wr w' → UnitSaid p l w (.returned (.agg #[.int .i64 x1, .int .i64 x2, .slice la k lc, .int .i64 x3, .int .i64 x4, .slice ca t cc])) w' := fun w' hk => by
                        refine ⟨hkw.trans hk (fun i hi h => by omega), ?_⟩
                        rw [hu]
                        have hr' := hr.keep hk (fun b hb => by omega)
                        have hO' := (hO.keep hk (fun b h1 h2 => by have := (hO.lt b h1).1; omega)).mono (base' := w.heap.size) (by omega)
                        have hC' := (hown.keep hk (fun b h1 h2 => by have := (hown.lt b h1).1; omega)).mono (base' := w.heap.size) (by omega)
                        rw [← hxl2] at hO'
                        rw [← hyl] at hC'
                        refine ⟨_, _, _, _, ?_, hr', hO', hC'⟩
                        rw [← hxl2, ← hyl]
                      have HA := Lib.hid hset
                      clear hset hu hO hown hr hkw hrd hB hC hb hl hxl hyl hxl2
                      go_wp2
                      refine bodyPost_ret (v := .agg #[.int .i64 x1, .int .i64 x2, .slice la k lc, .int .i64 x3, .int .i64 x4, .slice ca t cc]) (by simp [results, Try.results51, go_sem, lB, d0, d1, d2, d3, d4, d5, f0, f1, f2, f3, f4, f5]) rfl (HA.out _ ?_)
                      repeat (first | exact Keeps.refl _ _ | refine Keeps.setCell (S := fun i => i = w.heap.size) ?_ (fun _ => rfl) _)
end Go.Proofs.Ytninmkkcphnniaa.Img
