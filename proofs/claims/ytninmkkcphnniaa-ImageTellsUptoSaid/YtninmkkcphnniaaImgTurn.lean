/- The law ImageTurns: its walk. -/
import Derived.Test.YtninmkkcphnniaaImgAny
import Derived.Test.YtninmkkcphnniaaImgSame
import Derived.Test.YtninmkkcphnniaaImgLaw3
namespace Go.Proofs.Ytninmkkcphnniaa.ImgM

theorem key_len : ∀ l : List Int, l.length ≤ (nums l).length := by
  intro l
  induction l with
  | nil => simp
  | cons a r ih => rw [nums_cons, List.length_append]; have := num_pos a; simp; omega

theorem wf_ok (m : Mdl) : okMdl m ↔ ∀ n ∈ mdlN m, In64 n := by
  unfold okMdl okUnt mdlN
  constructor
  · rintro ⟨⟨h1, h2⟩, h3, h4⟩ n hn
    simp only [List.mem_append, List.mem_cons, List.mem_flatMap] at hn
    rcases hn with (rfl | ⟨b, hb, hn⟩) | rfl | ⟨u, hu, hn⟩
    · exact h1
    · have := h2 b hb
      simp [boxN] at hn
      rcases hn with rfl | rfl
      · exact this.1
      · exact this.2
    · exact h3
    · obtain ⟨g1, g2, ⟨g3, g4⟩, g5, g6, g7, g8⟩ := h4 u hu
      simp only [untN, codeN, List.mem_append, List.mem_cons, List.mem_flatMap, List.not_mem_nil, or_false] at hn
      rcases hn with (((rfl | rfl) | rfl | hn) | rfl | rfl | rfl) | ⟨i, hi, hn⟩
      · exact g1
      · exact g2
      · exact g3
      · exact g4 n hn
      · exact g5
      · exact g6
      · exact g7
      · have := g8 i hi
        simp [insN] at hn
        rcases hn with rfl | rfl | rfl
        · exact this.1
        · exact this.2.1
        · exact this.2.2
  · intro h
    refine ⟨⟨h _ (by simp), fun b hb => ⟨h _ ?_, h _ ?_⟩⟩, h _ (by simp), fun u hu => ?_⟩
    · simp only [List.mem_append, List.mem_cons, List.mem_flatMap]
      exact .inl (.inr ⟨b, hb, by simp [boxN]⟩)
    · simp only [List.mem_append, List.mem_cons, List.mem_flatMap]
      exact .inl (.inr ⟨b, hb, by simp [boxN]⟩)
    · have hu' : ∀ n ∈ untN u, In64 n := fun n hn => h n (by
        simp only [List.mem_append, List.mem_cons, List.mem_flatMap]
        exact .inr (.inr ⟨u, hu, hn⟩))
      simp only [untN, codeN, List.mem_append, List.mem_cons, List.mem_flatMap, List.not_mem_nil, or_false] at hu'
      refine ⟨hu' _ (by simp), hu' _ (by simp), ⟨hu' _ (by simp), fun n hn => hu' n (by simp [hn])⟩, hu' _ (by simp), hu' _ (by simp), hu' _ (by simp), fun i hi => ⟨hu' _ (.inr ⟨i, hi, ?_⟩), hu' _ (.inr ⟨i, hi, ?_⟩), hu' _ (.inr ⟨i, hi, ?_⟩)⟩⟩
      all_goals simp [insN]

end Go.Proofs.Ytninmkkcphnniaa.ImgM
namespace Go.Proofs.Ytninmkkcphnniaa.Img
open Go.RowKit ImgM
set_option linter.unusedVariables false
set_option linter.unusedSimpArgs false

theorem mdl_short (m : ImgM.Mdl) : (mdlN m).length + 2 ≤ (ImgM.bytes m).length := by
  have := key_len (mdlN m)
  simp [ImgM.bytes, body]
  omega

theorem parse_inl {bs : List Nat} {x : Int} (h : ImgM.parse bs = .inl x) : x = 4 ∨ x = 2 ∨ x = 8 := by
  unfold ImgM.parse at h
  split at h
  · cases h; simp
  split at h
  · cases h; simp
  split at h
  · cases h; simp
  split at h
  · cases h; simp
  split at h
  · cases h
  · cases h; simp

theorem u8_row {w : World} {v : Value} {n : Nat} {bs : List Nat} (h : Row w v 1 n (u8s bs)) : Row w v 1 n ((bs.map Int.ofNat).map (Value.int .u8)) := by
  have e : (bs.map Int.ofNat).map (Value.int .u8) = u8s bs := by simp [u8s]
  rw [e]
  exact h

theorem bytes_lt (M : ImgM.Mdl) : ∀ c ∈ ImgM.bytes M, c < 256 := by
  intro c hc
  simp only [ImgM.bytes, List.mem_append, List.mem_cons, List.not_mem_nil, or_false] at hc
  have := ImgM.crc_lt (ImgM.body M)
  rcases hc with hc | rfl | rfl
  · exact ImgM.nums_byte _ c hc
  · omega
  · omega

set_option maxRecDepth 100000 in
set_option maxHeartbeats 4000000 in
theorem turns_much (v b : Value) (M : ImgM.Mdl) (bs : List Nat) (w : World) (hM : ModAt w v M) (hwf : Wf M) (hsz : (ImgM.mdlN M).length ≤ 1000000000000) (hl : 60000 < (ImgM.bytes M).length)
    (hb : Row w b 1 bs.length (u8s bs)) (hbs : ∀ c ∈ bs, c < 256) :
    Calls Try.prog 11 #[v, b] w fun e w' => e = .returned (.bool true) ∧ Below w.heap.size w w' := by
  have HBY := Lib.hid (show ∀ w0, Keeps Nil w w0 → Calls Try.prog 22 #[v] w0 fun e w' => Keeps Nil w0 w' ∧ e = .returned (.tuple #[.slice none 0 0, .int .i64 4]) from fun w0 hk =>
    (bytes_any v M w0 (hM.keep hk) hwf hsz).mono fun e w' ⟨h1, h2⟩ => ⟨h1, by rcases h2 with ⟨h, -⟩ | ⟨-, h⟩; omega; exact h⟩)
  have HPB := Lib.hid (show ∀ w0, Keeps Nil w w0 → Calls Try.prog 27 #[b] w0 (ParseSaid bs w0) from fun w0 hk => parse_any b bs w0 (hb.keep hk (fun _ _ h => h)) hbs)
  have HBS := Lib.hid hbs
  have HRB := Lib.hid hb
  obtain ⟨bv, uv, ucs, rfl, -⟩ := hM
  obtain ⟨ba, bc, rfl, -, -⟩ := hb.shape
  generalize hbl : bs.length = nb at *
  have HBL := Lib.hid hbl
  clear hwf hsz hl hb hbs hbl
  go_enter Try.func11, Try.ntmps11
  go_wp2_with fail
  refine (alive_true _).mono ?_
  rintro e w0 ⟨rfl, hk0⟩
  have hk1 : Keeps Nil w w0 := ((Keeps.refl _ _).alloc _).trans hk0 (fun _ _ h => h)
  have hbx : Blk w0 w.heap.size #[bv, uv] 51 := (Blk.new w _ _).keep hk0 (fun h => h)
  have x0 := hbx.cell 0
  have x1 := hbx.cell 1
  simp at x0 x1
  clear hk0 hbx
  go_wp2_with fail
  refine (HBY.out w0 hk1).mono ?_
  rintro e w3 ⟨hk2, rfl⟩
  have hk3 := hk1.trans hk2 (fun _ _ h => h)
  clear x0 x1 hk1 hk2
  go_wp2_with fail
  refine (HPB.out w3 hk3).mono ?_
  rintro e w4 ⟨hk4, hs4⟩
  cases hp : ImgM.parse bs with
  | inl x =>
    rw [hp] at hs4
    simp only at hs4
    subst hs4
    have hk5 := Lib.hid (hk3.trans hk4 (fun _ _ h => h))
    rcases parse_inl hp with rfl | rfl | rfl
    all_goals
      clear hp hk4 hk3
      go_wp2
      go_ret
      exact ⟨rfl, (hk5.out.alloc _).below (Nat.le_refl _) (fun i h => h.elim)⟩
  | inr N =>
    rw [hp] at hs4
    simp only at hs4
    obtain ⟨mv, rfl, hN⟩ := hs4
    obtain ⟨hbN, hoN, hlN⟩ := ImgM.bytes_parse HBS.out hp
    have hk5 := hk3.trans hk4 (fun _ _ h => h)
    have HB2 : Hid (∀ w', Keeps Nil w4 w' → Calls Try.prog 22 #[mv] w' fun e w'' => Keeps Nil w w'' ∧ ∃ a n cap, e = .returned (.tuple #[.slice a n cap, .int .i64 0]) ∧ Row w'' (.slice a n cap) 1 n (u8s bs)) := Lib.hid fun w' hk' => by
      refine (bytes_any mv N w' (hN.keep hk') ⟨(wf_ok N).1 hoN⟩ (by have := mdl_short N; rw [hbN] at this; omega)).mono ?_
      rintro e w'' ⟨h1, ⟨-, v', rfl, ho⟩ | ⟨h, -⟩⟩
      · have hr := ho.row (by omega)
        obtain ⟨ao, cap, rfl, -, -⟩ := hr.shape
        rw [hbN] at hr
        exact ⟨(hk5.trans hk' (fun _ _ h => h)).trans h1 (fun _ _ h => h), _, _, _, rfl, by rw [hbN]; exact hr⟩
      · rw [hbN] at h; omega
    obtain ⟨bv2, uv2, ucs2, rfl, q1, q2, -⟩ := hN
    obtain ⟨r1, r2, rfl, -, -⟩ := q1.shape
    obtain ⟨r3, r4, rfl, -, -⟩ := q2.shape
    clear hp hk4 hk3 hk5 hbN hoN hlN q1 q2
    generalize N.boxes.length = n1 at *
    generalize N.units.length = n2 at *
    go_wp2_with fail
    refine (HB2.out _ ((Keeps.refl _ _).alloc _)).mono ?_
    rintro e w5 ⟨hk5, a5, n5, c5, rfl, hr5⟩
    have HS := Lib.hid ((same_u8 _ _ _ _ (bs.map Int.ofNat) (bs.map Int.ofNat) w5 (u8_row hr5) (u8_row (HRB.out.keep hk5 (fun _ _ h => h)))).mono (R' := fun e w' => e = .returned (.bool true) ∧ Keeps Nil w5 w') fun e w'' ⟨h1, q, h2⟩ => ⟨by rw [h1]; simp, by rw [h2]; exact (Keeps.refl _ _).drewN q⟩)
    have HK := Lib.hid hk5
    clear hk5 hr5
    go_wp2_with fail
    refine HS.out.mono ?_
    rintro e w6 ⟨rfl, hk6⟩
    have HK6 := Lib.hid (HK.out.trans hk6 (fun _ _ h => h))
    clear hk6
    go_wp2
    go_ret
    exact ⟨rfl, HK6.out.below (Nat.le_refl _) (fun i h => h.elim)⟩
set_option maxRecDepth 100000 in
set_option maxHeartbeats 4000000 in
theorem turns_in (v b : Value) (M : ImgM.Mdl) (bs : List Nat) (w : World) (hM : ModAt w v M) (hwf : Wf M) (hsz : (ImgM.mdlN M).length ≤ 1000000000000) (hl : (ImgM.bytes M).length ≤ 60000)
    (hb : Row w b 1 bs.length (u8s bs)) (hbs : ∀ c ∈ bs, c < 256) :
    Calls Try.prog 11 #[v, b] w fun e w' => e = .returned (.bool true) ∧ Below w.heap.size w w' := by
  have HBY := Lib.hid (show ∀ w0, Keeps Nil w w0 → Calls Try.prog 22 #[v] w0 fun e w' => Keeps Nil w0 w' ∧ ∃ a n cap, e = .returned (.tuple #[.slice a n cap, .int .i64 0]) ∧
      Calls Try.prog 27 #[.slice a n cap] w' fun e w'' => Keeps Nil w' w'' ∧ ∃ b1 b2 b3 u1 u2 u3, e = .returned (.tuple #[.agg #[.slice b1 b2 b3, .slice u1 u2 u3], .int .i64 0]) ∧
        ∀ w5, Keeps Nil w'' w5 → Calls Try.prog 29 #[v, .agg #[.slice b1 b2 b3, .slice u1 u2 u3]] w5 fun e w6 => e = .returned (.bool true) ∧ Keeps Nil w5 w6 from fun w0 hk => by
    refine (bytes_any v M w0 (hM.keep hk) hwf hsz).mono ?_
    rintro e w' ⟨h1, ⟨-, v', rfl, ho⟩ | ⟨h, -⟩⟩
    · have hr := ho.row (by omega)
      obtain ⟨ao, cap, rfl, -, -⟩ := hr.shape
      refine ⟨h1, _, _, _, rfl, (parse_any _ (ImgM.bytes M) w' hr (bytes_lt M)).mono ?_⟩
      rintro e w'' ⟨h2, h3⟩
      rw [ImgM.parse_bytes ((wf_ok M).2 hwf.nums) hl] at h3
      obtain ⟨mv, rfl, hmv⟩ := h3
      have hmv' := hmv
      obtain ⟨bv2, uv2, ucs2, rfl, q1, q2, -⟩ := hmv
      obtain ⟨r1, r2, rfl, -, -⟩ := q1.shape
      obtain ⟨r3, r4, rfl, -, -⟩ := q2.shape
      exact ⟨h2, _, _, _, _, _, _, rfl, fun w5 hk5 => same_mod _ _ M w5 (hM.keep (((hk.trans h1 (fun _ _ h => h)).trans h2 (fun _ _ h => h)).trans hk5 (fun _ _ h => h))) (hmv'.keep hk5)⟩
    · omega)
  have HPB := Lib.hid (show ∀ w0, Keeps Nil w w0 → Calls Try.prog 27 #[b] w0 (ParseSaid bs w0) from fun w0 hk => parse_any b bs w0 (hb.keep hk (fun _ _ h => h)) hbs)
  have HBS := Lib.hid hbs
  have HRB := Lib.hid hb
  obtain ⟨bv, uv, ucs, rfl, p1, p2, -⟩ := hM
  obtain ⟨s1, s2, rfl, -, -⟩ := p1.shape
  obtain ⟨s3, s4, rfl, -, -⟩ := p2.shape
  obtain ⟨ba, bc, rfl, -, -⟩ := hb.shape
  clear p1 p2
  generalize M.boxes.length = m1 at *
  generalize M.units.length = m2 at *
  generalize hbl : bs.length = nb at *
  have HBL := Lib.hid hbl
  clear hwf hsz hl hb hbs hbl
  go_enter Try.func11, Try.ntmps11
  go_wp2_with fail
  refine (alive_true _).mono ?_
  rintro e w0 ⟨rfl, hk0⟩
  have hk1 : Keeps Nil w w0 := ((Keeps.refl _ _).alloc _).trans hk0 (fun _ _ h => h)
  have hbx : Blk w0 w.heap.size #[.slice s1 m1 s2, .slice s3 m2 s4] 51 := (Blk.new w _ _).keep hk0 (fun h => h)
  have HBX : Hid (∀ w', Keeps Nil w0 w' → Blk w' w.heap.size #[.slice s1 m1 s2, .slice s3 m2 s4] 51) := Lib.hid fun w' hk => hbx.keep hk (fun h => h)
  have x0 := hbx.cell 0
  have x1 := hbx.cell 1
  simp at x0 x1
  have HK1 := Lib.hid hk1
  clear hk0 hbx
  have HBYW := Lib.hid (HBY.out w0 hk1)
  clear hk1
  go_wp2_with fail
  refine HBYW.out.mono ?_
  rintro e w1 ⟨hk2, a1, n1, c1, rfl, hP⟩
  have HP := Lib.hid hP
  have HK2 := Lib.hid hk2
  clear x0 x1 hk2 hP
  go_wp2_with fail
  refine HP.out.mono ?_
  rintro e w2 ⟨hk2, b1, b2, b3, u1, u2, u3, rfl, hS⟩
  have hk02 := HK2.out.trans hk2 (fun _ _ h => h)
  have HS := Lib.hid hS
  have HK2 := Lib.hid (HK1.out.trans hk02 (fun _ _ h => h))
  have bx2 := HBX.out w2 hk02
  have x0 := bx2.cell 0
  have x1 := bx2.cell 1
  have l1 := bx2.lt
  simp at x0 x1
  clear hk2 hS bx2 hk02
  go_wp2_with fail
  refine (HS.out _ ((Keeps.refl _ _).alloc _)).mono ?_
  rintro e w3 ⟨rfl, hk3⟩
  have HK3 := Lib.hid ((HK2.out.alloc _).trans hk3 (fun _ _ h => h))
  clear hk3 x0 x1 l1
  go_wp2_with fail
  have hk3 := HK3.out
  refine (HPB.out w3 hk3).mono ?_
  rintro e w4 ⟨hk4, hs4⟩
  cases hp : ImgM.parse bs with
  | inl x =>
    rw [hp] at hs4
    simp only at hs4
    subst hs4
    have hk5 := Lib.hid (hk3.trans hk4 (fun _ _ h => h))
    rcases parse_inl hp with rfl | rfl | rfl
    all_goals
      clear hp hk4 hk3
      go_wp2
      go_ret
      exact ⟨rfl, (hk5.out.alloc _).below (Nat.le_refl _) (fun i h => h.elim)⟩
  | inr N =>
    rw [hp] at hs4
    simp only at hs4
    obtain ⟨mv, rfl, hN⟩ := hs4
    obtain ⟨hbN, hoN, hlN⟩ := ImgM.bytes_parse HBS.out hp
    have hk5 := hk3.trans hk4 (fun _ _ h => h)
    have HB2 : Hid (∀ w', Keeps Nil w4 w' → Calls Try.prog 22 #[mv] w' fun e w'' => Keeps Nil w w'' ∧ ∃ a n cap, e = .returned (.tuple #[.slice a n cap, .int .i64 0]) ∧ Row w'' (.slice a n cap) 1 n (u8s bs)) := Lib.hid fun w' hk' => by
      refine (bytes_any mv N w' (hN.keep hk') ⟨(wf_ok N).1 hoN⟩ (by have := mdl_short N; rw [hbN] at this; omega)).mono ?_
      rintro e w'' ⟨h1, ⟨-, v', rfl, ho⟩ | ⟨h, -⟩⟩
      · have hr := ho.row (by omega)
        obtain ⟨ao, cap, rfl, -, -⟩ := hr.shape
        rw [hbN] at hr
        exact ⟨(hk5.trans hk' (fun _ _ h => h)).trans h1 (fun _ _ h => h), _, _, _, rfl, by rw [hbN]; exact hr⟩
      · rw [hbN] at h; omega
    obtain ⟨bv2, uv2, ucs2, rfl, q1, q2, -⟩ := hN
    obtain ⟨r1, r2, rfl, -, -⟩ := q1.shape
    obtain ⟨r3, r4, rfl, -, -⟩ := q2.shape
    clear hp hk4 hk3 hk5 hbN hoN hlN q1 q2
    generalize N.boxes.length = n1 at *
    generalize N.units.length = n2 at *
    go_wp2_with fail
    refine (HB2.out _ ((Keeps.refl _ _).alloc _)).mono ?_
    rintro e w5 ⟨hk5, a5, n5, c5, rfl, hr5⟩
    have HS := Lib.hid ((same_u8 _ _ _ _ (bs.map Int.ofNat) (bs.map Int.ofNat) w5 (u8_row hr5) (u8_row (HRB.out.keep hk5 (fun _ _ h => h)))).mono (R' := fun e w' => e = .returned (.bool true) ∧ Keeps Nil w5 w') fun e w'' ⟨h1, q, h2⟩ => ⟨by rw [h1]; simp, by rw [h2]; exact (Keeps.refl _ _).drewN q⟩)
    have HK := Lib.hid hk5
    clear hk5 hr5
    go_wp2_with fail
    refine HS.out.mono ?_
    rintro e w6 ⟨rfl, hk6⟩
    have HK6 := Lib.hid (HK.out.trans hk6 (fun _ _ h => h))
    clear hk6
    go_wp2
    go_ret
    exact ⟨rfl, HK6.out.below (Nat.le_refl _) (fun i h => h.elim)⟩
end Go.Proofs.Ytninmkkcphnniaa.Img
