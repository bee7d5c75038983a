/- The law ImageTells: its walk. -/
import Derived.Test.YtninmkkcphnniaaImgTurn
import Derived.Test.YtninmkkcphnniaaTellBytes
import Derived.Test.YtninmkkcphnniaaTellWalk2
namespace Go.Proofs.Ytninmkkcphnniaa.Img
open Go.RowKit ImgM
set_option linter.unusedVariables false
set_option linter.unusedSimpArgs false

theorem row_u8c' {w : World} {ao : Option Addr} {n cap : Nat} {bs : List Nat} (h : Row w (.slice ao n cap) 1 n (u8s bs)) : Row w (.slice ao n cap) (sz u8c) n (bs.flatMap u8c) := Wlk.row_u8c.2 h
theorem ints_are (l : List Int) : l.flatMap i64c = i64s l := by
  induction l with
  | nil => rfl
  | cons a r ih => rw [List.flatMap_cons, ih]; rfl
theorem mod_of {w : World} (s : Wlk.PR) (h : Mem w s.mem) : ModAt w (.agg #[.slice s.bo s.bx.length s.bc, .slice s.uo s.us.length s.uc]) ⟨s.bx, s.us.map (·.u)⟩ := by
  obtain ⟨hB, -⟩ := arr_holds.1 (h.has .head)
  obtain ⟨hU, -⟩ := arr_holds.1 (h.has (.tail .head))
  obtain ⟨hI, -⟩ := bag_holds.1 (h.has (.tail (.tail .head)))
  have hU6 : Row w (.slice s.uo s.us.length s.uc) 6 s.us.length (s.us.flatMap Wlk.ucell) := hU.row (by decide)
  refine ⟨_, _, _, rfl, hB.row (by decide), by simpa using hU6, fun k hk => ?_⟩
  simp only [List.length_map] at hk
  have e : ((s.us.flatMap Wlk.ucell).drop (k * 6)).take 6 = Wlk.ucell (s.us.getD k default) := by
    have h1 := flatMap_drop Wlk.ucell s.us k
    have h2 := flatMap_take Wlk.ucell (s.us.drop k) 1
    simp only [show sz Wlk.ucell = 6 from rfl, Nat.one_mul] at h1 h2
    rw [h1, h2]
    have : s.us.drop k = s.us.getD k default :: s.us.drop (k + 1) := by
      rw [← List.getElem_cons_drop (h := hk)]
      simp [List.getD_eq_getElem?_getD, hk]
    rw [this]
    simp
  have hx : s.us.getD k default ∈ s.us := by
    rw [List.getD_eq_getElem?_getD, List.getElem?_eq_getElem hk]
    simp
  have hd : (s.us.map (·.u)).getD k default = (s.us.getD k default).u := by
    simp [List.getD_eq_getElem?_getD, hk]
  rw [hd]
  generalize s.us.getD k default = x at *
  have h1 := arr_holds.1 (hI.all _ (List.mem_flatMap.2 ⟨x, hx, List.mem_cons_self⟩))
  have h2 := arr_holds.1 (hI.all _ (List.mem_flatMap.2 ⟨x, hx, List.mem_cons_of_mem _ List.mem_cons_self⟩))
  refine ⟨_, _, e, ?_, ?_⟩
  · have := h1.1.row (by decide)
    rw [ints_are] at this
    exact this
  · exact h2.1.row (by decide)
theorem ref_parse (v : Value) (bs : List Nat) (w : World) (hv : Row w v 1 bs.length (u8s bs)) (hb : ∀ c ∈ bs, c < 256) :
    Calls Try.prog 28 #[v] w (ParseSaid bs w) := by
  have hnm : bs.length ≤ 9223372036854775807 := hv.2.1
  obtain ⟨oa, oc, rfl, -, -⟩ := hv.shape
  have h := Wlk.parse_is oa bs.length oc bs hb rfl hnm
  unfold Fn at h
  have hm : Mem w ([rd oa bs.length oc u8c bs] ++ []) := ⟨by simp only [List.append_nil, List.mem_singleton, forall_eq]; exact rd_holds.2 ⟨row_u8c' hv, rfl⟩, by simp⟩
  refine (h w hm).mono ?_
  rintro e w' ⟨s, hp, rfl, -, hm'⟩
  have hk : Keeps Nil w w' := (old_holds.1 (hm'.has .head)).mono (fun i _ hi => by obtain ⟨c, hc, -⟩ := hi; simp at hc)
  refine ⟨hk, ?_⟩
  unfold Wlk.Parsed at hp
  cases hq : ImgM.parse bs with
  | inl x => rw [hq] at hp; subst hp; rfl
  | inr N =>
    rw [hq] at hp
    obtain ⟨h1, rfl⟩ := hp
    refine ⟨_, ?_, mod_of s (hm'.sub (List.sublist_cons_self _ _))⟩
    simp only [Wlk.PR.val, h1]

/-- what both answer of bytes -/
def B0 (M : ImgM.Mdl) : List Nat := if (ImgM.bytes M).length ≤ 60000 then ImgM.bytes M else []
def E0 (M : ImgM.Mdl) : Int := if (ImgM.bytes M).length ≤ 60000 then 0 else 4
def BothB (E : Int) (B : List Nat) (w : World) (e : Ending) (w' : World) : Prop := Keeps Nil w w' ∧ ∃ a n cap, e = .returned (.tuple #[.slice a n cap, .int .i64 E]) ∧ Row w' (.slice a n cap) 1 n (u8s B)
theorem row_nil (w : World) : Row w (.slice none 0 0) 1 0 (u8s []) := ⟨rfl, Nat.zero_le _, none, 0, rfl, Nat.le_refl _, fun h => by simp at h⟩
theorem both1 {M : ImgM.Mdl} {w w' : World} {e : Ending} (h : Said M w e w') : BothB (E0 M) (B0 M) w e w' := by
  obtain ⟨h1, ⟨h2, v', rfl, ho⟩ | ⟨h2, rfl⟩⟩ := h
  · have hr := ho.row (by omega)
    obtain ⟨ao, cap, rfl, -, -⟩ := hr.shape
    unfold BothB E0 B0
    rw [if_pos h2, if_pos h2]
    exact ⟨h1, _, _, _, rfl, hr⟩
  · unfold BothB E0 B0
    rw [if_neg (by omega), if_neg (by omega)]
    exact ⟨h1, _, _, _, rfl, row_nil _⟩
theorem both2 {M : ImgM.Mdl} {w w' : World} {e : Ending} (h : RSaid M w e w') : BothB (E0 M) (B0 M) w e w' := by
  obtain ⟨h1, ⟨h2, v', rfl, hr⟩ | ⟨h2, rfl⟩⟩ := h
  · obtain ⟨ao, cap, rfl, -, -⟩ := hr.shape
    unfold BothB E0 B0
    rw [if_pos h2, if_pos h2]
    exact ⟨h1, _, _, _, rfl, hr⟩
  · unfold BothB E0 B0
    rw [if_neg (by omega), if_neg (by omega)]
    exact ⟨h1, _, _, _, rfl, row_nil _⟩
def E1 (bs : List Nat) : Int := match ImgM.parse bs with
  | .inl x => x
  | .inr _ => 0
def M1 (bs : List Nat) : ImgM.Mdl := match ImgM.parse bs with
  | .inl _ => ⟨[], []⟩
  | .inr M => M
def BothP (E : Int) (M : ImgM.Mdl) (w : World) (e : Ending) (w' : World) : Prop := Keeps Nil w w' ∧ ∃ b1 b2 b3 u1 u2 u3, e = .returned (.tuple #[.agg #[.slice b1 b2 b3, .slice u1 u2 u3], .int .i64 E]) ∧ ModAt w' (.agg #[.slice b1 b2 b3, .slice u1 u2 u3]) M
theorem both3 {bs : List Nat} {w w' : World} {e : Ending} (h : ParseSaid bs w e w') : BothP (E1 bs) (M1 bs) w e w' := by
  unfold ParseSaid at h
  unfold BothP E1 M1
  obtain ⟨h1, h2⟩ := h
  cases hp : ImgM.parse bs with
  | inl x =>
    rw [hp] at h2
    simp only at h2 ⊢
    exact ⟨h1, _, _, _, _, _, _, h2, _, _, [], rfl, ⟨rfl, Nat.zero_le _, none, 0, rfl, Nat.le_refl _, fun h => by simp at h⟩, ⟨rfl, Nat.zero_le _, none, 0, rfl, Nat.le_refl _, fun h => by simp at h⟩, fun k hk => by simp at hk⟩
  | inr M =>
    rw [hp] at h2
    simp only at h2 ⊢
    obtain ⟨mv, rfl, hM⟩ := h2
    have hM' := hM
    obtain ⟨bv, uv, ucs, rfl, p1, p2, -⟩ := hM
    obtain ⟨r1, r2, rfl, -, -⟩ := p1.shape
    obtain ⟨r3, r4, rfl, -, -⟩ := p2.shape
    exact ⟨h1, _, _, _, _, _, _, rfl, hM'⟩

set_option maxRecDepth 100000 in
set_option maxHeartbeats 4000000 in
theorem tells (v b : Value) (M : ImgM.Mdl) (bs : List Nat) (w : World) (hM : ModAt w v M) (hwf : Wf M) (hsz : (ImgM.mdlN M).length ≤ 1000000000000)
    (hb : Row w b 1 bs.length (u8s bs)) (hbs : ∀ c ∈ bs, c < 256) :
    Calls Try.prog 10 #[v, b] w fun e w' => e = .returned (.bool true) ∧ Below w.heap.size w w' := by
  obtain ⟨E, B, HB1, HB2⟩ : ∃ E B, Hid (∀ w0, Keeps Nil w w0 → Calls Try.prog 22 #[v] w0 (BothB E B w0)) ∧ Hid (∀ w0, Keeps Nil w w0 → Calls Try.prog 23 #[v] w0 (BothB E B w0)) :=
    ⟨E0 M, B0 M, Lib.hid fun w0 hk => (bytes_any v M w0 (hM.keep hk) hwf hsz).mono fun e w' h => both1 h, Lib.hid fun w0 hk => (ref_bytes v M w0 (hM.keep hk) hwf hsz).mono fun e w' h => both2 h⟩
  obtain ⟨E', M', HP1, HP2⟩ : ∃ E M', Hid (∀ w0, Keeps Nil w w0 → Calls Try.prog 27 #[b] w0 (BothP E M' w0)) ∧ Hid (∀ w0, Keeps Nil w w0 → Calls Try.prog 28 #[b] w0 (BothP E M' w0)) :=
    ⟨E1 bs, M1 bs, Lib.hid fun w0 hk => (parse_any b bs w0 (hb.keep hk (fun _ _ h => h)) hbs).mono fun e w' h => both3 h, Lib.hid fun w0 hk => (ref_parse b bs w0 (hb.keep hk (fun _ _ h => h)) hbs).mono fun e w' h => both3 h⟩
  obtain ⟨C, HS1, HS2⟩ : ∃ C : Nat, Hid (∀ w0, Keeps Nil w w0 → Calls Try.prog 25 #[b] w0 fun e w' => e = .returned (.int .u16 (C : Int)) ∧ w0 = w') ∧ Hid (∀ w0, Keeps Nil w w0 → Calls Try.prog 26 #[b] w0 fun e w' => e = .returned (.int .u16 (C : Int)) ∧ w0 = w') :=
    ⟨ImgM.crc bs, Lib.hid fun w0 hk => sum_any b _ bs w0 (hb.keep hk (fun _ _ h => h)) hbs, Lib.hid fun w0 hk => ref_sum b _ bs w0 (hb.keep hk (fun _ _ h => h)) hbs⟩
  obtain ⟨bv, uv, ucs, rfl, -⟩ := hM
  clear hwf hsz hb hbs
  go_enter Try.func10, Try.ntmps10
  go_wp2_with fail
  refine (HB1.out _ ((Keeps.refl _ _).alloc _)).mono ?_
  rintro e w0 ⟨hk0, a1, n1, c1, rfl, hr1⟩
  have hk1 : Keeps Nil w w0 := ((Keeps.refl _ _).alloc _).trans hk0 (fun _ _ h => h)
  have hbx : Blk w0 w.heap.size #[bv, uv] 51 := (Blk.new w _ _).keep hk0 (fun h => h)
  have x0 := hbx.cell 0
  have x1 := hbx.cell 1
  simp at x0 x1
  have HR1 := Lib.hid hr1
  clear hk0 hbx hr1
  go_wp2_with fail
  refine (HB2.out w0 hk1).mono ?_
  rintro e w1 ⟨hk2, a2, n2, c2, rfl, hr2⟩
  have HK1 := Lib.hid (hk1.trans hk2 (fun _ _ h => h))
  have HS := Lib.hid ((same_u8 _ _ _ _ (B.map Int.ofNat) (B.map Int.ofNat) w1 (u8_row (HR1.out.keep hk2 (fun _ _ h => h))) (u8_row hr2)).mono (R' := fun e w' => e = .returned (.bool true) ∧ Keeps Nil w1 w') fun e w'' ⟨h1, q, h2⟩ => ⟨by rw [h1]; simp, by rw [h2]; exact (Keeps.refl _ _).drewN q⟩)
  clear x0 x1 hk1 hk2 hr2
  go_wp2_with fail
  refine HS.out.mono ?_
  rintro e w2 ⟨rfl, hk2⟩
  have HK2 := Lib.hid (HK1.out.trans hk2 (fun _ _ h => h))
  clear hk2
  go_wp2_with fail
  refine (HS1.out w2 HK2.out).mono ?_
  rintro e w' ⟨rfl, rfl⟩
  go_wp2_with fail
  refine (HS2.out w2 HK2.out).mono ?_
  rintro e w' ⟨rfl, rfl⟩
  go_wp2_with fail
  refine (HP1.out w2 HK2.out).mono ?_
  rintro e w3 ⟨hk3, b1, b2, b3, u1, u2, u3, rfl, hm3⟩
  have HK3 := Lib.hid (HK2.out.trans hk3 (fun _ _ h => h))
  have HM3 := Lib.hid hm3
  clear hk3 hm3
  go_wp2_with fail
  have hk3a : Keeps Nil w (w3.alloc (.cells #[.slice b1 b2 b3, .slice u1 u2 u3] 51)) := HK3.out.alloc _
  refine (HP2.out _ hk3a).mono ?_
  rintro e w4 ⟨hk4, d1, d2, d3, v1, v2, v3, rfl, hm4⟩
  have HS := Lib.hid (show ∀ w5, Keeps Nil w4 w5 → Calls Try.prog 29 #[.agg #[.slice b1 b2 b3, .slice u1 u2 u3], .agg #[.slice d1 d2 d3, .slice v1 v2 v3]] w5 fun e w6 => e = .returned (.bool true) ∧ Keeps Nil w5 w6 from
    fun w5 hk5 => same_mod _ _ M' w5 (HM3.out.keep ((((Keeps.refl _ _).alloc _).trans hk4 (fun _ _ h => h)).trans hk5 (fun _ _ h => h))) (hm4.keep hk5))
  have hby : Blk w4 w3.heap.size #[.slice b1 b2 b3, .slice u1 u2 u3] 51 := (Blk.new w3 _ _).keep hk4 (fun h => h)
  have y0 := hby.cell 0
  have y1 := hby.cell 1
  have l1 := hby.lt
  simp at y0 y1
  have HK4 := Lib.hid (hk3a.trans hk4 (fun _ _ h => h))
  clear hk3a hk4 hm4 hby
  go_wp2_with fail
  refine (HS.out _ ((Keeps.refl _ _).alloc _)).mono ?_
  rintro e w5 ⟨rfl, hk5⟩
  have HK5 := Lib.hid ((HK4.out.alloc _).trans hk5 (fun _ _ h => h))
  clear hk5 y0 y1 l1
  go_wp2
  go_ret
  exact ⟨rfl, HK5.out.below (Nat.le_refl _) (fun i h => h.elim)⟩
end Go.Proofs.Ytninmkkcphnniaa.Img
