/- image.Parse: its walk. -/
import Derived.Test.YtninmkkcphnniaaImgCatch
import Derived.Test.YtninmkkcphnniaaImgFit
import Derived.Test.YtninmkkcphnniaaRegion
namespace Go.Proofs.Ytninmkkcphnniaa.Img
open Go.RowKit
set_option linter.unusedVariables false
set_option linter.unusedSimpArgs false

abbrev TheDefer (B : Nat) : Deferred := { target := .fn (.func 48) #[.pointer (some ⟨B, 0, none⟩), .pointer (some ⟨B + 1, 0, none⟩)], args := #[] }

set_option maxRecDepth 100000 in
theorem door_bad (tmps : Array Value) (B : Nat) {R : Ending → World → Prop} (h2 : tmps.getD 2 undef = .pointer (some ⟨B, 0, none⟩)) (h3 : tmps.getD 3 undef = .pointer (some ⟨B + 1, 0, none⟩)) {w : World} {bv uv ev : Value}
    (hB : Blk w B #[bv, uv] 51) (hE : Blk w (B + 1) #[ev] 25)
    (hR : ∀ w', Keeps (fun i => i = B ∨ i = B + 1) w w' → R (.returned (.tuple #[.agg #[.slice none 0 0, .slice none 0 0], .int .i64 2])) w') :
    Leaves Try.prog Try.f27 tmps R [TheDefer B] (.panicking [{ v := .iface 95 (.agg #[]), recovered := false }]) w := by
  refine leaves_cons (f := 48) (args := #[.pointer (some ⟨B, 0, none⟩), .pointer (some ⟨B + 1, 0, none⟩)]) (by simp) (by simp [go_sem]) ?_
  refine (catch_bad B bv uv ev w hB hE).mono ?_
  rintro e u' w' ⟨rfl, rfl, hk, hb1, hb2⟩
  have m0 := hb1.cell 0
  have m1 := hb1.cell 1
  have m2 := hb2.cell 0
  simp at m0 m1 m2
  rw [Array.getD_eq_getD_getElem?] at h2 h3
  have HR := Lib.hid (hR w' hk)
  refine ⟨.tuple #[.agg #[.slice none 0 0, .slice none 0 0], .int .i64 2], ?_, HR.out⟩
  simp [results, Try.results27, go_sem, h2, h3, m0, m1, m2]

set_option maxRecDepth 100000 in
theorem door_ok (tmps : Array Value) (B : Nat) {R : Ending → World → Prop} (h2 : tmps.getD 2 undef = .pointer (some ⟨B, 0, none⟩)) (h3 : tmps.getD 3 undef = .pointer (some ⟨B + 1, 0, none⟩)) {w : World} {bv uv ev : Value}
    (m0 : w.cell? ⟨B, 0, none⟩ = some bv) (m1 : w.cell? ⟨B, 1, none⟩ = some uv) (m2 : w.cell? ⟨B + 1, 0, none⟩ = some ev)
    (hR : R (.returned (.tuple #[.agg #[bv, uv], ev])) w) :
    Leaves Try.prog Try.f27 tmps R [TheDefer B] .returning w := by
  refine leaves_cons (f := 48) (args := #[.pointer (some ⟨B, 0, none⟩), .pointer (some ⟨B + 1, 0, none⟩)]) (by simp) (by simp [go_sem]) ?_
  refine (catch_idle B w).mono ?_
  rintro e u' w' ⟨rfl, rfl, rfl⟩
  rw [Array.getD_eq_getD_getElem?] at h2 h3
  refine ⟨.tuple #[.agg #[bv, uv], ev], ?_, hR⟩
  simp [results, Try.results27, go_sem, h2, h3, m0, m1, m2]

theorem results_set (d : Nat) (h2 : d ≠ 2) (h3 : d ≠ 3) (tmps : Array Value) (v : Value) : results Try.f27 (tmps.setIfInBounds d v) = results Try.f27 tmps := by
  simp only [results, Try.results27]
  simp [Array.getElem?_setIfInBounds, h2, h3]

theorem leaves_set {tmps : Array Value} {R : Ending → World → Prop} (d : Nat) (h2 : d ≠ 2) (h3 : d ≠ 3) (v : Value) : ∀ (ds : List Deferred) (u : FrameMode) (w : World),
    Leaves Try.prog Try.f27 (tmps.setIfInBounds d v) R ds u w → Leaves Try.prog Try.f27 tmps R ds u w
  | [], .returning, w, h => by
    unfold Leaves at h ⊢
    rwa [results_set d h2 h3] at h
  | [], .panicking chain, w, h => h
  | [], .run, _, h => h
  | dd :: ds, u, w, h => by
    obtain ⟨hu, fv, cap, f, args, ht, hi, hc⟩ := h
    refine ⟨hu, fv, cap, f, args, ht, hi, hc.mono fun e u' w' he => ?_⟩
    cases e with
    | returned x => exact leaves_set d h2 h3 v ds _ _ he
    | panicked c => exact leaves_set d h2 h3 v ds _ _ he
    | outgrown => exact he

theorem blindD (d : Nat) (h2 : d ≠ 2) (h3 : d ≠ 3) {R : Ending → World → Prop} {c : List PanicEntry} {a : Act} {v : Value} {w : World}
    (h : bodyPostD Try.prog Try.f27 R (.panic c) (a.put (some d) v) w) : bodyPostD Try.prog Try.f27 R (.panic c) a w :=
  leaves_set d h2 h3 v _ _ _ h

def ParseSaid (bs : List Nat) (w : World) (e : Ending) (w' : World) : Prop :=
  Keeps Nil w w' ∧ match ImgM.parse bs with
    | .inl x => e = .returned (.tuple #[.agg #[.slice none 0 0, .slice none 0 0], .int .i64 x])
    | .inr M => ∃ mv, e = .returned (.tuple #[mv, .int .i64 0]) ∧ ModAt w' mv M

set_option maxRecDepth 100000 in
set_option maxHeartbeats 1000000 in
theorem parse_long (v : Value) (n : Nat) (bs : List Nat) (w : World) (hv : Row w v 1 n (u8s bs)) (hn : 60000 < n) :
    Calls Try.prog 27 #[v] w (ParseSaid bs w) := by
  obtain ⟨ai, ci, rfl, hci, hni⟩ := hv.shape
  have hl : bs.length = n := by simpa [u8s] using hv.1
  have hp : ImgM.parse bs = .inl 4 := by unfold ImgM.parse; rw [if_pos (by omega)]
  have HF := Lib.hid (show ∀ w', Keeps Nil w w' → ParseSaid bs w (.returned (.tuple #[.agg #[.slice none 0 0, .slice none 0 0], .int .i64 4])) w' from fun w' hk => ⟨hk, by rw [hp]⟩)
  have d1 : decide ((60000 : Int) < (n : Int)) = true := by simp; omega
  clear hp hl hv hn
  go_enter Try.func27, Try.ntmps27
  go_wp2
  refine bodyPost_ret (v := .tuple #[.agg #[.slice none 0 0, .slice none 0 0], .int .i64 4]) (by simp [results, Try.results27, go_sem]) rfl (HF.out _ ?_)
  repeat (first | exact Keeps.refl _ _ | refine Keeps.setCell ?_ (fun h => absurd h (by simp; try omega)) _ | refine Keeps.alloc ?_ _)

set_option maxRecDepth 100000 in
set_option maxHeartbeats 1000000 in
theorem parse_short (v : Value) (n : Nat) (bs : List Nat) (w : World) (hv : Row w v 1 n (u8s bs)) (hn : n < 2) :
    Calls Try.prog 27 #[v] w (ParseSaid bs w) := by
  obtain ⟨ai, ci, rfl, hci, hni⟩ := hv.shape
  have hl : bs.length = n := by simpa [u8s] using hv.1
  have hp : ImgM.parse bs = .inl 2 := by unfold ImgM.parse; rw [if_neg (by omega), if_pos (by omega)]
  have HF := Lib.hid (show ∀ w', Keeps Nil w w' → ParseSaid bs w (.returned (.tuple #[.agg #[.slice none 0 0, .slice none 0 0], .int .i64 2])) w' from fun w' hk => ⟨hk, by rw [hp]⟩)
  have d1 : decide ((60000 : Int) < (n : Int)) = false := by simp; omega
  have d2 : decide ((n : Int) - 2 < 0) = true := by simp; omega
  clear hp hl hv
  go_enter Try.func27, Try.ntmps27
  go_wp2
  refine bodyPost_ret (v := .tuple #[.agg #[.slice none 0 0, .slice none 0 0], .int .i64 2]) (by simp [results, Try.results27, go_sem]) rfl (HF.out _ ?_)
  repeat (first | exact Keeps.refl _ _ | refine Keeps.setCell ?_ (fun h => absurd h (by simp; try omega)) _ | refine Keeps.alloc ?_ _)

/-- what a module's units own while they are read: their locals, their code, apart from the units' own row -/
def uC (x : Value × Value × ImgM.Unt) : List Value := [.int .i64 x.2.2.kind, .int .i64 x.2.2.params, x.1, .int .i64 x.2.2.result, .int .i64 x.2.2.takes, x.2.1]
def UsAt (w : World) (base : Nat) (bv uv : Value) (l : List (Value × Value × ImgM.Unt)) : Prop :=
  ∀ x ∈ l, Own w base 3 1 x.1 x.2.2.locals.length (i64s x.2.2.locals) ∧ Own w base 89 3 x.2.1 x.2.2.code.length (codeC x.2.2.code) ∧
    ∀ b, (uv.ownBlock = some b → x.1.ownBlock ≠ some b ∧ x.2.1.ownBlock ≠ some b)

theorem flat_six (l : List (Value × Value × ImgM.Unt)) (k : Nat) (hk : k < l.length) : ((l.flatMap uC).drop (k * 6)).take 6 = uC l[k] := by
  induction l generalizing k with
  | nil => simp at hk
  | cons a r ih =>
    cases k with
    | zero => rfl
    | succ k =>
      simp only [List.flatMap_cons, List.getElem_cons_succ]
      have h0 : (uC a).length = 6 := rfl
      rw [show (k + 1) * 6 = (uC a).length + k * 6 by omega, List.drop_append]
      simp only [Nat.add_sub_cancel_left]
      rw [List.drop_of_length_le (by omega), List.nil_append]
      exact ih k (by simpa using hk)

set_option maxRecDepth 100000 in
set_option maxHeartbeats 4000000 in
theorem parse_in (v : Value) (k : Nat) (bs : List Nat) (w : World) (hv : Row w v 1 (k + 2) (u8s bs)) (hb : ∀ c ∈ bs, c < 256) (hk : k + 2 ≤ 60000)
    (heq : ImgM.crc (bs.take k) = bs.getD k 0 * 256 + bs.getD (k + 1) 0) :
    Calls Try.prog 27 #[v] w (ParseSaid bs w) := by
  obtain ⟨ai, ci, rfl, hci, hni⟩ := hv.shape
  obtain ⟨b, o, rfl⟩ := hv.form (by omega)
  have hl : bs.length = k + 2 := by simpa [u8s] using hv.1
  have hpar : ImgM.parse bs = match ImgM.rdMdl (bs.take k) with
    | none => .inl 2
    | some (m, r) => if r = [] then .inr m else .inl 2 := by
    unfold ImgM.parse
    rw [if_neg (by omega), if_neg (by omega), hl, show k + 2 - 2 = k by omega, show k + 2 - 1 = k + 1 by omega, if_neg (by omega)]
    cases ImgM.rdMdl (bs.take k) <;> rfl
  have HPAR := Lib.hid hpar
  have c1 := row_u8s hv k (by omega)
  have c2 := row_u8s hv (k + 1) (by omega)
  have hx : bs.getD k 0 < 256 := hb _ (by simp [List.getD_eq_getElem?_getD, show k < bs.length by omega])
  have hy : bs.getD (k + 1) 0 < 256 := hb _ (by simp [List.getD_eq_getElem?_getD, show k + 1 < bs.length by omega])
  have hrow := row_cut hv (m := k) (by omega)
  have hbt : ∀ c ∈ bs.take k, c < 256 := fun c hc => hb c (List.mem_of_mem_take hc)
  have hblt := hv.lt (by decide) (by omega) b rfl
  have hsum : ∀ w', Keeps Nil w w' → Calls Try.prog 25 #[.slice (some ⟨b, o, none⟩) k ci] w' fun e w'' => e = .returned (.int .u16 (ImgM.crc (bs.take k) : Nat)) ∧ w'' = w' := fun w' hk' =>
    (sum_any _ k (bs.take k) w' (hrow.keep hk' (fun _ _ h => h)) hbt).mono fun e w' ⟨h1, h2⟩ => ⟨h1, h2.symm⟩
  have hor : bits BinOp.or IntKind.u16 (IntKind.u16.wrap (IntKind.u16.wrap ((bs.getD k 0 : Nat) : Int) * 256)) (IntKind.u16.wrap ((bs.getD (k + 1) 0 : Nat) : Int)) = ((bs.getD k 0 * 256 + bs.getD (k + 1) 0 : Nat) : Int) := by
    rw [← or16 _ _ hx hy, wrap_u16, wrap_u16, wrap_u16]
    congr 1 <;> omega
  have hor2 := or16 _ _ hx hy
  have hwk : IntKind.i64.wrap ((k : Int) + 1) = (k : Int) + 1 := IntWalk.i64_in _ (by omega)
  have hwk2 : ((k : Int) + 1).toNat = k + 1 := by omega
  have hlt9 : (bs.take k).length ≤ 100000 := by simp; omega
  generalize hl0 : bs.take k = l0 at *
  rw [← heq] at hor hor2
  generalize bs.getD k 0 = x at *
  generalize bs.getD (k + 1) 0 = y at *
  generalize ImgM.crc l0 = C at *
  have d1 : ((C : Int) != (C : Int)) = false := by simp
  have HS := Lib.hid hsum
  have i0 : (0 : Int) ≤ (k : Int) := Int.natCast_nonneg _
  have i1 : (k : Int) < (k : Int) + 2 := by omega
  have i2 : (k : Int) + 1 < (k : Int) + 2 := by omega
  have i3 : (k : Int) ≤ (ci : Int) := by omega
  have i4 : (0 : Int) ≤ (k : Int) + 1 := by omega
  have d2 : decide ((60000 : Int) < (k : Int) + 2) = false := by simp; omega
  have d3 : decide ((k : Int) < 0) = false := by simp
  have hmf : ∀ (fn : Fn) (first cap : Array Value) (w : World), (Instr.makeFunc fn first cap).run Try.prog w = .ok (.func fn first cap) w := fun _ _ _ _ => rfl
  clear heq hsum hl hv hb hk hpar hl0
  go_enter_defers Try.func27, Try.ntmps27
  go_wp2
  generalize hW : World.alloc (World.alloc w _) _ = w2 at *
  have hk2 : Keeps Nil w w2 := by rw [← hW]; exact ((Keeps.refl _ _).alloc _).alloc _
  have HPZ := Lib.hid (show w2.heap.size = w.heap.size + 2 by rw [← hW]; simp)
  have hb1 : Blk w2 w.heap.size #[.slice none 0 0, .slice none 0 0] 51 := by rw [← hW]; exact (Blk.new _ _ _).alloc _
  have hb2 : Blk w2 (w.heap.size + 1) #[.int .i64 0] 25 := by rw [← hW]; exact Blk.new' (by simp)
  have e1 := (hk2.cell (p := ⟨b, o + k, none⟩) (World.block_lt_of_cell? w _ c1) (fun h => h)).trans c1
  have e2 := (hk2.cell (p := ⟨b, o + (k + 1), none⟩) (World.block_lt_of_cell? w _ c2) (fun h => h)).trans c2
  have HS2 := Lib.hid (fun q => HS.out (w2.drewN q) (hk2.drewN q))
  have hrow2 := hrow.keep hk2 (fun _ _ h => h)
  clear hW c1 c2 hrow
  go_quiet ((go_at_call 25; exact Calls.quiet_of_same (HS2.out _)))
  clear hor hor2 e1 e2 hwk hwk2 d1 d2 d3
  go_wp2_with fail
  have hblk : b + 2 < w2.heap.size := by have := HPZ.out; omega
  have hr3 : Rr ((w2.drewN nq).alloc (.cells #[.slice (some ⟨b, o, none⟩) k ci] 97)) w2.heap.size (.slice (some ⟨b, o, none⟩) k ci) k l0 :=
    ⟨Blk.new' (by simp), hrow2.keep (S := Nil) (((Keeps.refl _ _).drewN _).alloc _) (fun _ _ h => h), fun _ b' hb' => by simp [Value.ownBlock] at hb'; omega⟩
  have hk3 : Keeps Nil w ((w2.drewN nq).alloc (.cells #[.slice (some ⟨b, o, none⟩) k ci] 97)) := (hk2.drewN _).alloc _
  have hB3 := (hb1.drewN nq).alloc (.cells #[.slice (some ⟨b, o, none⟩) k ci] 97)
  have hE3 := (hb2.drewN nq).alloc (.cells #[.slice (some ⟨b, o, none⟩) k ci] 97)
  have hp1 : w2.heap.size ≤ w.heap.size + 2 := by have := HPZ.out; omega
  have hp2 : w.heap.size + 2 ≤ w2.heap.size := by have := HPZ.out; omega
  clear HPZ
  generalize World.alloc (World.drewN w2 nq) _ = w3 at *
  generalize w2.heap.size = p at *
  generalize hBB : w.heap.size = B at *
  have HBB := Lib.hid hBB
  have HF : Hid (ImgM.rdMdl l0 = none → ∀ w', Keeps Nil w w' → ∀ w'', Keeps (fun i => i = B ∨ i = B + 1) w' w'' → ParseSaid bs w (.returned (.tuple #[.agg #[.slice none 0 0, .slice none 0 0], .int .i64 2])) w'') := Lib.hid fun hn w' hk w'' hk' =>
    ⟨hk.trans hk' (fun i hi h => by omega), by rw [HPAR.out, hn]⟩
  have hu : ImgM.rdMdl l0 = ImgM.rdMdl l0 := rfl
  conv at hu => rhs; unfold ImgM.rdMdl ImgM.rdList
  clear hk2 hb1 hb2 hrow2 hBB HS2 HS hblt hblk
  cases h1 : ImgM.rdCount 2 l0 with
  | none =>
    rw [h1] at hu
    refine (count_no 2 (by omega) (by omega) hr3 hbt h1).mono ?_
    rintro e w' ⟨rfl, hk⟩
    have HB := Lib.hid (hB3.keep hk (by omega))
    have HE := Lib.hid (hE3.keep hk (by omega))
    have HFF := Lib.hid (HF.out hu w' (hk3.trans hk (fun i hi h => by have := HBB.out; omega)))
    clear hu hk hk3 h1 hbt hr3 hB3 hE3 HF hlt9
    go_wp2
    exact door_bad _ B rfl rfl HB.out HE.out HFF.out
  | some x =>
    obtain ⟨N, r0⟩ := x
    rw [h1] at hu
    simp only at hu
    refine (count_yes 2 (by omega) (by omega) hr3 hbt h1).mono ?_
    rintro e w4 ⟨rfl, hk4, v4, n4, hr4⟩
    obtain ⟨hb4, hN, hl4⟩ := count_small hbt h1 hlt9
    have hk5 := hk3.trans hk4 (fun i hi h => by have := HBB.out; omega)
    have hB4 := hB3.keep hk4 (by omega)
    have hE4 := hE3.keep hk4 (by omega)
    have HU := Lib.hid hu
    clear hk4 hk3 hr3 hu h1 hbt hB3 hE3 hlt9
    go_wp2
    go_loopw [43] (fun i wr => ∃ (t : Nat) (bv v : Value) (n : Nat) (xs : List (Int × Int)) (r : List Nat), t ≤ N ∧ i = .int .i64 t ∧ Keeps Nil w wr ∧ Rr wr p v n r ∧ p < wr.heap.size ∧
      Blk wr B #[bv, .slice none 0 0] 51 ∧ Blk wr (B + 1) #[.int .i64 0] 25 ∧
      Own wr (p + 1) 83 2 bv t (boxesC xs) ∧ Hid (ImgM.rdMany ImgM.rdTwo N r0 = pre xs (ImgM.rdMany ImgM.rdTwo (N - t) r) ∧ (∀ c ∈ r, c < 256) ∧ r.length ≤ 100000)) (fun i _ => N - (intOf i).toNat)
    case atStart => exact ⟨0, _, v4, n4, [], r0, Nat.zero_le _, rfl, hk5, hr4, hr4.box.lt, hB4, hE4, Own.nil _ _ _ _, Lib.hid ⟨by rw [pre_nil]; rfl, hb4, hl4⟩⟩
    case round =>
      clear hB4 hE4 hr4 hk5 hb4 hl4
      obtain ⟨t, bv, v, n, xs, r, ht, rfl, hkw, hr, hpw, hB, hE, hown, hH⟩ := hrel
      obtain ⟨hrd, hb, hl⟩ := hH.out
      by_cases htn : t < N
      · have hrW : Rr wr.drew p v n r := hr.keep (S := Nil) ((Keeps.refl _ _).drew) (fun _ _ h => h)
        have hkW : Keeps Nil w wr.drew := hkw.drew
        have hBW : Blk wr.drew B #[bv, .slice none 0 0] 51 := hB
        have hEW : Blk wr.drew (B + 1) #[.int .i64 0] 25 := hE
        have hT : wr.drew.cell? ⟨B, 0, none⟩ = some bv := (hB.cell 0).trans (by simp)
        have HOO := Lib.hid (And.intro hown (And.intro hB hE))
        obtain ⟨j, hj⟩ : ∃ j, N - t = j + 1 := ⟨N - t - 1, by omega⟩
        rw [hj] at hrd
        have HJ := Lib.hid hj
        have hHU := HU.out
        have HFB : Hid (ImgM.rdMany ImgM.rdTwo N r0 = none → ImgM.rdMdl l0 = none) := Lib.hid fun hn => by rw [hn] at hHU; exact hHU
        clear hr hB hE hown hkw hj hHU
        go_wp2
        refine regionT 8 (fun w' => w'.cell? ⟨B, 0, none⟩ = some bv) (by kernel_rfl) ?_
        refine take0 (i := 0) (v := .pointer (some ⟨B, 0, none⟩)) rfl (by kernel_rfl) (by kernel_rfl) (by kernel_rfl) (by decide) (fun _ _ _ h => blindD 45 (by decide) (by decide) h) (Or.inl ⟨by rfl, fun wS _ => ?_⟩) hT ?_
        · go_simp
        refine takeT (i := 1) (v := bv) rfl (by kernel_rfl) (by kernel_rfl) (by kernel_rfl) (by kernel_rfl) (by kernel_rfl) (fun _ _ _ h => blindD 46 (by decide) (by decide) h) (Or.inl ⟨by rfl, fun wS hSS => ?_⟩) hT ?_
        · go_simp
        refine take0 (i := 2) (v := .pointer (some ⟨p, 0, none⟩)) rfl (by kernel_rfl) (by kernel_rfl) (by kernel_rfl) (by decide) (fun _ _ _ h => blindD 47 (by decide) (by decide) h) (Or.inl ⟨by rfl, fun wS _ => ?_⟩) hT ?_
        · go_simp
        refine take0 (i := 4) (v := .pointer (some ⟨p, 0, none⟩)) rfl (by kernel_rfl) (by kernel_rfl) (by kernel_rfl) (by decide) (fun _ _ _ h => blindD 49 (by decide) (by decide) h) (Or.inl ⟨by rfl, fun wS _ => ?_⟩) hT ?_
        · go_simp
        refine oneT (i := 3) (by kernel_rfl) rfl (fun K hK => ?_)
        go_simp
        cases h1 : ImgM.rdNum r with
        | none =>
          have hn : ImgM.rdTwo r = none := by simp [ImgM.rdTwo, h1]
          have HFF := Lib.hid (HF.out (HFB.out (hrd.trans (pre_no hn))))
          refine (int_no hrW hb h1).mono ?_
          rintro e w9 ⟨rfl, hk9⟩
          have HF3 := Lib.hid (HFF.out w9 (hkW.trans hk9 (fun i hi h => by have := HBB.out; omega)))
          have HB := Lib.hid (hBW.keep hk9 (by omega))
          have HE := Lib.hid (hEW.keep hk9 (by omega))
          clear hk9 hrd hn hrW hkW hBW hEW hT h1 hb hl HFB HFF
          go_wp2
          exact door_bad _ B rfl rfl HB.out HE.out HF3.out
        | some x =>
          obtain ⟨y1, s1⟩ := x
          obtain ⟨hq1, -⟩ := ImgM.pair_num.back r y1 s1 hb h1
          have hb1 := ImgM.in_rest hb hq1
          have hl1 : s1.length ≤ 100000 := by rw [hq1, List.length_append] at hl; omega
          refine (int_yes hrW hb h1).mono ?_
          rintro e w9 ⟨rfl, hk9, v9, n9, hr9⟩
          have hkX := hkW.trans hk9 (fun i hi h => by have := HBB.out; omega)
          have hB9 := hBW.keep hk9 (by omega)
          have hE9 := hEW.keep hk9 (by omega)
          have hT : w9.cell? ⟨B, 0, none⟩ = some bv := (hB9.cell 0).trans (by simp)
          refine hK _ _ (.inr hT) ?_
          have HX := Lib.hid (Keeps.trans (S := fun i => i = p) ((Keeps.refl _ wr).drew) hk9 (fun _ _ h => h))
          clear hK K hrW hkW hBW hEW hk9 hq1
          refine oneT (i := 5) (by kernel_rfl) rfl (fun K hK => ?_)
          go_simp
          cases h2 : ImgM.rdNum s1 with
          | none =>
            have hn : ImgM.rdTwo r = none := by simp [ImgM.rdTwo, h1, h2]
            have HFF := Lib.hid (HF.out (HFB.out (hrd.trans (pre_no hn))))
            refine (int_no hr9 hb1 h2).mono ?_
            rintro e w10 ⟨rfl, hk10⟩
            have HF3 := Lib.hid (HFF.out w10 (hkX.trans hk10 (fun i hi h => by have := HBB.out; omega)))
            have HB := Lib.hid (hB9.keep hk10 (by omega))
            have HE := Lib.hid (hE9.keep hk10 (by omega))
            clear hk10 hrd hn hr9 hkX hB9 hE9 hT h1 h2 hb hb1 hl hl1 HFB HFF
            go_wp2
            exact door_bad _ B rfl rfl HB.out HE.out HF3.out
          | some x =>
            obtain ⟨y2, s2⟩ := x
            obtain ⟨hq2, -⟩ := ImgM.pair_num.back s1 y2 s2 hb1 h2
            have hb2 := ImgM.in_rest hb1 hq2
            have hl2 : s2.length ≤ 100000 := by rw [hq2, List.length_append] at hl1; omega
            refine (int_yes hr9 hb1 h2).mono ?_
            rintro e w10 ⟨rfl, hk10, v10, n10, hr10⟩
            have hkY := hkX.trans hk10 (fun i hi h => by have := HBB.out; omega)
            have hB10 := hB9.keep hk10 (by omega)
            have hE10 := hE9.keep hk10 (by omega)
            have hT : w10.cell? ⟨B, 0, none⟩ = some bv := (hB10.cell 0).trans (by simp)
            refine hK _ _ (.inr hT) ?_
            have hX2 := HX.out.trans hk10 (fun _ _ h => h)
            have hy : ImgM.rdTwo r = some ((y1, y2), s2) := by simp [ImgM.rdTwo, h1, h2]
            rw [pre_yes hy] at hrd
            have HR := Lib.hid (And.intro hrd (And.intro hb2 hl2))
            obtain ⟨hown, -, -⟩ := HOO.out
            have hw10 := hown.keep hX2 (fun b h1 h2 => by have := (hown.lt b h1).1; omega)
            have hz10 := hX2.size
            clear hK K hr9 hkX hB9 hE9 hk10 hq2 HX hX2 hown HOO hrd hy h1 h2 hb hb1 hb2 hl hl1 hl2 HFB
            refine oneT (i := 6) (by kernel_rfl) rfl (fun K hK => ?_)
            go_simp
            refine hK _ _ (.inr hT) ?_
            clear hK K
            refine oneT (i := 7) (by kernel_rfl) rfl (fun K hK => ?_)
            go_simp
            refine hK _ _ (.inr (((hB10.alloc _).cell 0).trans (by simp))) ?_
            clear hK K
            refine oneT (i := 8) (by kernel_rfl) rfl (fun K hK => ?_)
            refine ownStep1 rfl _ _ 48 rfl (p + 1) 83 (.agg #[.int .i64 0, .int .i64 0]) 2 16 Try.underlying48 (by kernel_rfl) rfl (by decide) bv t (boxesC xs) rfl (Own.alloc hw10 _) _ _ [.int .i64 y1, .int .i64 y2] rfl (Blk.new' (by simp)) rfl (by simp [Value.oneCell']) (by unfold maxLen; omega) (by omega) (by simp; omega) ?_
            intro v12 w12 hown12 hk12 hat12
            obtain ⟨a12, k12, rfl, -⟩ := (hown12.row (by omega)).shape
            refine hK _ _ (.inl (by kernel_rfl)) ?_
            clear hK K
            have hne12 : ¬ bv.ownBlock = some B := fun h => by have := (hw10.lt _ h).1; omega
            have b12 := (hB10.alloc (.cells #[.int .i64 y1, .int .i64 y2] 83)).keep hk12 hne12
            have c5 := b12.cell 0
            have f5 := b12.free 0
            have l5 := b12.lt
            simp at c5
            refine oneT (i := 9) (by kernel_rfl) rfl (fun K hK => ?_)
            go_simp
            refine hK _ _ (.inl (by kernel_rfl)) ?_
            clear hK K
            refine oneT (i := 10) (by kernel_rfl) rfl (fun K hK => ?_)
            go_simp
            refine hK _ _ (.inl (by kernel_rfl)) ?_
            clear hK K
            refine doneT (by kernel_rfl) ?_ _
            have hz12 := hk12.size
            simp at hz12
            have hkN : Keeps (fun i => i = B ∨ bv.ownBlock = some i) w10 (w12.setCell ⟨B, 0, none⟩ (.slice a12 (t + 1) k12)) :=
              Keeps.setCell (S := fun i => i = B ∨ bv.ownBlock = some i) ((((Keeps.refl _ _).alloc _).trans hk12 (fun i _ h => Or.inr h))) (fun _ => .inl rfl) _
            have hS : ∀ b, b < p + 1 → b ≠ B → ¬ (b = B ∨ bv.ownBlock = some b) := fun b hb hne h => by rcases h with h | h; (exact hne h); (have := (hw10.lt b h).1; omega)
            have hkq : Keeps (fun i => i = B) w12 (w12.setCell ⟨B, 0, none⟩ (.slice a12 (t + 1) k12)) := Keeps.setCell (S := fun i => i = B) (Keeps.refl _ _) (fun _ => rfl) _
            have g1 : Keeps Nil w (w12.setCell ⟨B, 0, none⟩ (.slice a12 (t + 1) k12)) := hkY.trans hkN (fun i hi h => absurd h (hS i (by have := HBB.out; omega) (by have := HBB.out; omega)))
            have hrN : Rr (w12.setCell ⟨B, 0, none⟩ (.slice a12 (t + 1) k12)) p v10 n10 s2 := ⟨hr10.box.keep hkN (hS p (by omega) (by omega)), hr10.row.keep' hkN (fun h0 b hb => hS b (by have := hr10.sep h0 b hb; omega) (by have := hr10.sep h0 b hb; omega)), hr10.sep⟩
            have g3 : Blk (w12.setCell ⟨B, 0, none⟩ (.slice a12 (t + 1) k12)) B #[.slice a12 (t + 1) k12, .slice none 0 0] 51 := (b12.set 0 _).to rfl (by simp)
            have g4 := hE10.keep hkN (hS (B + 1) (by omega) (by omega))
            have g5 := hown12.keep hkq (fun b h1 h2 => by have := (hown12.lt b h1).1; omega)
            have HFin := Lib.hid (And.intro g1 (And.intro hrN (And.intro g3 (And.intro g4 g5))))
            clear g1 hrN g3 g4 g5 hkN hS hkq b12 c5 f5 l5 hne12 hown12 hk12 hat12 hw10 hB10 hE10 hr10 hkY hT
            go_wp2
            go_roundw
            case rel =>
              obtain ⟨g1, g2, g3, g4, g5⟩ := HFin.out
              refine ⟨t + 1, _, _, _, xs ++ [(y1, y2)], s2, by omega, by go_num, g1, g2, g2.box.lt, g3, g4, ?_, Lib.hid ?_⟩
              · simpa [boxesC, boxC] using g5
              · have := HR.out
                rw [show N - (t + 1) = j by have := HJ.out; omega]
                exact this
            case measure => simp [intOf]; omega
      · obtain rfl : t = N := by omega
        rw [Nat.sub_self, pre_end] at hrd
        have hu := HU.out
        rw [hrd] at hu
        simp only at hu
        have hxl : xs.length = t := by
          have h1 := hown.len
          have : ∀ z : List (Int × Int), (boxesC z).length = z.length * 2 := by
            intro z
            induction z with
            | nil => rfl
            | cons a z ih => simp [boxesC, boxC] at ih ⊢; omega
          rw [this] at h1
          omega
        have HXL := Lib.hid hxl
        have HU := Lib.hid hu
        clear hrd hu hxl
        go_wp2_with fail
        cases h6 : ImgM.rdCount 6 r with
        | none =>
          have hu := HU.out
          rw [h6] at hu
          refine (count_no 6 (by omega) (by omega) hr hb h6).mono ?_
          rintro e w' ⟨rfl, hk⟩
          have HB := Lib.hid (hB.keep hk (by omega))
          have HE := Lib.hid (hE.keep hk (by omega))
          have HFF := Lib.hid (HF.out hu w' (hkw.trans hk (fun i hi h => by have := HBB.out; omega)))
          clear hu hk hkw h6 hb hr hB hE hown HU
          go_wp2
          exact door_bad _ B rfl rfl HB.out HE.out HFF.out
        | some x =>
          obtain ⟨N2, r6⟩ := x
          have hu := HU.out
          rw [h6] at hu
          simp only at hu
          refine (count_yes 6 (by omega) (by omega) hr hb h6).mono ?_
          rintro e w6 ⟨rfl, hk6, v6, n6, hr6⟩
          obtain ⟨hb6, hN2, hl6⟩ := count_small hb h6 hl
          have hk7 := hkw.trans hk6 (fun i hi h => by have := HBB.out; omega)
          have hB6 := hB.keep hk6 (by omega)
          have hE6 := hE.keep hk6 (by omega)
          have hO6 := hown.keep hk6 (fun b h1 h2 => by have := (hown.lt b h1).1; omega)
          have HU := Lib.hid hu
          clear hk6 hkw hr hu h6 hb hB hE hown hl
          go_wp2
          go_loopw [58] (fun i wr => ∃ (t2 : Nat) (uv v : Value) (n : Nat) (us : List (Value × Value × ImgM.Unt)) (r : List Nat), t2 ≤ N2 ∧ i = .int .i64 t2 ∧ Keeps Nil w wr ∧ Rr wr p v n r ∧ p < wr.heap.size ∧
            Blk wr B #[bv, uv] 51 ∧ Blk wr (B + 1) #[.int .i64 0] 25 ∧ Own wr (p + 1) 83 2 bv t (boxesC xs) ∧
            Own wr (p + 1) 86 6 uv t2 (us.flatMap uC) ∧ Hid (UsAt wr (p + 1) bv uv us ∧ (∀ b, bv.ownBlock = some b → uv.ownBlock ≠ some b)) ∧
            Hid (ImgM.rdMany ImgM.rdUnt N2 r6 = pre (us.map fun x => x.2.2) (ImgM.rdMany ImgM.rdUnt (N2 - t2) r) ∧ (∀ c ∈ r, c < 256) ∧ r.length ≤ 100000)) (fun i _ => N2 - (intOf i).toNat)
          case atStart => exact ⟨0, _, v6, n6, [], r6, Nat.zero_le _, rfl, hk7, hr6, hr6.box.lt, hB6, hE6, hO6, Own.nil _ _ _ _, Lib.hid ⟨(fun x hx => by cases hx), by simp [Value.ownBlock]⟩, Lib.hid ⟨by rw [List.map_nil, pre_nil]; rfl, hb6, hl6⟩⟩
          case round =>
            clear hB6 hE6 hr6 hk7 hb6 hl6 hO6
            obtain ⟨t2, uv, v, n, us, r, ht2, rfl, hkw, hr, hpw, hB, hE, hO, hown, hUs, hH⟩ := hrel
            obtain ⟨hrd, hb, hl⟩ := hH.out
            by_cases htn : t2 < N2
            · have hrW : Rr wr.drew p v n r := hr.keep (S := Nil) ((Keeps.refl _ _).drew) (fun _ _ h => h)
              have hkW : Keeps Nil w wr.drew := hkw.drew
              have hBW : Blk wr.drew B #[bv, uv] 51 := hB
              have hEW : Blk wr.drew (B + 1) #[.int .i64 0] 25 := hE
              have hT : wr.drew.cell? ⟨B, 1, none⟩ = some uv := (hB.cell 1).trans (by simp)
              have HOO := Lib.hid (And.intro hown hO)
              obtain ⟨j, hj⟩ : ∃ j, N2 - t2 = j + 1 := ⟨N2 - t2 - 1, by omega⟩
              rw [hj] at hrd
              have HJ := Lib.hid hj
              have hHU := HU.out
              have HFB : Hid (ImgM.rdMany ImgM.rdUnt N2 r6 = none → ImgM.rdMdl l0 = none) := Lib.hid fun hn => by rw [hn] at hHU; exact hHU
              clear hr hB hE hown hkw hj hHU hO
              go_wp2
              refine regionT 5 (fun w' => w'.cell? ⟨B, 1, none⟩ = some uv) (by kernel_rfl) ?_
              refine take0 (i := 0) (v := .pointer (some ⟨B, 1, none⟩)) rfl (by kernel_rfl) (by kernel_rfl) (by kernel_rfl) (by decide) (fun _ _ _ h => blindD 60 (by decide) (by decide) h) (Or.inl ⟨by rfl, fun wS _ => ?_⟩) hT ?_
              · go_simp
              refine takeT (i := 1) (v := uv) rfl (by kernel_rfl) (by kernel_rfl) (by kernel_rfl) (by kernel_rfl) (by kernel_rfl) (fun _ _ _ h => blindD 61 (by decide) (by decide) h) (Or.inl ⟨by rfl, fun wS hSS => ?_⟩) hT ?_
              · go_simp
              refine take0 (i := 2) (v := .pointer (some ⟨p, 0, none⟩)) rfl (by kernel_rfl) (by kernel_rfl) (by kernel_rfl) (by decide) (fun _ _ _ h => blindD 62 (by decide) (by decide) h) (Or.inl ⟨by rfl, fun wS _ => ?_⟩) hT ?_
              · go_simp
              refine oneT (i := 3) (by kernel_rfl) rfl (fun K hK => ?_)
              go_simp
              refine (unit_rd p v n r wr.drew hrW hb hl).mono ?_
              rintro e w9 ⟨hk9, hs9⟩
              have hkX := hkW.trans hk9 (fun i hi h => by have := HBB.out; omega)
              have hB9 := hBW.keep hk9 (by omega)
              have hE9 := hEW.keep hk9 (by omega)
              cases h1 : ImgM.rdUnt r with
              | none =>
                rw [h1] at hs9
                simp only at hs9
                subst hs9
                have HFF := Lib.hid (HF.out (HFB.out (hrd.trans (pre_no h1))) w9 hkX)
                have HB := Lib.hid hB9
                have HE := Lib.hid hE9
                clear hk9 hrd hrW hkW hBW hEW hT h1 hb hl HFB hkX hB9 hE9
                go_wp2
                exact door_bad _ B rfl rfl HB.out HE.out HFF.out
              | some x =>
                obtain ⟨u, s1⟩ := x
                rw [h1] at hs9
                simp only at hs9
                obtain ⟨lv, cv, v9, n9, rfl, hr9, hlo, hco⟩ := hs9
                obtain ⟨hq1, -⟩ := ImgM.pair_unt.back r u s1 hb h1
                have hb1 := ImgM.in_rest hb hq1
                have hl1 : s1.length ≤ 100000 := by rw [hq1, List.length_append] at hl; omega
                have hT : w9.cell? ⟨B, 1, none⟩ = some uv := (hB9.cell 1).trans (by simp)
                refine hK _ _ (.inr hT) ?_
                have hX : Keeps (fun i => i = p) wr w9 := Keeps.trans (S := fun i => i = p) ((Keeps.refl _ wr).drew) hk9 (fun _ _ h => h)
                rw [pre_yes h1] at hrd
                have HR := Lib.hid (And.intro hrd (And.intro hb1 hl1))
                obtain ⟨hown, hO⟩ := HOO.out
                have hown9 := hown.keep hX (fun b h1 h2 => by have := (hown.lt b h1).1; omega)
                have hO9 := hO.keep hX (fun b h1 h2 => by have := (hO.lt b h1).1; omega)
                have hz9 := hX.size
                have HU9 : Hid (UsAt w9 (p + 1) bv uv us ∧ (∀ b, bv.ownBlock = some b → uv.ownBlock ≠ some b)) := Lib.hid ⟨fun x hx => by
                  obtain ⟨h1, h2, h3⟩ := hUs.out.1 x hx
                  exact ⟨h1.keep hX (fun b g1 g2 => by have := (h1.lt b g1).1; omega), h2.keep hX (fun b g1 g2 => by have := (h2.lt b g1).1; omega), h3⟩, hUs.out.2⟩
                have hlo' : Own w9 (p + 1) 3 1 lv u.locals.length (i64s u.locals) := hlo.mono (by simp; omega)
                have hco' : Own w9 (p + 1) 89 3 cv u.code.length (codeC u.code) := hco.mono (by simp; omega)
                have hsepN : ∀ b, uv.ownBlock = some b → lv.ownBlock ≠ some b ∧ cv.ownBlock ≠ some b := fun b hb => by
                  have h0 := (hown.lt b hb).2
                  refine ⟨fun h => ?_, fun h => ?_⟩
                  · have := (hlo.lt b h).1; simp at this; omega
                  · have := (hco.lt b h).1; simp at this; omega
                have HN := Lib.hid (And.intro hlo' (And.intro hco' hsepN))
                clear hK K hrW hkW hBW hEW hk9 hq1 hX hown HOO hrd h1 hb hb1 hl hl1 HFB hO hlo hco hlo' hco' hsepN
                refine oneT (i := 4) (by kernel_rfl) rfl (fun K hK => ?_)
                go_simp
                refine hK _ _ (.inr (((hB9.alloc _).cell 1).trans (by simp))) ?_
                clear hK K
                refine oneT (i := 5) (by kernel_rfl) rfl (fun K hK => ?_)
                refine ownStep1 rfl _ _ 49 rfl (p + 1) 86 (.agg #[.int .i64 0, .int .i64 0, .slice none 0 0, .int .i64 0, .int .i64 0, .slice none 0 0]) 6 80 Try.underlying49 (by kernel_rfl) rfl (by decide) uv t2 (us.flatMap uC) rfl (Own.alloc hown9 _) _ _ (uC (lv, cv, u)) rfl (Blk.new' (by simp)) rfl ?_ (by unfold maxLen; omega) (by omega) (by simp; omega) ?_
                · obtain ⟨al, kl, rfl, -⟩ := (HN.out.1.row (by omega)).shape
                  obtain ⟨ac, kc, rfl, -⟩ := (HN.out.2.1.row (by omega)).shape
                  simp [uC, Value.oneCell']
                intro v12 w12 hown12 hk12 hat12
                obtain ⟨a12, k12, rfl, -⟩ := (hown12.row (by omega)).shape
                refine hK _ _ (.inl (by kernel_rfl)) ?_
                clear hK K
                have hne12 : ¬ uv.ownBlock = some B := fun h => by have := (hown9.lt _ h).1; omega
                have b12 := (hB9.alloc (.cells (uC (lv, cv, u)).toArray 86)).keep hk12 hne12
                have c5 := b12.cell 1
                have f5 := b12.free 1
                have l5 := b12.lt
                simp at c5
                refine oneT (i := 6) (by kernel_rfl) rfl (fun K hK => ?_)
                go_simp
                refine hK _ _ (.inl (by kernel_rfl)) ?_
                clear hK K
                refine oneT (i := 7) (by kernel_rfl) rfl (fun K hK => ?_)
                go_simp
                refine hK _ _ (.inl (by kernel_rfl)) ?_
                clear hK K
                refine doneT (by kernel_rfl) ?_ _
                have hz12 := hk12.size
                simp at hz12
                have hkN : Keeps (fun i => i = B ∨ uv.ownBlock = some i) w9 (w12.setCell ⟨B, 1, none⟩ (.slice a12 (t2 + 1) k12)) :=
                  Keeps.setCell (S := fun i => i = B ∨ uv.ownBlock = some i) ((((Keeps.refl _ _).alloc _).trans hk12 (fun i _ h => Or.inr h))) (fun _ => .inl rfl) _
                have hS : ∀ b, b < p + 1 → b ≠ B → ¬ (b = B ∨ uv.ownBlock = some b) := fun b hb hne h => by rcases h with h | h; (exact hne h); (have := (hown9.lt b h).1; omega)
                have hkq : Keeps (fun i => i = B) w12 (w12.setCell ⟨B, 1, none⟩ (.slice a12 (t2 + 1) k12)) := Keeps.setCell (S := fun i => i = B) (Keeps.refl _ _) (fun _ => rfl) _
                have g1 : Keeps Nil w (w12.setCell ⟨B, 1, none⟩ (.slice a12 (t2 + 1) k12)) := hkX.trans hkN (fun i hi h => absurd h (hS i (by have := HBB.out; omega) (by have := HBB.out; omega)))
                have hrN : Rr (w12.setCell ⟨B, 1, none⟩ (.slice a12 (t2 + 1) k12)) p v9 n9 s1 := ⟨hr9.box.keep hkN (hS p (by omega) (by omega)), hr9.row.keep' hkN (fun h0 b hb => hS b (by have := hr9.sep h0 b hb; omega) (by have := hr9.sep h0 b hb; omega)), hr9.sep⟩
                have g3 : Blk (w12.setCell ⟨B, 1, none⟩ (.slice a12 (t2 + 1) k12)) B #[bv, .slice a12 (t2 + 1) k12] 51 := (b12.set 1 _).to rfl (by simp)
                have g4 := hE9.keep hkN (hS (B + 1) (by omega) (by omega))
                have g5 := hown12.keep hkq (fun b h1 h2 => by have := (hown12.lt b h1).1; omega)
                have hbu := HU9.out.2
                have g6 := hO9.keep hkN (fun b h1 h2 => by rcases h2 with h2 | h2; (have := (hO9.lt b h1).1; omega); exact hbu b h1 h2)
                have g7 : UsAt (w12.setCell ⟨B, 1, none⟩ (.slice a12 (t2 + 1) k12)) (p + 1) bv (.slice a12 (t2 + 1) k12) (us ++ [(lv, cv, u)]) := by
                  have hone : ∀ x : Value × Value × ImgM.Unt, Own w9 (p + 1) 3 1 x.1 x.2.2.locals.length (i64s x.2.2.locals) → Own w9 (p + 1) 89 3 x.2.1 x.2.2.code.length (codeC x.2.2.code) →
                      (∀ b, uv.ownBlock = some b → x.1.ownBlock ≠ some b ∧ x.2.1.ownBlock ≠ some b) →
                      Own (w12.setCell ⟨B, 1, none⟩ (.slice a12 (t2 + 1) k12)) (p + 1) 3 1 x.1 x.2.2.locals.length (i64s x.2.2.locals) ∧ Own (w12.setCell ⟨B, 1, none⟩ (.slice a12 (t2 + 1) k12)) (p + 1) 89 3 x.2.1 x.2.2.code.length (codeC x.2.2.code) ∧
                        ∀ b, ((Value.slice a12 (t2 + 1) k12).ownBlock = some b → x.1.ownBlock ≠ some b ∧ x.2.1.ownBlock ≠ some b) := by
                    intro x h1 h2 h3
                    refine ⟨h1.keep hkN (fun b e1 e2 => by rcases e2 with e2 | e2; (have := (h1.lt b e1).1; omega); exact (h3 b e2).1 e1), h2.keep hkN (fun b e1 e2 => by rcases e2 with e2 | e2; (have := (h2.lt b e1).1; omega); exact (h3 b e2).2 e1), fun b hb => ?_⟩
                    rcases hat12 with h | h
                    · exact h3 b (by rw [← h]; exact hb)
                    · have := h b hb
                      simp at this
                      exact ⟨fun e => by have := (h1.lt b e).2; omega, fun e => by have := (h2.lt b e).2; omega⟩
                  intro x hx
                  rcases List.mem_append.1 hx with hx | hx
                  · obtain ⟨h1, h2, h3⟩ := HU9.out.1 x hx
                    exact hone x h1 h2 h3
                  · obtain rfl := List.mem_singleton.1 hx
                    exact hone (lv, cv, u) HN.out.1 HN.out.2.1 HN.out.2.2
                have g8 : ∀ b, bv.ownBlock = some b → (Value.slice a12 (t2 + 1) k12).ownBlock ≠ some b := fun b h1 h2 => by
                  rcases hat12 with h | h
                  · exact hbu b h1 (by rw [← h]; exact h2)
                  · have := h b h2
                    have := (hO9.lt b h1).2
                    simp at *
                    omega
                have HFin := Lib.hid (And.intro g1 (And.intro hrN (And.intro g3 (And.intro g4 (And.intro g5 (And.intro g6 (And.intro g7 g8)))))))
                clear g1 hrN g3 g4 g5 g6 g7 g8 hkN hS hkq hbu b12 c5 f5 l5 hne12 hown12 hk12 hat12 hown9 hO9 hB9 hE9 hr9 hkX hT
                go_wp2
                go_roundw
                case rel =>
                  obtain ⟨g1, g2, g3, g4, g5, g6, g7, g8⟩ := HFin.out
                  refine ⟨t2 + 1, _, _, _, us ++ [(lv, cv, u)], s1, by omega, by go_num, g1, g2, g2.box.lt, g3, g4, g6, ?_, Lib.hid ⟨g7, g8⟩, Lib.hid ?_⟩
                  · simpa using g5
                  · have := HR.out
                    rw [show N2 - (t2 + 1) = j by have := HJ.out; omega, List.map_append]
                    exact this
                case measure => simp [intOf]; omega
            · obtain rfl : t2 = N2 := by omega
              rw [Nat.sub_self, pre_end] at hrd
              have hu := HU.out
              rw [hrd] at hu
              simp only at hu
              have p0 := hr.box.cell 0
              have pl := hr.box.lt
              simp at p0
              obtain ⟨ai, cj, rfl, hcj, hnj⟩ := hr.row.shape
              have hln := hr.len
              by_cases hn0 : 0 < n
              · have d1 : decide ((0 : Int) < (n : Int)) = true := by simpa using hn0
                have d2 : decide (0 < n) = true := by simpa using hn0
                have hne : r ≠ [] := fun e => by rw [e] at hln; simp at hln; omega
                have HB := Lib.hid hB
                have HE := Lib.hid hE
                have HFF : Hid (∀ w'', Keeps (fun i => i = B ∨ i = B + 1) wr w'' → ParseSaid bs w (.returned (.tuple #[.agg #[.slice none 0 0, .slice none 0 0], .int .i64 2])) w'') := Lib.hid fun w'' hk' =>
                  ⟨hkw.trans hk' (fun i hi h => by have := HBB.out; omega), by rw [HPAR.out, hu]; simp [hne]⟩
                clear hu hkw hrd hB hE hO hown hr hln hne hb hl hn0 hUs
                go_wp2
                exact door_bad _ B rfl rfl HB.out HE.out HFF.out
              · obtain rfl : n = 0 := by omega
                have hr0 : r = [] := List.eq_nil_of_length_eq_zero hln
                subst hr0
                have hul : us.length = t2 := by
                  have h1 := hown.len
                  have : ∀ z : List (Value × Value × ImgM.Unt), (z.flatMap uC).length = z.length * 6 := by
                    intro z
                    induction z with
                    | nil => rfl
                    | cons a z ih => simp [uC] at ih ⊢; omega
                  rw [this] at h1
                  omega
                have hxl := HXL.out
                have c0 := hB.cell 0
                have c1 := hB.cell 1
                have f0 := hB.free 0
                have f1 := hB.free 1
                have e0 := hE.cell 0
                have f2 := hE.free 0
                have lB := hB.lt
                have lE := hE.lt
                simp at c0 c1 e0
                have HFin : Hid (∀ w'', Keeps (fun i => i = B ∨ i = B + 1) wr w'' → ParseSaid bs w (.returned (.tuple #[.agg #[bv, uv], .int .i64 0])) w'') := Lib.hid fun w'' hk' => by
                  refine ⟨hkw.trans hk' (fun i hi h => by have := HBB.out; omega), ?_⟩
                  rw [HPAR.out, hu]
                  simp only [if_true]
                  have ho1 := hO.keep hk' (fun b h1 h2 => by have := (hO.lt b h1).1; omega)
                  have ho2 := hown.keep hk' (fun b h1 h2 => by have := (hown.lt b h1).1; omega)
                  refine ⟨_, rfl, bv, uv, us.flatMap uC, rfl, ?_, ?_, fun i hi => ?_⟩
                  · have := ho1.row (by omega)
                    rwa [← hxl] at this
                  · have := ho2.row (by omega)
                    simp only [List.length_map]
                    rwa [← hul] at this
                  · simp only [List.length_map] at hi
                    rw [flat_six us i hi]
                    obtain ⟨h1, h2, -⟩ := hUs.out.1 us[i] (List.getElem_mem hi)
                    have h1' := (h1.keep hk' (fun b g1 g2 => by have := (h1.lt b g1).1; omega)).row (by omega)
                    have h2' := (h2.keep hk' (fun b g1 g2 => by have := (h2.lt b g1).1; omega)).row (by omega)
                    have e : (us.map fun x => x.2.2).getD i default = us[i].2.2 := by simp [List.getD_eq_getElem?_getD, hi]
                    rw [e]
                    exact ⟨_, _, rfl, h1', h2'⟩
                obtain ⟨ab, kb, rfl, -⟩ := (hO.row (by omega)).shape
                obtain ⟨au, ku, rfl, -⟩ := (hown.row (by omega)).shape
                clear hu hkw hrd hB hE hO hown hr hln hb hl hn0 hUs hul hxl
                go_wp2
                refine door_ok _ B rfl rfl (bv := .slice ab t kb) (uv := .slice au t2 ku) (ev := .int .i64 0) ?_ ?_ ?_ (HFin.out _ ?_)
                · simp [go_sem, c0, c1, lB, lE]
                · simp [go_sem, c0, c1, lB, lE]
                · simp [go_sem, c0, c1, e0, lB, lE]
                · repeat (first | exact Keeps.refl _ _ | refine Keeps.setCell (S := fun i => i = B ∨ i = B + 1) ?_ (fun _ => by first | exact .inl rfl | exact .inr rfl) _)
end Go.Proofs.Ytninmkkcphnniaa.Img
