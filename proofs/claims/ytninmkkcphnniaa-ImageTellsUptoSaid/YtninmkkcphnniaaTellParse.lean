/- yieldref6.Parse, walked. -/
import Derived.Test.YtninmkkcphnniaaWlk2
import Derived.Test.YtninmkkcphnniaaBag
import Derived.Test.YtninmkkcphnniaaTellSum
import Derived.Test.YtninmkkcphnniaaModRead
namespace Go.Proofs.Ytninmkkcphnniaa.Wlk
open Go.RowKit Go.Proofs.Ytninmkkcphnniaa.Img
set_option linter.unusedVariables false
set_option linter.unusedSimpArgs false
attribute [local irreducible] Run Cod End OpT Still RunQ RunT Fn PutOk

instance : Enc boxC := ⟨fun _ => rfl, by decide, fun a u hu => by simp [boxC] at hu; rcases hu with rfl | rfl <;> rfl⟩
instance : Enc insC := ⟨fun _ => rfl, by decide, fun a u hu => by simp [insC] at hu; rcases hu with rfl | rfl | rfl <;> rfl⟩
/-- a unit, and where its two slices lie -/
structure UC where
  u : ImgM.Unt
  lo : Option Addr
  lc : Nat
  co : Option Addr
  cc : Nat
instance : Inhabited UC := ⟨⟨default, none, 0, none, 0⟩⟩
def ucell (x : UC) : List Value := [.int .i64 x.u.kind, .int .i64 x.u.params, .slice x.lo x.u.locals.length x.lc, .int .i64 x.u.result, .int .i64 x.u.takes, .slice x.co x.u.code.length x.cc]
instance : Enc ucell := ⟨fun _ => rfl, by decide, fun a u hu => by simp [ucell] at hu; rcases hu with rfl | rfl | rfl | rfl | rfl | rfl <;> rfl⟩
def inner (us : List UC) : List Chunk := us.flatMap fun x => [arr x.lo x.u.locals.length x.lc 3 i64c x.u.locals, arr x.co x.u.code.length x.cc 89 insC x.u.code]
theorem inner_snoc (us : List UC) (x : UC) : inner (us ++ [x]) = inner us ++ [arr x.lo x.u.locals.length x.lc 3 i64c x.u.locals, arr x.co x.u.code.length x.cc 89 insC x.u.code] := by simp [inner]

theorem row_u8c {w : World} {ao : Option Addr} {n cap : Nat} {bs : List Nat} : Row w (.slice ao n cap) (sz u8c) n (bs.flatMap u8c) ↔ Row w (.slice ao n cap) 1 n (u8s bs) := by
  have e : bs.flatMap u8c = u8s bs := by
    induction bs with
    | nil => rfl
    | cons a r ih => rw [List.flatMap_cons, ih]; rfl
  rw [e]
  exact Iff.rfl
theorem sum_is (ao : Option Addr) (n cap : Nat) (bs : List Nat) (hb : ∀ c ∈ bs, c < 256) : Fn Try.prog 26 #[.slice ao n cap] [rd ao n cap u8c bs] [] (σ := Unit) (fun _ => True) (fun _ => .int .u16 (ImgM.crc bs : Nat)) (fun _ => []) := by
  unfold Fn
  intro w hm
  have hr := rd_holds.1 (hm.has .head)
  refine (ref_sum (.slice ao n cap) n bs w (row_u8c.1 hr.1) hb).mono ?_
  rintro e w' ⟨rfl, rfl⟩
  exact ⟨(), trivial, rfl, by simp, (Mem.nil w).since⟩

/-- what is left behind a number, behind a count -/
def nx (st : Option (List Nat)) : Option (List Nat) := (st.bind ImgM.rdNum).map (·.2)
def nxc (st : Option (List Nat)) : Option (List Nat) := (st.bind ImgM.rdCountW).map (·.2)
structure Num (bs : List Nat) (st : Option (List Nat)) (s : Int × Nat × Bool) : Prop where
  is : Is bs s.2.1 s.2.2 (nx st)
  eq : st.bind ImgM.rdNum = (nx st).map (fun r => (s.1, r))
structure Cnt (bs : List Nat) (st : Option (List Nat)) (s : Nat × Nat × Bool) : Prop where
  is : Is bs s.2.1 s.2.2 (nxc st)
  eq : st.bind ImgM.rdCountW = (nxc st).map (fun r => (s.1, r))
  le : s.1 ≤ bs.length
theorem Got.num {bs : List Nat} {st : Option (List Nat)} {s : Int × Nat × Bool} (h : Got bs st s) : Num bs st s := by
  obtain ⟨-, h⟩ := h
  cases hr : st.bind ImgM.rdNum with
  | none => rw [hr] at h; exact ⟨by simpa [nx, hr] using h, by simp [nx, hr]⟩
  | some y =>
    rw [hr] at h
    exact ⟨by simpa [nx, hr] using h.2, by simp [nx, hr, h.1]⟩
theorem Is.len {bs : List Nat} {a : Nat} {bad : Bool} {l : List Nat} (h : Is bs a bad (some l)) : l.length = bs.length - a := by rw [← h.2.2, List.length_drop]
theorem GotC.cnt {bs : List Nat} {st : Option (List Nat)} {s : Nat × Nat × Bool} (h : GotC bs st s) : Cnt bs st s := by
  unfold GotC at h
  cases hr : st.bind ImgM.rdCountW with
  | none => rw [hr] at h; exact ⟨by simpa [nxc, hr] using h.2, by simp [nxc, hr], by rw [h.1]; omega⟩
  | some y =>
    rw [hr] at h
    exact ⟨by simpa [nxc, hr] using h.2.2, by simp [nxc, hr, h.1], by have h1 := h.2.1; have h2 := h.2.2.len; rw [h.1]; omega⟩
/-- the reading of m things is under way: xs are read, r are to come -/
def Goes {α : Type} (f : ImgM.Rd α) (m : Nat) (st : Option (List Nat)) (xs : List α) (st' : Option (List Nat)) (r : Nat) : Prop :=
  xs.length + r = m ∧ st.bind (ImgM.rdMany f m) = (st'.bind (ImgM.rdMany f r)).map (fun p => (xs ++ p.1, p.2))
theorem Goes.start {α : Type} (f : ImgM.Rd α) (m : Nat) (st : Option (List Nat)) : Goes f m st [] st m := ⟨by simp, by simp⟩
theorem Goes.step {α : Type} {f : ImgM.Rd α} {m r : Nat} {st st' st'' : Option (List Nat)} {xs : List α} {a : α} (h : Goes f m st xs st' (r + 1)) (ha : st'.bind f = st''.map (fun l => (a, l))) : Goes f m st (xs ++ [a]) st'' r := by
  refine ⟨by have := h.1; simp; omega, ?_⟩
  rw [h.2]
  cases st' with
  | none =>
    cases st'' with
    | none => rfl
    | some l => cases ha
  | some l =>
    simp only [Option.bind_some] at ha
    cases st'' with
    | none => simp only [Option.map_none] at ha; simp [ImgM.rdMany, ha]
    | some l' =>
      simp only [Option.map_some] at ha
      simp only [Option.bind_some, ImgM.rdMany, ha]
      cases ImgM.rdMany f r l' <;> simp
theorem Goes.stop {α : Type} {f : ImgM.Rd α} {m r : Nat} {st st' : Option (List Nat)} {xs : List α} (h : Goes f m st xs st' r) (h0 : r = 0 ∨ st' = none) : st.bind (ImgM.rdMany f m) = st'.map (fun l => (xs, l)) := by
  rw [h.2]
  rcases h0 with rfl | rfl
  · cases st' <;> simp [ImgM.rdMany]
  · rfl
theorem list_of {α : Type} {f : ImgM.Rd α} {bs : List Nat} {st st' : Option (List Nat)} {s : Nat × Nat × Bool} {xs : List α} (hc : Cnt bs st s) (h : (nxc st).bind (ImgM.rdMany f s.1) = st'.map (fun l => (xs, l))) : st.bind (ImgM.rdListW f) = st'.map (fun l => (xs, l)) := by
  rw [← h]
  have h1 := hc.eq
  cases st with
  | none => rfl
  | some l =>
    simp only [Option.bind_some] at h1 ⊢
    unfold ImgM.rdListW
    rw [h1]
    cases nxc (some l) <;> rfl
theorem two_of {bs : List Nat} {st : Option (List Nat)} {s1 s2 : Int × Nat × Bool} (h1 : Num bs st s1) (h2 : Num bs (nx st) s2) : st.bind ImgM.rdTwo = (nx (nx st)).map (fun l => ((s1.1, s2.1), l)) := by
  have e1 := h1.eq
  have e2 := h2.eq
  cases st with
  | none => rfl
  | some l =>
    simp only [Option.bind_some] at e1 ⊢
    unfold ImgM.rdTwo
    rw [e1]
    generalize nx (some l) = st1 at *
    cases st1 with
    | none => rfl
    | some l1 =>
      simp only [Option.bind_some, Option.map_some] at e2 ⊢
      rw [e2]
      cases nx (some l1) <;> rfl
theorem ins_of {bs : List Nat} {st : Option (List Nat)} {s1 s2 s3 : Int × Nat × Bool} (h1 : Num bs st s1) (h2 : Num bs (nx st) s2) (h3 : Num bs (nx (nx st)) s3) : st.bind ImgM.rdIns = (nx (nx (nx st))).map (fun l => ((⟨s1.1, s2.1, s3.1⟩ : ImgM.Ins), l)) := by
  have e1 := h1.eq
  have e2 := h2.eq
  have e3 := h3.eq
  cases st with
  | none => rfl
  | some l =>
    simp only [Option.bind_some] at e1 ⊢
    unfold ImgM.rdIns
    rw [e1]
    generalize nx (some l) = st1 at *
    cases st1 with
    | none => rfl
    | some l1 =>
      simp only [Option.bind_some, Option.map_some] at e2 ⊢
      rw [e2]
      generalize nx (some l1) = st2 at *
      cases st2 with
      | none => rfl
      | some l2 =>
        simp only [Option.bind_some, Option.map_some] at e3 ⊢
        rw [e3]
        cases nx (some l2) <;> rfl
theorem unt_of {st st1 st2 st3 st4 : Option (List Nat)} {k p r t : Int} {ls : List Int} {is : List ImgM.Ins} (h1 : st.bind ImgM.rdTwo = st1.map (fun l => ((k, p), l))) (h2 : st1.bind (ImgM.rdListW ImgM.rdNum) = st2.map (fun l => (ls, l)))
    (h3 : st2.bind ImgM.rdTwo = st3.map (fun l => ((r, t), l))) (h4 : st3.bind (ImgM.rdListW ImgM.rdIns) = st4.map (fun l => (is, l))) : st.bind ImgM.rdUntW = st4.map (fun l => ((⟨k, p, ls, r, t, is⟩ : ImgM.Unt), l)) := by
  cases st with
  | none =>
    cases st1 with
    | some _ => cases h1
    | none => cases st2 with
      | some _ => cases h2
      | none => cases st3 with
        | some _ => cases h3
        | none => cases st4 with
          | some _ => cases h4
          | none => rfl
  | some l =>
    simp only [Option.bind_some] at h1 ⊢
    unfold ImgM.rdUntW
    rw [h1]
    cases st1 with
    | none => cases st2 with
      | some _ => cases h2
      | none => cases st3 with
        | some _ => cases h3
        | none => cases st4 with
          | some _ => cases h4
          | none => rfl
    | some l1 =>
      simp only [Option.bind_some, Option.map_some] at h2 ⊢
      rw [h2]
      cases st2 with
      | none => cases st3 with
        | some _ => cases h3
        | none => cases st4 with
          | some _ => cases h4
          | none => rfl
      | some l2 =>
        simp only [Option.bind_some, Option.map_some] at h3 ⊢
        rw [h3]
        cases st3 with
        | none => cases st4 with
          | some _ => cases h4
          | none => rfl
        | some l3 =>
          simp only [Option.bind_some, Option.map_some] at h4 ⊢
          rw [h4]
          cases st4 <;> rfl
theorem mdl_of {st st1 st2 : Option (List Nat)} {bx : List (Int × Int)} {us : List ImgM.Unt} (h1 : st.bind (ImgM.rdListW ImgM.rdTwo) = st1.map (fun l => (bx, l))) (h2 : st1.bind (ImgM.rdListW ImgM.rdUntW) = st2.map (fun l => (us, l))) :
    st.bind ImgM.rdMdlW = st2.map (fun l => ((⟨bx, us⟩ : ImgM.Mdl), l)) := by
  cases st with
  | none =>
    cases st1 with
    | some _ => cases h1
    | none => cases st2 with
      | some _ => cases h2
      | none => rfl
  | some l =>
    simp only [Option.bind_some] at h1 ⊢
    unfold ImgM.rdMdlW
    rw [h1]
    cases st1 with
    | none => cases st2 with
      | some _ => cases h2
      | none => rfl
    | some l1 =>
      simp only [Option.bind_some, Option.map_some] at h2 ⊢
      rw [h2]
      cases st2 <;> rfl
theorem Is.bad {bs : List Nat} {a : Nat} {st : Option (List Nat)} (h : Is bs a true st) : st = none := by
  cases st with
  | none => rfl
  | some l => have := h.2.1; simp at this
theorem Is.good {bs : List Nat} {a : Nat} {st : Option (List Nat)} (h : Is bs a false st) : st = some (bs.drop a) := by
  cases st with
  | none => have := h.2; simp at this
  | some l => rw [← h.2.2]
end Go.Proofs.Ytninmkkcphnniaa.Wlk
