/- Plain mathematics: readers whose count is held to the bytes that are left, whatever an element takes at least. Nothing of the program stands here. -/
import Derived.Test.YtninmkkcphnniaaImgRead
namespace Go.Proofs.Ytninmkkcphnniaa.ImgM

def rdCountW : Rd Nat := fun l => match rdNum l with
  | none => none
  | some (x, r) => if x < 0 ∨ (r.length : Int) < x then none else some (x.toNat, r)
def rdListW {α : Type} (f : Rd α) : Rd (List α) := fun l => match rdCountW l with
  | none => none
  | some (n, r) => rdMany f n r

theorem listW {α : Type} {f : Rd α} {wr : α → List Int} {ok : α → Prop} (p : Pair f wr ok) (m : Nat) (hm : 0 < m) (h : ∀ a, m ≤ (wr a).length) (l : List Nat) (hb : ∀ c ∈ l, c < 256) :
    rdListW f l = rdList m f l := by
  unfold rdListW rdList rdCountW rdCount
  cases h1 : rdNum l with
  | none => rfl
  | some x =>
    obtain ⟨x, r⟩ := x
    simp only
    have hbr := in_rest hb (pair_num.back l x r hb h1).1
    by_cases hc : x < 0 ∨ ((r.length / m : Nat) : Int) < x
    · rw [if_pos hc]
      by_cases hw : x < 0 ∨ (r.length : Int) < x
      · rw [if_pos hw]
      · rw [if_neg hw]
        simp only
        cases h2 : rdMany f x.toNat r with
        | none => rfl
        | some y =>
          exfalso
          obtain ⟨as, s⟩ := y
          obtain ⟨e1, e2, -⟩ := (pair_many p).2 _ r as s hbr h2
          have h3 := nums_least wr m h as
          have h4 := congrArg List.length e1
          rw [List.length_append] at h4
          have h5 : x.toNat ≤ r.length / m := by
            rw [Nat.le_div_iff_mul_le hm, Nat.mul_comm, ← e2]
            omega
          omega
    · have h6 : r.length / m ≤ r.length := Nat.div_le_self _ _
      rw [if_neg hc, if_neg (by omega)]

def rdUntW : Rd Unt := fun l => match rdTwo l with
  | none => none
  | some (kp, r1) => match rdListW rdNum r1 with
    | none => none
    | some (ls, r2) => match rdTwo r2 with
      | none => none
      | some (rt, r3) => match rdListW rdIns r3 with
        | none => none
        | some (is, r4) => some (⟨kp.1, kp.2, ls, rt.1, rt.2, is⟩, r4)
def rdMdlW : Rd Mdl := fun l => match rdListW rdTwo l with
  | none => none
  | some (bs, r1) => match rdListW rdUntW r1 with
    | none => none
    | some (us, r2) => some (⟨bs, us⟩, r2)

theorem untW (l : List Nat) (hb : ∀ c ∈ l, c < 256) : rdUntW l = rdUnt l := by
  unfold rdUntW rdUnt
  cases h1 : rdTwo l with
  | none => rfl
  | some x =>
    obtain ⟨x, r1⟩ := x
    have b1 := in_rest hb (pair_two.back l x r1 hb h1).1
    simp only
    rw [listW pair_num 1 (by decide) (fun _ => by simp) r1 b1]
    cases h2 : rdList 1 rdNum r1 with
    | none => rfl
    | some y =>
      obtain ⟨y, r2⟩ := y
      have b2 := in_rest b1 (pair_locals.back r1 y r2 b1 h2).1
      simp only
      cases h3 : rdTwo r2 with
      | none => rfl
      | some z =>
        obtain ⟨z, r3⟩ := z
        have b3 := in_rest b2 (pair_two.back r2 z r3 b2 h3).1
        simp only
        rw [listW pair_ins 3 (by decide) (fun _ => by simp [insN]) r3 b3]
        cases rdList 3 rdIns r3 <;> rfl

theorem manyW (n : Nat) : ∀ (l : List Nat), (∀ c ∈ l, c < 256) → rdMany rdUntW n l = rdMany rdUnt n l := by
  induction n with
  | zero => intro l _; rfl
  | succ n ih =>
    intro l hb
    simp only [rdMany]
    rw [untW l hb]
    cases h1 : rdUnt l with
    | none => rfl
    | some x =>
      obtain ⟨x, r⟩ := x
      simp only
      rw [ih r (in_rest hb (pair_unt.back l x r hb h1).1)]

theorem mdlW (l : List Nat) (hb : ∀ c ∈ l, c < 256) : rdMdlW l = rdMdl l := by
  have p2 := pair_list pair_unt 6 (by decide) (fun _ => by simp [untN]; omega)
  have p1 := pair_list pair_two 2 (by decide) (fun _ => by simp [boxN])
  unfold rdMdlW rdMdl
  rw [listW pair_two 2 (by decide) (fun _ => by simp [boxN]) l hb]
  cases h1 : rdList 2 rdTwo l with
  | none => rfl
  | some x =>
    obtain ⟨x, r⟩ := x
    have hr := in_rest hb (p1.back l x r hb h1).1
    have e : rdListW rdUntW r = rdListW rdUnt r := by
      unfold rdListW
      cases h2 : rdCountW r with
      | none => rfl
      | some y =>
        obtain ⟨n, s⟩ := y
        refine manyW n s ?_
        unfold rdCountW at h2
        cases h3 : rdNum r with
        | none => rw [h3] at h2; cases h2
        | some z =>
          obtain ⟨z, s'⟩ := z
          rw [h3] at h2
          simp only at h2
          split at h2
          · cases h2
          · cases h2
            exact in_rest hr (pair_num.back r z s hr h3).1
    simp only
    rw [e, listW pair_unt 6 (by decide) (fun _ => by simp [untN]; omega) r hr]
    cases rdList 6 rdUnt r <;> rfl
end Go.Proofs.Ytninmkkcphnniaa.ImgM
