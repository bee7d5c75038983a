/- yieldref6's walk over bytes: int, count. -/
import Derived.Test.YtninmkkcphnniaaWlk
namespace Go.Proofs.Ytninmkkcphnniaa.Wlk
open Go.RowKit Go.Proofs.Ytninmkkcphnniaa.Img
set_option linter.unusedVariables false
set_option linter.unusedSimpArgs false
attribute [local irreducible] Run Cod End OpT Still RunQ RunT Fn PutOk

/-- how far the bytes are read: those that are left, if they are not bad -/
def Is (bs : List Nat) (a : Nat) (bad : Bool) (st : Option (List Nat)) : Prop := a ≤ bs.length ∧ match st with
  | none => bad = true
  | some l => bad = false ∧ bs.drop a = l
/-- what reading one number comes to -/
def Got (bs : List Nat) (st : Option (List Nat)) (s : Int × Nat × Bool) : Prop := ImgM.In64 s.1 ∧ match st.bind ImgM.rdNum with
  | none => Is bs s.2.1 s.2.2 none
  | some (x, r) => s.1 = x ∧ Is bs s.2.1 s.2.2 (some r)
theorem Fn.weaken {P : Program} {f : FuncId} {σ : Type} {args : Array Value} {R pre : List Chunk} {post post' : σ → Prop} {val : σ → Value} {mem : σ → List Chunk} (h : Fn P f args R pre post val mem) (hp : ∀ s, post s → post' s) : Fn P f args R pre post' val mem := by
  unfold Fn at h ⊢
  intro w hm
  refine (h w hm).mono ?_
  rintro e w' ⟨x, h1, h2⟩
  exact ⟨x, hp x h1, h2⟩
theorem num_is (p : Nat) (ao : Option Addr) (n cap a : Nat) (bad : Bool) (bs : List Nat) (st : Option (List Nat)) (hb : ∀ c ∈ bs, c < 256) (hn : bs.length = n) (hi : Is bs a bad st) (hn2 : n ≤ 60000) :
    Fn Try.prog 54 #[.pointer (some ⟨p, 0, none⟩)] [rd ao n cap u8c bs] [wk p ao n cap a bad] (Got bs st) (fun s => .int .i64 s.1) (fun s => [wk p ao n cap s.2.1 s.2.2]) := by
  obtain ⟨ha, hi⟩ := hi
  cases st with
  | none =>
    subst hi
    have h := num_bad p ao n cap a
    unfold Fn at h ⊢
    intro w hm
    have hm' : Mem w ([] ++ [wk p ao n cap a true]) := hm.sub (by simp)
    refine (h w hm').mono ?_
    rintro e w' ⟨x, h1, h2, h3, h4⟩
    exact ⟨(0, a, true), ⟨in64_0, ha, rfl⟩, h2, h3, h4⟩
  | some l =>
    obtain ⟨rfl, rfl⟩ := hi
    refine Fn.weaken (num_any p ao n cap a bs hb hn (by omega) hn2) ?_
    rintro ⟨z, a', bad'⟩ ⟨h1, h2, h3⟩
    refine ⟨h2, ?_⟩
    simp only [Option.bind_some] at h3 ⊢
    cases hr : ImgM.rdNum (bs.drop a) with
    | none => rw [hr] at h3; exact ⟨h1, h3⟩
    | some y => rw [hr] at h3; exact ⟨h3.1, h1, h3.2⟩

set_option maxRecDepth 100000 in
theorem int_is (p : Nat) (ao : Option Addr) (n cap a : Nat) (bad : Bool) (bs : List Nat) (st : Option (List Nat)) (hb : ∀ c ∈ bs, c < 256) (hn : bs.length = n) (hi : Is bs a bad st) (hn2 : n ≤ 60000) :
    Fn Try.prog 53 #[.pointer (some ⟨p, 0, none⟩)] [rd ao n cap u8c bs] [wk p ao n cap a bad] (Got bs st) (fun s => .int .i64 s.1) (fun s => [wk p ao n cap s.2.1 s.2.2]) := by
  refine Fn.enter (args := [.pointer (some ⟨p, 0, none⟩)]) Try.func53 rfl _ Try.ntmps53 rfl (by simp [rd_excl]) (fun w S => ?_)
  (try conv => rhs; simp only [List.cons_append, List.nil_append])
  repeat (first | (apply Run.op; exact rfl; (first | refine OpT.val_ (k := ?_) | (refine OpT.alloc_ (k := ?_); intro b) | (refine OpT.box_ (k := ?_); intro b) | refine OpT.store_ (k := ?_) | (refine OpT.buildSlice_ (k := ?_); intro b) | (refine OpT.buildSlice0_ (k := ?_); intro b) | (refine OpT.append1_ (k := ?_); intro ao cap) | (refine OpT.cutA0_ (k := ?_); intro ao cap) | (refine OpT.cutR0_ (k := ?_); intro ao cap) | (refine OpT.cutA_ (k := ?_); intro ao cap) | (refine OpT.cutR_ (k := ?_); intro ao cap))) | refine Cod.seq (fun _ _ => ?_) | apply Cod.region | apply Cod.block | apply Cod.exit | apply Cod.ret | apply Cod.skip | apply Cod.label | apply Run.nil | apply RunQ.nil | (apply End.seq; assumption) | apply End.in_normal | apply End.in_ret | apply End.in_same | apply End.then_exit | apply End.then_ret | refine End.in_other_ (h := ?_) | refine Cod.cond_true_ (h1 := ?_) | refine Cod.cond_false_ (h1 := ?_) | refine Cod.quiet_ (h := ?_) | refine RunQ.val_ (k := ?_) | refine RunQ.yes_ (k := ?_) | refine RunQ.no_ (k := ?_) | refine RunQ.undef_ (k := ?_) | (refine Run.yes_ (h := ?_); (first | refine OpT.val_ (k := ?_) | (refine OpT.alloc_ (k := ?_); intro b) | (refine OpT.box_ (k := ?_); intro b) | refine OpT.store_ (k := ?_) | (refine OpT.buildSlice_ (k := ?_); intro b) | (refine OpT.buildSlice0_ (k := ?_); intro b) | (refine OpT.append1_ (k := ?_); intro ao cap) | (refine OpT.cutA0_ (k := ?_); intro ao cap) | (refine OpT.cutR0_ (k := ?_); intro ao cap) | (refine OpT.cutA_ (k := ?_); intro ao cap) | (refine OpT.cutR_ (k := ?_); intro ao cap))) | refine Run.no_ (k := ?_) | refine Run.undef_ (k := ?_) | refine Run.knowT_ (k := ?_) | refine Run.knowF_ (k := ?_) | refine RunQ.knowT_ (k := ?_) | refine RunQ.knowF_ (k := ?_))
  (apply Run.op; exact rfl; refine OpT.call0_ (spec := num_is p ao n cap a bad bs st hb hn hi hn2) (k := ?_); intro s hs; (try conv => rhs; simp only [List.cons_append, List.nil_append]))
  repeat (first | (apply Run.op; exact rfl; (first | refine OpT.val_ (k := ?_) | (refine OpT.alloc_ (k := ?_); intro b) | (refine OpT.box_ (k := ?_); intro b) | refine OpT.store_ (k := ?_) | (refine OpT.buildSlice_ (k := ?_); intro b) | (refine OpT.buildSlice0_ (k := ?_); intro b) | (refine OpT.append1_ (k := ?_); intro ao cap) | (refine OpT.cutA0_ (k := ?_); intro ao cap) | (refine OpT.cutR0_ (k := ?_); intro ao cap) | (refine OpT.cutA_ (k := ?_); intro ao cap) | (refine OpT.cutR_ (k := ?_); intro ao cap))) | refine Cod.seq (fun _ _ => ?_) | apply Cod.region | apply Cod.block | apply Cod.exit | apply Cod.ret | apply Cod.skip | apply Cod.label | apply Run.nil | apply RunQ.nil | (apply End.seq; assumption) | apply End.in_normal | apply End.in_ret | apply End.in_same | apply End.then_exit | apply End.then_ret | refine End.in_other_ (h := ?_) | refine Cod.cond_true_ (h1 := ?_) | refine Cod.cond_false_ (h1 := ?_) | refine Cod.quiet_ (h := ?_) | refine RunQ.val_ (k := ?_) | refine RunQ.yes_ (k := ?_) | refine RunQ.no_ (k := ?_) | refine RunQ.undef_ (k := ?_) | (refine Run.yes_ (h := ?_); (first | refine OpT.val_ (k := ?_) | (refine OpT.alloc_ (k := ?_); intro b) | (refine OpT.box_ (k := ?_); intro b) | refine OpT.store_ (k := ?_) | (refine OpT.buildSlice_ (k := ?_); intro b) | (refine OpT.buildSlice0_ (k := ?_); intro b) | (refine OpT.append1_ (k := ?_); intro ao cap) | (refine OpT.cutA0_ (k := ?_); intro ao cap) | (refine OpT.cutR0_ (k := ?_); intro ao cap) | (refine OpT.cutA_ (k := ?_); intro ao cap) | (refine OpT.cutR_ (k := ?_); intro ao cap))) | refine Run.no_ (k := ?_) | refine Run.undef_ (k := ?_) | refine Run.knowT_ (k := ?_) | refine Run.knowF_ (k := ?_) | refine RunQ.knowT_ (k := ?_) | refine RunQ.knowF_ (k := ?_))
  (apply End.done1 s; (focus (exact rfl)); (focus (exact rfl)); (focus (first | exact rfl | (refine congrArg (Value.int _) ?_; omega) | (refine congrArg (Value.int _) ?_; dsimp only; omega))); rotate_left; (focus (simp [blk_excl, arr_excl, bag_excl])); (focus (repeat (first | exact Takes.nil | exact Take.head | apply Take.tail | apply Takes.cons))))
  exact hs

/-- what reading how many comes to -/
def GotC (bs : List Nat) (st : Option (List Nat)) (s : Nat × Nat × Bool) : Prop := match st.bind ImgM.rdCountW with
  | none => s.1 = 0 ∧ Is bs s.2.1 s.2.2 none
  | some (x, r) => s.1 = x ∧ x ≤ r.length ∧ Is bs s.2.1 s.2.2 (some r)
set_option maxRecDepth 100000 in
theorem count_is (p : Nat) (ao : Option Addr) (n cap a : Nat) (bad : Bool) (bs : List Nat) (st : Option (List Nat)) (hb : ∀ c ∈ bs, c < 256) (hn : bs.length = n) (hi : Is bs a bad st) (hn2 : n ≤ 60000) :
    Fn Try.prog 52 #[.pointer (some ⟨p, 0, none⟩)] [rd ao n cap u8c bs] [wk p ao n cap a bad] (GotC bs st) (fun s => .int .i64 (s.1 : Int)) (fun s => [wk p ao n cap s.2.1 s.2.2]) := by
  refine Fn.enter (args := [.pointer (some ⟨p, 0, none⟩)]) Try.func52 rfl _ Try.ntmps52 rfl (by simp [rd_excl]) (fun w S => ?_)
  (try conv => rhs; simp only [List.cons_append, List.nil_append])
  repeat (first | (apply Run.op; exact rfl; (first | refine OpT.val_ (k := ?_) | (refine OpT.alloc_ (k := ?_); intro b) | (refine OpT.box_ (k := ?_); intro b) | refine OpT.store_ (k := ?_) | (refine OpT.buildSlice_ (k := ?_); intro b) | (refine OpT.buildSlice0_ (k := ?_); intro b) | (refine OpT.append1_ (k := ?_); intro ao cap) | (refine OpT.cutA0_ (k := ?_); intro ao cap) | (refine OpT.cutR0_ (k := ?_); intro ao cap) | (refine OpT.cutA_ (k := ?_); intro ao cap) | (refine OpT.cutR_ (k := ?_); intro ao cap))) | refine Cod.seq (fun _ _ => ?_) | apply Cod.region | apply Cod.block | apply Cod.exit | apply Cod.ret | apply Cod.skip | apply Cod.label | apply Run.nil | apply RunQ.nil | (apply End.seq; assumption) | apply End.in_normal | apply End.in_ret | apply End.in_same | apply End.then_exit | apply End.then_ret | refine End.in_other_ (h := ?_) | refine Cod.cond_true_ (h1 := ?_) | refine Cod.cond_false_ (h1 := ?_) | refine Cod.quiet_ (h := ?_) | refine RunQ.val_ (k := ?_) | refine RunQ.yes_ (k := ?_) | refine RunQ.no_ (k := ?_) | refine RunQ.undef_ (k := ?_) | (refine Run.yes_ (h := ?_); (first | refine OpT.val_ (k := ?_) | (refine OpT.alloc_ (k := ?_); intro b) | (refine OpT.box_ (k := ?_); intro b) | refine OpT.store_ (k := ?_) | (refine OpT.buildSlice_ (k := ?_); intro b) | (refine OpT.buildSlice0_ (k := ?_); intro b) | (refine OpT.append1_ (k := ?_); intro ao cap) | (refine OpT.cutA0_ (k := ?_); intro ao cap) | (refine OpT.cutR0_ (k := ?_); intro ao cap) | (refine OpT.cutA_ (k := ?_); intro ao cap) | (refine OpT.cutR_ (k := ?_); intro ao cap))) | refine Run.no_ (k := ?_) | refine Run.undef_ (k := ?_) | refine Run.knowT_ (k := ?_) | refine Run.knowF_ (k := ?_) | refine RunQ.knowT_ (k := ?_) | refine RunQ.knowF_ (k := ?_))
  (apply Run.op; exact rfl; refine OpT.call0_ (spec := num_is p ao n cap a bad bs st hb hn hi hn2) (k := ?_); intro s hs; (try conv => rhs; simp only [List.cons_append, List.nil_append]))
  obtain ⟨z, a', bad'⟩ := s
  obtain ⟨hz, hs⟩ := hs
  simp only at hz hs ⊢
  have hz' := hz
  unfold ImgM.In64 at hz'
  have ha' : a' ≤ n := by
    cases h : st.bind ImgM.rdNum with
    | none => rw [h] at hs; have := hs.1; omega
    | some y => rw [h] at hs; have := hs.2.1; omega
  have hbad : ∀ (st' : Option (Int × List Nat)), st' = st.bind ImgM.rdNum → (∀ x r, st' = some (x, r) → x < 0 ∨ (r.length : Int) < x) → st.bind ImgM.rdCountW = none := by
    intro st' h1 h2
    cases st with
    | none => rfl
    | some l =>
      simp only [Option.bind_some] at h1 ⊢
      unfold ImgM.rdCountW
      rw [← h1]
      cases st' with
      | none => rfl
      | some y => simp only; rw [if_pos (h2 y.1 y.2 rfl)]
  by_cases hneg : z < 0
  · repeat (first | (apply Run.op; exact rfl; (first | refine OpT.val_ (k := ?_) | (refine OpT.alloc_ (k := ?_); intro b) | (refine OpT.box_ (k := ?_); intro b) | refine OpT.store_ (k := ?_) | (refine OpT.buildSlice_ (k := ?_); intro b) | (refine OpT.buildSlice0_ (k := ?_); intro b) | (refine OpT.append1_ (k := ?_); intro ao cap) | (refine OpT.cutA0_ (k := ?_); intro ao cap) | (refine OpT.cutR0_ (k := ?_); intro ao cap) | (refine OpT.cutA_ (k := ?_); intro ao cap) | (refine OpT.cutR_ (k := ?_); intro ao cap))) | refine Cod.seq (fun _ _ => ?_) | apply Cod.region | apply Cod.block | apply Cod.exit | apply Cod.ret | apply Cod.skip | apply Cod.label | apply Run.nil | apply RunQ.nil | (apply End.seq; assumption) | apply End.in_normal | apply End.in_ret | apply End.in_same | apply End.then_exit | apply End.then_ret | refine End.in_other_ (h := ?_) | refine Cod.cond_true_ (h1 := ?_) | refine Cod.cond_false_ (h1 := ?_) | refine Cod.quiet_ (h := ?_) | refine RunQ.val_ (k := ?_) | refine RunQ.yes_ (k := ?_) | refine RunQ.no_ (k := ?_) | refine RunQ.undef_ (k := ?_) | (refine Run.yes_ (h := ?_); (first | refine OpT.val_ (k := ?_) | (refine OpT.alloc_ (k := ?_); intro b) | (refine OpT.box_ (k := ?_); intro b) | refine OpT.store_ (k := ?_) | (refine OpT.buildSlice_ (k := ?_); intro b) | (refine OpT.buildSlice0_ (k := ?_); intro b) | (refine OpT.append1_ (k := ?_); intro ao cap) | (refine OpT.cutA0_ (k := ?_); intro ao cap) | (refine OpT.cutR0_ (k := ?_); intro ao cap) | (refine OpT.cutA_ (k := ?_); intro ao cap) | (refine OpT.cutR_ (k := ?_); intro ao cap))) | refine Run.no_ (k := ?_) | refine Run.undef_ (k := ?_) | refine Run.knowT_ (k := ?_) | refine Run.knowF_ (k := ?_) | refine RunQ.knowT_ (k := ?_) | refine RunQ.knowF_ (k := ?_))
    (apply End.done1 (0, a', true); (focus (exact rfl)); (focus (exact rfl)); (focus (first | exact rfl | (refine congrArg (Value.int _) ?_; omega) | (refine congrArg (Value.int _) ?_; dsimp only; omega))); rotate_left; (focus (simp [blk_excl, arr_excl, bag_excl])); (focus (repeat (first | exact Takes.nil | exact Take.head | apply Take.tail | apply Takes.cons))))
    unfold GotC
    rw [hbad _ rfl (fun x r h => by rw [h] at hs; have := hs.1; omega)]
    exact ⟨rfl, by simp only; omega, rfl⟩
  · by_cases hbig : (n : Int) - a' < z
    · repeat (first | (apply Run.op; exact rfl; (first | refine OpT.val_ (k := ?_) | (refine OpT.alloc_ (k := ?_); intro b) | (refine OpT.box_ (k := ?_); intro b) | refine OpT.store_ (k := ?_) | (refine OpT.buildSlice_ (k := ?_); intro b) | (refine OpT.buildSlice0_ (k := ?_); intro b) | (refine OpT.append1_ (k := ?_); intro ao cap) | (refine OpT.cutA0_ (k := ?_); intro ao cap) | (refine OpT.cutR0_ (k := ?_); intro ao cap) | (refine OpT.cutA_ (k := ?_); intro ao cap) | (refine OpT.cutR_ (k := ?_); intro ao cap))) | refine Cod.seq (fun _ _ => ?_) | apply Cod.region | apply Cod.block | apply Cod.exit | apply Cod.ret | apply Cod.skip | apply Cod.label | apply Run.nil | apply RunQ.nil | (apply End.seq; assumption) | apply End.in_normal | apply End.in_ret | apply End.in_same | apply End.then_exit | apply End.then_ret | refine End.in_other_ (h := ?_) | refine Cod.cond_true_ (h1 := ?_) | refine Cod.cond_false_ (h1 := ?_) | refine Cod.quiet_ (h := ?_) | refine RunQ.val_ (k := ?_) | refine RunQ.yes_ (k := ?_) | refine RunQ.no_ (k := ?_) | refine RunQ.undef_ (k := ?_) | (refine Run.yes_ (h := ?_); (first | refine OpT.val_ (k := ?_) | (refine OpT.alloc_ (k := ?_); intro b) | (refine OpT.box_ (k := ?_); intro b) | refine OpT.store_ (k := ?_) | (refine OpT.buildSlice_ (k := ?_); intro b) | (refine OpT.buildSlice0_ (k := ?_); intro b) | (refine OpT.append1_ (k := ?_); intro ao cap) | (refine OpT.cutA0_ (k := ?_); intro ao cap) | (refine OpT.cutR0_ (k := ?_); intro ao cap) | (refine OpT.cutA_ (k := ?_); intro ao cap) | (refine OpT.cutR_ (k := ?_); intro ao cap))) | refine Run.no_ (k := ?_) | refine Run.undef_ (k := ?_) | refine Run.knowT_ (k := ?_) | refine Run.knowF_ (k := ?_) | refine RunQ.knowT_ (k := ?_) | refine RunQ.knowF_ (k := ?_))
      (apply End.done1 (0, a', true); (focus (exact rfl)); (focus (exact rfl)); (focus (first | exact rfl | (refine congrArg (Value.int _) ?_; omega) | (refine congrArg (Value.int _) ?_; dsimp only; omega))); rotate_left; (focus (simp [blk_excl, arr_excl, bag_excl])); (focus (repeat (first | exact Takes.nil | exact Take.head | apply Take.tail | apply Takes.cons))))
      unfold GotC
      rw [hbad _ rfl (fun x r h => by
        rw [h] at hs
        have h1 := hs.1
        have h2 := hs.2.2.2
        have : r.length = n - a' := by rw [← h2, List.length_drop, hn]
        omega)]
      exact ⟨rfl, by simp only; omega, rfl⟩
    · cases bad' with
      | true =>
        repeat (first | (apply Run.op; exact rfl; (first | refine OpT.val_ (k := ?_) | (refine OpT.alloc_ (k := ?_); intro b) | (refine OpT.box_ (k := ?_); intro b) | refine OpT.store_ (k := ?_) | (refine OpT.buildSlice_ (k := ?_); intro b) | (refine OpT.buildSlice0_ (k := ?_); intro b) | (refine OpT.append1_ (k := ?_); intro ao cap) | (refine OpT.cutA0_ (k := ?_); intro ao cap) | (refine OpT.cutR0_ (k := ?_); intro ao cap) | (refine OpT.cutA_ (k := ?_); intro ao cap) | (refine OpT.cutR_ (k := ?_); intro ao cap))) | refine Cod.seq (fun _ _ => ?_) | apply Cod.region | apply Cod.block | apply Cod.exit | apply Cod.ret | apply Cod.skip | apply Cod.label | apply Run.nil | apply RunQ.nil | (apply End.seq; assumption) | apply End.in_normal | apply End.in_ret | apply End.in_same | apply End.then_exit | apply End.then_ret | refine End.in_other_ (h := ?_) | refine Cod.cond_true_ (h1 := ?_) | refine Cod.cond_false_ (h1 := ?_) | refine Cod.quiet_ (h := ?_) | refine RunQ.val_ (k := ?_) | refine RunQ.yes_ (k := ?_) | refine RunQ.no_ (k := ?_) | refine RunQ.undef_ (k := ?_) | (refine Run.yes_ (h := ?_); (first | refine OpT.val_ (k := ?_) | (refine OpT.alloc_ (k := ?_); intro b) | (refine OpT.box_ (k := ?_); intro b) | refine OpT.store_ (k := ?_) | (refine OpT.buildSlice_ (k := ?_); intro b) | (refine OpT.buildSlice0_ (k := ?_); intro b) | (refine OpT.append1_ (k := ?_); intro ao cap) | (refine OpT.cutA0_ (k := ?_); intro ao cap) | (refine OpT.cutR0_ (k := ?_); intro ao cap) | (refine OpT.cutA_ (k := ?_); intro ao cap) | (refine OpT.cutR_ (k := ?_); intro ao cap))) | refine Run.no_ (k := ?_) | refine Run.undef_ (k := ?_) | refine Run.knowT_ (k := ?_) | refine Run.knowF_ (k := ?_) | refine RunQ.knowT_ (k := ?_) | refine RunQ.knowF_ (k := ?_))
        (apply End.done1 (0, a', true); (focus (exact rfl)); (focus (exact rfl)); (focus (first | exact rfl | (refine congrArg (Value.int _) ?_; omega) | (refine congrArg (Value.int _) ?_; dsimp only; omega))); rotate_left; (focus (simp [blk_excl, arr_excl, bag_excl])); (focus (repeat (first | exact Takes.nil | exact Take.head | apply Take.tail | apply Takes.cons))))
        unfold GotC
        have : st.bind ImgM.rdCountW = none := by
          cases hst : st.bind ImgM.rdNum with
          | none => exact hbad none hst.symm (fun x r h => by cases h)
          | some y => rw [hst] at hs; have := hs.2.2.1; simp at this
        rw [this]
        exact ⟨rfl, by simp only; omega, rfl⟩
      | false =>
        repeat (first | (apply Run.op; exact rfl; (first | refine OpT.val_ (k := ?_) | (refine OpT.alloc_ (k := ?_); intro b) | (refine OpT.box_ (k := ?_); intro b) | refine OpT.store_ (k := ?_) | (refine OpT.buildSlice_ (k := ?_); intro b) | (refine OpT.buildSlice0_ (k := ?_); intro b) | (refine OpT.append1_ (k := ?_); intro ao cap) | (refine OpT.cutA0_ (k := ?_); intro ao cap) | (refine OpT.cutR0_ (k := ?_); intro ao cap) | (refine OpT.cutA_ (k := ?_); intro ao cap) | (refine OpT.cutR_ (k := ?_); intro ao cap))) | refine Cod.seq (fun _ _ => ?_) | apply Cod.region | apply Cod.block | apply Cod.exit | apply Cod.ret | apply Cod.skip | apply Cod.label | apply Run.nil | apply RunQ.nil | (apply End.seq; assumption) | apply End.in_normal | apply End.in_ret | apply End.in_same | apply End.then_exit | apply End.then_ret | refine End.in_other_ (h := ?_) | refine Cod.cond_true_ (h1 := ?_) | refine Cod.cond_false_ (h1 := ?_) | refine Cod.quiet_ (h := ?_) | refine RunQ.val_ (k := ?_) | refine RunQ.yes_ (k := ?_) | refine RunQ.no_ (k := ?_) | refine RunQ.undef_ (k := ?_) | (refine Run.yes_ (h := ?_); (first | refine OpT.val_ (k := ?_) | (refine OpT.alloc_ (k := ?_); intro b) | (refine OpT.box_ (k := ?_); intro b) | refine OpT.store_ (k := ?_) | (refine OpT.buildSlice_ (k := ?_); intro b) | (refine OpT.buildSlice0_ (k := ?_); intro b) | (refine OpT.append1_ (k := ?_); intro ao cap) | (refine OpT.cutA0_ (k := ?_); intro ao cap) | (refine OpT.cutR0_ (k := ?_); intro ao cap) | (refine OpT.cutA_ (k := ?_); intro ao cap) | (refine OpT.cutR_ (k := ?_); intro ao cap))) | refine Run.no_ (k := ?_) | refine Run.undef_ (k := ?_) | refine Run.knowT_ (k := ?_) | refine Run.knowF_ (k := ?_) | refine RunQ.knowT_ (k := ?_) | refine RunQ.knowF_ (k := ?_))
        (apply End.done1 (z.toNat, a', false); (focus (exact rfl)); (focus (exact rfl)); (focus (first | exact rfl | (refine congrArg (Value.int _) ?_; omega) | (refine congrArg (Value.int _) ?_; dsimp only; omega))); rotate_left; (focus (simp [blk_excl, arr_excl, bag_excl])); (focus (repeat (first | exact Takes.nil | exact Take.head | apply Take.tail | apply Takes.cons))))
        unfold GotC
        cases st with
        | none => have := hs.2; simp at this
        | some l =>
          simp only [Option.bind_some] at hs ⊢
          unfold ImgM.rdCountW
          cases hr : ImgM.rdNum l with
          | none => rw [hr] at hs; have := hs.2; simp at this
          | some y =>
            obtain ⟨x, r⟩ := y
            rw [hr] at hs
            obtain ⟨rfl, hs⟩ := hs
            have h2 := hs.2.2
            have : r.length = n - a' := by rw [← h2, List.length_drop, hn]
            simp only
            rw [if_neg (by omega)]
            exact ⟨rfl, by omega, hs⟩
end Go.Proofs.Ytninmkkcphnniaa.Wlk
