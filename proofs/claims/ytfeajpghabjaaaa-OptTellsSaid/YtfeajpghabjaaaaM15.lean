/- Package opt, walked: three instructions. -/
import Derived.Test.YtfeajpghabjaaaaM14
namespace Go.Proofs.Ytfeajpghabjaaaa.Vw
open Go.RowKit Go.Proofs.Ytfeajpghabjaaaa.Img
set_option linter.unusedVariables false
set_option linter.unusedSimpArgs false
attribute [local irreducible] Run Cod End OpT Still RunQ RunS RunT Fn PutOk
/-- what came of a rule, and where it lies -/
abbrev resL (r : Option (List ImgM.Ins)) : List ImgM.Ins := r.getD []
abbrev resV (r : Option (List ImgM.Ins)) (s : Option Addr × Nat) : Value := .tuple #[.slice s.1 (resL r).length s.2, .bool r.isSome]
set_option maxRecDepth 100000 in
set_option maxHeartbeats 1000000 in
theorem three_is (x y z : ImgM.Ins) (hx : ImgM.In64 x.a ∧ ImgM.In64 x.n) (hy : ImgM.In64 y.a ∧ ImgM.In64 y.n) : Fn Try.prog 96 #[insV x, insV y, insV z] [] [] (σ := Option Addr × Nat) (fun _ => True) (fun s => resV (Opt.three x y z) s) (fun s => [arr s.1 (resL (Opt.three x y z)).length s.2 57 insC (resL (Opt.three x y z))]) := by
  have hcx := cval_in hx.1 hx.2
  have hcy := cval_in hy.1 hy.2
  refine Fn.enter (args := [insV x, insV y, insV z]) Try.func96 rfl _ Try.ntmps96 rfl (by simp [rd_excl, md_excl]) (fun w S => ?_)
  (try conv => rhs; simp only [List.cons_append, List.nil_append])
  repeat' (first | ((first | (apply Run.op; exact rfl) | refine Run.yes_ (h := ?_)); refine OpT.call0_ (spec := constant_is x hx.1) (k := ?_); intro s hs; (try conv => rhs; simp only [List.cons_append, List.nil_append])) | ((first | (apply Run.op; exact rfl) | refine Run.yes_ (h := ?_)); refine OpT.call0_ (spec := constant_is y hy.1) (k := ?_); intro s hs; (try conv => rhs; simp only [List.cons_append, List.nil_append])) | refine go (k := ?_) | (refine goB (k := ?_); intro b) | (refine goA (k := ?_); intro ao cap) | refine goQ (k := fun h => ?_) (k' := fun h => ?_) | fail)
  all_goals first
    | (have hn : Opt.three x y z = none := by
         unfold Opt.three
         repeat' split
         all_goals first | rfl | (exfalso; simp_all; done) | (exfalso; simp_all; omega)
       rw [hn]
       apply End.imp (fun w hm => hm.nilArr 57 insC)
       refine End.done2_ (none, 0) (he := rfl) (hp := ?_)
       trivial)
    | (have hn : Opt.three x y z = some (Opt.known (Opt.two2 z.op (Opt.cval x) (Opt.cval y)) (decide (12 < z.op))) := by
         unfold Opt.three
         repeat' split
         all_goals first | rfl | (exfalso; simp_all; done) | (exfalso; simp_all; omega)
       have h0 : z.op = 11 ∨ z.op = 12 → Opt.cval y ≠ 0 := by omega
       rw [hn]
       obtain ⟨zb, rfl⟩ : ∃ x, x = b := ⟨_, rfl⟩
       apply Cod.draw 8 ([blk zb (insC z) 57]) (by kernel_rfl) 11 rfl
       refine RunT.takeR_ 0 (h := ?_)
       refine RunT.takeR_ 1 (h := ?_)
       refine RunT.takeR_ 2 (h := ?_)
       refine RunT.takeR_ 3 (h := ?_)
       refine RunT.takeR_ 5 (h := ?_)
       refine RunT.takeR_ 6 (h := ?_)
       refine RunT.takeR_ 7 (h := ?_)
       (refine RunT.one_ 4 (h := ?_); refine OpT.call0_ (spec := two2_is _ _ _ hcx hcy h0) (k := ?_); intro s hs; refine And.intro gud ?_; (try conv => rhs; simp only [List.cons_append, List.nil_append]))
       (refine RunT.one_ 8 (h := ?_); refine OpT.call0_ (spec := known_is _ _ (two2_in hcx hcy h0)) (k := ?_); intro s hs; refine And.intro gud ?_; (try conv => rhs; simp only [List.cons_append, List.nil_append]))
       refine RunT.take0_ 9 (h := ?_)
       refine RunT.take0_ 10 (h := ?_)
       (apply RunT.done; kernel_rfl)
       repeat (first | refine go (k := ?_) | (refine goB (k := ?_); intro b) | (refine goA (k := ?_); intro ao cap))
       have hl := Opt.known_len (Opt.two2 z.op (Opt.cval x) (Opt.cval y)) (decide (12 < z.op))
       refine End.done2_ (some ⟨s, 0, none⟩, 1) (he := by simp only [resV, resL, Option.getD_some, hl, Option.isSome_some]) (ht := by (repeat (first | exact Takes.nil | exact Take.head | (refine Take.blkEq ?_; (focus (first | rfl | (simp; done) | (simp; omega) | omega | (simp [*]; done)))) | (refine Take.arrEq ?_ ?_; (focus (first | rfl | (simp; done) | (simp; omega) | omega | (simp [*]; done))); (focus (first | rfl | (simp; done) | (simp; omega) | omega | (simp [*]; done)))) | apply Take.tail | apply Takes.cons))) (hp := ?_)
       trivial)
end Go.Proofs.Ytfeajpghabjaaaa.Vw

/- Package opt, walked: two instructions. -/
namespace Go.Proofs.Ytfeajpghabjaaaa.Vw
open Go.RowKit Go.Proofs.Ytfeajpghabjaaaa.Img
set_option linter.unusedVariables false
set_option linter.unusedSimpArgs false
attribute [local irreducible] Run Cod End OpT Still RunQ RunS RunT Fn PutOk

set_option maxRecDepth 100000 in
set_option maxHeartbeats 1000000 in
theorem pair_is (x y : ImgM.Ins) (hx : ImgM.In64 x.a ∧ ImgM.In64 x.n) : Fn Try.prog 97 #[insV x, insV y] [] [] (σ := Option Addr × Nat) (fun _ => True) (fun s => resV (Opt.pair x y) s) (fun s => [arr s.1 (resL (Opt.pair x y)).length s.2 57 insC (resL (Opt.pair x y))]) := by
  have hcx := cval_in hx.1 hx.2
  have hw1 : IntKind.i64.wrap (0 - Opt.cval x) = IntKind.i64.wrap (-(Opt.cval x)) := by rw [Int.zero_sub]
  refine Fn.enter (args := [insV x, insV y]) Try.func97 rfl _ Try.ntmps97 rfl (by simp [rd_excl, md_excl]) (fun w S => ?_)
  (try conv => rhs; simp only [List.cons_append, List.nil_append])
  repeat' (first | ((first | (apply Run.op; exact rfl) | refine Run.yes_ (h := ?_)); refine OpT.call0_ (spec := constant_is x hx.1) (k := ?_); intro s hs; (try conv => rhs; simp only [List.cons_append, List.nil_append])) | ((first | (apply Run.op; exact rfl) | refine Run.yes_ (h := ?_)); refine OpT.call0_ (spec := known_is _ _ (wrap_in _)) (k := ?_); intro s hs; (try conv => rhs; simp only [List.cons_append, List.nil_append])) | refine go (k := ?_) | (refine goB (k := ?_); intro b) | (refine goA (k := ?_); intro ao cap) | refine goQ (k := fun h => ?_) (k' := fun h => ?_) | fail)
  all_goals first
    | (have hn : Opt.pair x y = none := (by unfold Opt.pair; (repeat' split); all_goals first | rfl | (exfalso; simp_all; done) | (exfalso; simp_all; omega))
       rw [hn]
       apply End.imp (fun w hm => hm.nilArr 57 insC)
       refine End.done2_ (none, 0) (he := rfl) (hp := trivial))
    | (have hn : Opt.pair x y = some [] := (by unfold Opt.pair; (repeat' split); all_goals first | rfl | (exfalso; simp_all; done) | (exfalso; simp_all; omega))
       rw [hn]
       apply End.imp (fun w hm => hm.nilArr 57 insC)
       refine End.done2_ (none, 0) (he := rfl) (hp := trivial))
    | (have hn : Opt.pair x y = some (Opt.known (IntKind.i64.wrap (-(Opt.cval x))) false) := (by unfold Opt.pair; (repeat' split); all_goals first | rfl | (exfalso; simp_all; done) | (exfalso; simp_all; omega))
       rw [hn]
       try simp only [hw1]
       refine End.done2_ (some ⟨s, 0, none⟩, 1) (he := rfl) (hp := trivial))
    | (have hn : Opt.pair x y = some (Opt.known (IntKind.i64.wrap (1 - Opt.cval x)) true) := (by unfold Opt.pair; (repeat' split); all_goals first | rfl | (exfalso; simp_all; done) | (exfalso; simp_all; omega))
       rw [hn]
       refine End.done2_ (some ⟨s, 0, none⟩, 1) (he := rfl) (hp := trivial))
    | (have hn : Opt.pair x y = some [⟨21, y.a, 0⟩] := (by unfold Opt.pair; (repeat' split); all_goals first | rfl | (exfalso; simp_all; done) | (exfalso; simp_all; omega))
       rw [hn]
       obtain ⟨zb, rfl⟩ : ∃ x, x = b := ⟨_, rfl⟩
       apply End.imp (fun w hm => Mem.toArr (b := zb) (e := 57) (f := insC) (n := 1) hm (by (repeat (first | exact Take.head | apply Take.tail))) [⟨21, y.a, 0⟩] rfl rfl (by unfold maxLen; simp))
       refine End.done2_ (some ⟨zb, 0, none⟩, 1) (he := rfl) (hp := trivial))

/-- where code jumps to, as a map -/
def TgtOk (l : List ImgM.Ins) (en : List (Int × Bool)) : Prop := ∀ p : Int, mfind en p = if Opt.tgt l p then some true else none
theorem mfind_put (en : List (Int × Bool)) (k p : Int) (v : Bool) : mfind (mput en k v) p = if k = p then some v else mfind en p := by
  induction en with
  | nil => unfold mput mfind; by_cases h : k = p <;> simp [h, mfind]
  | cons e r ih =>
    obtain ⟨j, u⟩ := e
    unfold mput
    by_cases hjk : j = k
    · subst hjk
      simp only [if_true]
      unfold mfind
      by_cases h : j = p <;> simp [h]
    · simp only [hjk, if_false]
      unfold mfind
      by_cases h : j = p
      · subst h; simp [Ne.symm hjk]
      · simp only [h, if_false]; exact ih
theorem tgt_snoc (l : List ImgM.Ins) (i : ImgM.Ins) (p : Int) : Opt.tgt (l ++ [i]) p = (Opt.tgt l p || (Opt.isJ i && decide (i.a = p))) := by unfold Opt.tgt; simp
theorem TgtOk.no {l : List ImgM.Ins} {en : List (Int × Bool)} {i : ImgM.Ins} (h : TgtOk l en) (hi : Opt.isJ i = false) : TgtOk (l ++ [i]) en := fun p => by
  rw [tgt_snoc, hi, h p]; simp
theorem TgtOk.yes {l : List ImgM.Ins} {en : List (Int × Bool)} {i : ImgM.Ins} (h : TgtOk l en) (hi : Opt.isJ i = true) : TgtOk (l ++ [i]) (mput en i.a true) := fun p => by
  rw [tgt_snoc, hi, mfind_put, h p]
  by_cases hp : i.a = p <;> simp [hp]
set_option maxRecDepth 100000 in
set_option maxHeartbeats 1000000 in
theorem targets_is (ao : Option Addr) (n cap : Nat) (l : List ImgM.Ins) (hn : l.length = n) (hm : n ≤ 1000000) : Fn Try.prog 57 #[.slice ao n cap] [rd ao n cap insC l] [] (σ := Nat × List (Int × Bool)) (fun s => TgtOk l s.2) (fun s => .map (some s.1)) (fun s => [mp s.1 Value.bool s.2]) := by
  refine Fn.enter (args := [.slice ao n cap]) Try.func57 rfl _ Try.ntmps57 rfl (by simp [rd_excl, md_excl]) (fun w S => ?_)
  (try conv => rhs; simp only [List.cons_append, List.nil_append])
  repeat (first | refine go (k := ?_) | (refine goB (k := ?_); intro b) | (refine goA (k := ?_); intro ao cap))
  apply Run.op (by exact rfl)
  refine OpT.makeMap_ Value.bool (k := ?_)
  intro mb
  repeat (first | refine go (k := ?_) | (refine goB (k := ?_); intro b) | (refine goA (k := ?_); intro ao cap))
  apply Cod.loop (σ := Nat × List (Int × Bool)) (fun s => s.1 ≤ n ∧ TgtOk (l.take s.1) s.2) (fun s => [(3, .map (some mb)), (7, .slice ao n cap), (8, .int .i64 (n : Int)), (9, .int .i64 (s.1 : Int))]) (fun s => [old w S, rd ao n cap insC l, mp mb Value.bool s.2]) (fun s => n - s.1) (0, [])
  rotate_left
  exact sb
  exact tks
  intro s hs K1 hK1
  (try conv => rhs; simp only [List.cons_append, List.nil_append])
  rotate_left
  · exact ⟨Nat.zero_le _, fun p => by simp [mfind, Opt.tgt]⟩
  obtain ⟨k, en⟩ := s
  obtain ⟨hk, he⟩ := hs
  simp only at hk he hK1 ⊢
  by_cases hkn : k < n
  · have hts := take_snoc (l := l) (k := k) (by omega)
    repeat' (first | (apply Run.op; exact rfl; refine OpT.mapUpdate_ (g := Value.bool) (a := true) (k := ?_)) | refine go (k := ?_) | (refine goB (k := ?_); intro b) | (refine goA (k := ?_); intro ao cap) | refine goQ (k := fun h => ?_) (k' := fun h => ?_) | fail)
    all_goals first
      | (refine End.round0_ hK1 (k + 1, mput en (l.getD k default).a true) ?_ ?_
         · refine ⟨by simp only; omega, ?_⟩
           rw [hts]
           exact he.yes (Opt.isJ_iff.2 (by first | exact .inl (by assumption) | exact .inr (by assumption)))
         · simp only; omega)
      | (refine End.round0_ hK1 (k + 1, en) ?_ ?_
         · refine ⟨by simp only; omega, ?_⟩
           rw [hts]
           refine he.no ?_
           cases hJ : Opt.isJ (l.getD k default) with
           | false => rfl
           | true => rw [Opt.isJ_iff] at hJ; exfalso; omega
         · simp only; omega)
  · repeat (first | refine go (k := ?_) | (refine goB (k := ?_); intro b) | (refine goA (k := ?_); intro ao cap))
    have hl : l.take k = l := List.take_of_length_le (by omega)
    rw [hl] at he
    (refine End.done1_ ((mb, en)) (he := by (first | exact rfl | (refine congrArg (Value.int _) ?_; omega) | (refine congrArg (Value.int _) ?_; dsimp only; omega))) (hp := ?_))
    exact he
end Go.Proofs.Ytfeajpghabjaaaa.Vw

/- Package opt, walked: pieces. -/
namespace Go.Proofs.Ytfeajpghabjaaaa.Vw
open Go.RowKit Go.Proofs.Ytfeajpghabjaaaa.Img
set_option linter.unusedVariables false
set_option linter.unusedSimpArgs false
attribute [local irreducible] Run Cod End OpT Still RunQ RunS RunT Fn PutOk
/-- what 'free' sees -/
abbrev frOC (pb lb tb mb : Nat) (p : Nat) (ao : Option Addr) (n cap : Nat) (en : List (Int × Bool)) : List Chunk := [blk pb [.int .i64 (p : Int)] 3, blk lb [.slice ao n cap] 36, blk tb [.map (some mb)] 116, mp mb Value.bool en]
theorem free_to (l : List ImgM.Ins) (p n : Nat) : Opt.free l p n = (decide (p + n < l.length) && (List.range n).all fun k => decide (k = 0) || !Opt.tgt l ((p + k : Nat) : Int)) := rfl
theorem all_range {n : Nat} {f : Nat → Bool} : (List.range n).all f = true ↔ ∀ k, k < n → f k = true := by simp
set_option maxRecDepth 100000 in
set_option maxHeartbeats 1000000 in
theorem free_is (pb lb tb mb : Nat) (p : Nat) (ao : Option Addr) (n cap : Nat) (l : List ImgM.Ins) (en : List (Int × Bool)) (hn : l.length = n) (hm : n ≤ 1000000) (hp : p ≤ n) (he : TgtOk l en) (k : Nat) (hk : 1 ≤ k ∧ k ≤ 3) :
    Fn Try.prog 95 #[.int .i64 (k : Int), ptr pb, ptr lb, ptr tb] [] (frOC pb lb tb mb p ao n cap en) (σ := Unit) (fun _ => True) (fun _ => .bool (Opt.free l p k)) (fun _ => frOC pb lb tb mb p ao n cap en) := by
  refine Fn.enter (args := [.int .i64 (k : Int), ptr pb, ptr lb, ptr tb]) Try.func95 rfl _ Try.ntmps95 rfl (by simp [rd_excl, md_excl]) (fun w S => ?_)
  (try conv => rhs; simp only [List.cons_append, List.nil_append])
  by_cases hlt : p + k < n
  · repeat (first | refine go (k := ?_) | (refine goB (k := ?_); intro b) | (refine goA (k := ?_); intro ao cap))
    apply Cod.loop (σ := Nat) (fun j => 1 ≤ j ∧ j ≤ k ∧ ∀ i, 0 < i → i < j → Opt.tgt l ((p + i : Nat) : Int) = false) (fun j => [(0, .int .i64 (k : Int)), (1, ptr pb), (2, ptr lb), (3, ptr tb), (6, .int .i64 (j : Int))]) (fun j => old w S :: frOC pb lb tb mb p ao n cap en) (fun j => k - j) 1
    rotate_left
    exact sb
    exact tks
    intro j hs K1 hK1
    (try conv => rhs; simp only [List.cons_append, List.nil_append])
    rotate_left
    · exact ⟨Nat.le_refl _, hk.1, fun i h1 h2 => by omega⟩
    obtain ⟨h1, h2, h3⟩ := hs
    by_cases hjk : j < k
    · have hcast : ((p : Int) + (j : Int)) = ((p + j : Nat) : Int) := by omega
      have hf := he ((p + j : Nat) : Int)
      cases ht : Opt.tgt l ((p + j : Nat) : Int) with
      | true =>
        rw [ht, if_pos rfl, ← hcast] at hf
        repeat (first | refine go (k := ?_) | (refine goB (k := ?_); intro b) | (refine goA (k := ?_); intro ao cap))
        have hfr : Opt.free l p k = false := by
          cases hx : Opt.free l p k with
          | false => rfl
          | true => rw [Opt.free_not hx (by omega) hjk] at ht; cases ht
        (refine End.done1_ (()) (he := by rw [hfr]) (hp := ?_))
        trivial
      | false =>
        rw [ht, if_neg (by decide), ← hcast] at hf
        repeat (first | refine go (k := ?_) | (refine goB (k := ?_); intro b) | (refine goA (k := ?_); intro ao cap))
        refine End.round0_ hK1 (j + 1) ?_ ?_
        · refine ⟨by omega, by omega, fun i g1 g2 => ?_⟩
          by_cases hij : i = j
          · subst hij; exact ht
          · exact h3 i g1 (by omega)
        · omega
    · repeat (first | refine go (k := ?_) | (refine goB (k := ?_); intro b) | (refine goA (k := ?_); intro ao cap))
      have hfr : Opt.free l p k = true := by
        rw [free_to, Bool.and_eq_true, decide_eq_true_eq]
        refine ⟨by omega, all_range.2 fun i hi => ?_⟩
        rw [Bool.or_eq_true, decide_eq_true_eq, Bool.not_eq_true']
        by_cases h0 : i = 0
        · exact .inl h0
        · exact .inr (h3 i (by omega) (by omega))
      (refine End.done1_ (()) (he := by rw [hfr]) (hp := ?_))
      trivial
  · repeat (first | refine go (k := ?_) | (refine goB (k := ?_); intro b) | (refine goA (k := ?_); intro ao cap))
    have hfr : Opt.free l p k = false := by
      cases hx : Opt.free l p k with
      | false => rfl
      | true => have := Opt.free_lt hx; omega
    (refine End.done1_ (()) (he := by rw [hfr]) (hp := ?_))
    trivial
end Go.Proofs.Ytfeajpghabjaaaa.Vw

/- More rules for walks, each with what closes its premises written into it: guarded operations of regions that draw. -/
namespace Go.Proofs.Ytfeajpghabjaaaa
open Go
set_option linter.unusedVariables false
set_option linter.unusedSectionVars false
section
variable {P : Program} [Tabbed P] {ops : Array Oper} {Q : Exit → Act → World → Prop} {N e : Nat} {LT : List Chunk} {fuel : Nat} {listed : Array Bool} {E : Env} {L F : List Chunk}
theorem RunT.takeG_ (i : Nat) {oi : Oper} {v : Value} {j : Nat} {want : Bool} (hi : ops[i]? = some oi := by exact rfl) (hns : Region.noSelect ops = true := by kernel_rfl) (hf : Region.free .any ops listed i = true := by kernel_rfl) (hr : (Region.ready .any ops listed).contains i = true := by kernel_rfl) (he : Nat.ble ops.size e = true := by kernel_rfl) (hsz : Nat.beq listed.size ops.size = true := by kernel_rfl)
    (hQ : PutOk Q := by ((repeat (first | exact PutOk.body | apply PutOk.nxt | apply PutOk.then_ | apply PutOk.block)); first | done | fail)) (hg : oi.guard = some (j, want) := by exact rfl) (hgd : gd ops E j = some (.bool want) := by exact rfl) (hd : fitsB N oi.dst = true := by exact rfl) (ht : Takes LT L F := by exact tks) (hy : Still P N oi E LT v := by exact stl) (h : RunT P ops Q N e LT fuel (listed.setIfInBounds i true) (upd oi.dst v E) L) : RunT P ops Q N e LT (fuel + 1) listed E L :=
  RunT.takeG i hi hns hf hr he hsz hQ hg hgd hd ht hy h
theorem RunT.takeU_ (i : Nat) {oi : Oper} {j : Nat} {want t : Bool} (hi : ops[i]? = some oi := by exact rfl) (hns : Region.noSelect ops = true := by kernel_rfl) (hf : Region.free .any ops listed i = true := by kernel_rfl) (hr : (Region.ready .any ops listed).contains i = true := by kernel_rfl) (hie : Nat.beq i e = false := by exact rfl)
    (hQ : PutOk Q := by ((repeat (first | exact PutOk.body | apply PutOk.nxt | apply PutOk.then_ | apply PutOk.block)); first | done | fail)) (hg : oi.guard = some (j, want) := by exact rfl) (hgd : gd ops E j = some (.bool t) := by exact rfl) (hne : (t == want) = false := by exact rfl) (hd : fitsB N oi.dst = true := by exact rfl) (ht : Good e LT listed L := by exact gud) (h : RunT P ops Q N e LT fuel (listed.setIfInBounds i true) (upd oi.dst undef E) L) : RunT P ops Q N e LT (fuel + 1) listed E L :=
  RunT.takeU i hi hns hf hr hie hQ hg hgd hne hd ht h
end
end Go.Proofs.Ytfeajpghabjaaaa

/- Package opt, walked: what may stand in the place of instructions. -/
namespace Go.Proofs.Ytfeajpghabjaaaa.Vw
open Go.RowKit Go.Proofs.Ytfeajpghabjaaaa.Img
set_option linter.unusedVariables false
set_option linter.unusedSimpArgs false
attribute [local irreducible] Run Cod End OpT Still RunQ RunS RunT Fn PutOk
/-- all numbers of code are of 64 bits -/
def In64s (l : List ImgM.Ins) : Prop := ∀ i ∈ l, ImgM.In64 i.a ∧ ImgM.In64 i.n
theorem In64s.at_ {l : List ImgM.Ins} (h : In64s l) {p : Nat} (hp : p < l.length) : ImgM.In64 (l.getD p default).a ∧ ImgM.In64 (l.getD p default).n := h _ (getD_mem hp)
abbrev shV5 (l : List ImgM.Ins) (p : Nat) (s : Option Addr × Nat) : Value := .tuple #[.slice s.1 (Opt.shorter l p).1.length s.2, .int .i64 ((Opt.shorter l p).2 : Int)]
abbrev r3 (l : List ImgM.Ins) (p : Nat) : Option (List ImgM.Ins) := if Opt.free l p 3 then Opt.three (Opt.at_ l p) (Opt.at_ l (p + 1)) (Opt.at_ l (p + 2)) else none
abbrev r2 (l : List ImgM.Ins) (p : Nat) : Option (List ImgM.Ins) := if Opt.free l p 2 then Opt.pair (Opt.at_ l p) (Opt.at_ l (p + 1)) else none
theorem shorter_3 {l : List ImgM.Ins} {p : Nat} {r : List ImgM.Ins} (h : r3 l p = some r) : Opt.shorter l p = (r, 3) := by unfold r3 at h; unfold Opt.shorter; rw [h]
theorem shorter_2 {l : List ImgM.Ins} {p : Nat} {r : List ImgM.Ins} (h : r3 l p = none) (h2 : r2 l p = some r) : Opt.shorter l p = (r, 2) := by unfold r3 at h; unfold r2 at h2; unfold Opt.shorter; rw [h]; simp only; rw [h2]
theorem shorter_1 {l : List ImgM.Ins} {p : Nat} (h : r3 l p = none) (h2 : r2 l p = none) (h1 : Opt.free l p 1 = true ∧ (Opt.at_ l p).op = 21 ∧ (Opt.at_ l p).a = (p : Int) + 1) : Opt.shorter l p = ([], 1) := by unfold r3 at h; unfold r2 at h2; unfold Opt.shorter; rw [h]; simp only; rw [h2]; simp only; rw [if_pos h1]
theorem shorter_0 {l : List ImgM.Ins} {p : Nat} (h : r3 l p = none) (h2 : r2 l p = none) (h1 : ¬(Opt.free l p 1 = true ∧ (Opt.at_ l p).op = 21 ∧ (Opt.at_ l p).a = (p : Int) + 1)) : Opt.shorter l p = ([], 0) := by unfold r3 at h; unfold r2 at h2; unfold Opt.shorter; rw [h]; simp only; rw [h2]; simp only; rw [if_neg h1]
set_option maxRecDepth 100000 in
set_option maxHeartbeats 1000000 in
theorem shorter_is (ao : Option Addr) (n cap mb : Nat) (l : List ImgM.Ins) (en : List (Int × Bool)) (hn : l.length = n) (hm : n ≤ 1000000) (hl : In64s l) (p : Nat) (hp : p < n) (he : TgtOk l en) :
    Fn Try.prog 58 #[.slice ao n cap, .int .i64 (p : Int), .map (some mb)] [rd ao n cap insC l] [mp mb Value.bool en] (σ := Option Addr × Nat) (fun _ => True) (fun s => shV5 l p s) (fun s => [arr s.1 (Opt.shorter l p).1.length s.2 57 insC (Opt.shorter l p).1, mp mb Value.bool en]) := by
  refine Fn.enter (args := [.slice ao n cap, .int .i64 (p : Int), .map (some mb)]) Try.func58 rfl _ Try.ntmps58 rfl (by simp [rd_excl, md_excl]) (fun w S => ?_)
  (try conv => rhs; simp only [List.cons_append, List.nil_append])
  repeat (first | refine go (k := ?_) | (refine goB (k := ?_); intro b) | (refine goA (k := ?_); intro ao cap))
  obtain ⟨tb, rfl⟩ : ∃ x, x = b := ⟨_, rfl⟩
  obtain ⟨pb, rfl⟩ : ∃ x, x = b := ⟨_, rfl⟩
  obtain ⟨lb, rfl⟩ : ∃ x, x = b := ⟨_, rfl⟩
  (first | (apply Run.op; exact rfl) | refine Run.yes_ (h := ?_)); refine OpT.call_ (spec := free_is pb lb tb mb p ao n cap l en hn hm (by omega) he 3 (by omega)) (k := ?_); intro s hs; (try conv => rhs; simp only [List.cons_append, List.nil_append])
  repeat (first | refine go (k := ?_) | (refine goB (k := ?_); intro b) | (refine goA (k := ?_); intro ao cap))
  refine cutN0 (σ := Unit) (fun _ => r3 l p = none) (fun _ => [(3, ptr lb), (4, ptr pb), (5, ptr tb), (8, .func (.func 95) #[] #[ptr pb, ptr lb, ptr tb])]) (fun _ => old w S :: rd ao n cap insC l :: frOC pb lb tb mb p ao n cap en) ?_ ?_
  · rintro - h3
    repeat (first | refine go (k := ?_) | (refine goB (k := ?_); intro b) | (refine goA (k := ?_); intro ao cap))
    (first | (apply Run.op; exact rfl) | refine Run.yes_ (h := ?_)); refine OpT.call_ (spec := free_is pb lb tb mb p ao n cap l en hn hm (by omega) he 2 (by omega)) (k := ?_); intro s hs; (try conv => rhs; simp only [List.cons_append, List.nil_append])
    repeat (first | refine go (k := ?_) | (refine goB (k := ?_); intro b) | (refine goA (k := ?_); intro ao cap))
    refine cutN0 (σ := Unit) (fun _ => r2 l p = none) (fun _ => [(3, ptr lb), (4, ptr pb), (5, ptr tb), (8, .func (.func 95) #[] #[ptr pb, ptr lb, ptr tb])]) (fun _ => old w S :: rd ao n cap insC l :: frOC pb lb tb mb p ao n cap en) ?_ ?_
    · rintro - h2
      repeat (first | refine go (k := ?_) | (refine goB (k := ?_); intro b) | (refine goA (k := ?_); intro ao cap))
      apply Cod.draw 20 ([blk pb [.int .i64 (p : Int)] 3, blk lb [.slice ao n cap] 36, rd ao n cap insC l]) (by kernel_rfl) 20 rfl
      refine RunT.takeN_ 0 (h := ?_)
      (refine RunT.one_ 1 (h := ?_); refine OpT.call_ (spec := free_is pb lb tb mb p ao n cap l en hn hm (by omega) he 1 (by omega)) (k := ?_); intro s hs; refine And.intro gud ?_; (try conv => rhs; simp only [List.cons_append, List.nil_append]))
      refine RunT.takeN_ 2 (h := ?_)
      cases hf : Opt.free l p 1 with
      | false =>
        have hs3 := shorter_0 h3 h2 (fun h => by rw [hf] at h; cases h.1)
        refine RunT.takeU_ 3 (h := ?_)
        refine RunT.takeU_ 4 (h := ?_)
        refine RunT.takeU_ 5 (h := ?_)
        refine RunT.takeU_ 6 (h := ?_)
        refine RunT.takeU_ 7 (h := ?_)
        refine RunT.takeU_ 8 (h := ?_)
        refine RunT.takeN_ 9 (h := ?_)
        refine RunT.takeN_ 10 (h := ?_)
        refine RunT.takeU_ 11 (h := ?_)
        refine RunT.takeU_ 12 (h := ?_)
        refine RunT.takeU_ 13 (h := ?_)
        refine RunT.takeU_ 14 (h := ?_)
        refine RunT.takeU_ 15 (h := ?_)
        refine RunT.takeU_ 16 (h := ?_)
        refine RunT.takeU_ 17 (h := ?_)
        refine RunT.takeU_ 18 (h := ?_)
        refine RunT.takeN_ 19 (h := ?_)
        (apply RunT.done; kernel_rfl)
        repeat (first | refine go (k := ?_) | (refine goB (k := ?_); intro b) | (refine goA (k := ?_); intro ao cap))
        apply End.imp (fun w hm => hm.nilArr 57 insC)
        refine End.done2_ (none, 0) (he := by unfold shV5; rw [hs3]; rfl) (ht := by (rw [hs3]; exact tks)) (hp := trivial)
      | true =>
        refine RunT.takeG_ 3 (h := ?_)
        refine RunT.takeG_ 4 (h := ?_)
        refine RunT.takeG_ 5 (h := ?_)
        refine RunT.takeG_ 6 (h := ?_)
        refine RunT.takeG_ 7 (h := ?_)
        refine RunT.takeG_ 8 (h := ?_)
        refine RunT.takeN_ 9 (h := ?_)
        refine RunT.takeN_ 10 (h := ?_)
        refine RunT.part (d := 63) (decide ((l.getD p default).op = 21)) rfl (fun hop => ?_) (fun hop => ?_)
        · rw [decide_eq_true_eq] at hop
          refine RunT.takeG_ 11 (h := ?_)
          refine RunT.takeG_ 12 (h := ?_)
          refine RunT.takeG_ 13 (h := ?_)
          refine RunT.takeG_ 14 (h := ?_)
          refine RunT.takeG_ 15 (h := ?_)
          refine RunT.takeG_ 16 (h := ?_)
          refine RunT.takeG_ 17 (h := ?_)
          refine RunT.takeG_ 18 (h := ?_)
          refine RunT.takeN_ 19 (h := ?_)
          (apply RunT.done; kernel_rfl)
          repeat' (first | refine go (k := ?_) | (refine goB (k := ?_); intro b) | (refine goA (k := ?_); intro ao cap) | refine goQ (k := fun h => ?_) (k' := fun h => ?_) | fail)
          · have hs3 := shorter_1 h3 h2 ⟨hf, hop, by assumption⟩
            apply End.imp (fun w hm => hm.nilArr 57 insC)
            refine End.done2_ (none, 0) (he := by unfold shV5; rw [hs3]; rfl) (ht := by (rw [hs3]; exact tks)) (hp := trivial)
          · have hs3 := shorter_0 h3 h2 (fun h' => by have := h'.2.2; contradiction)
            apply End.imp (fun w hm => hm.nilArr 57 insC)
            refine End.done2_ (none, 0) (he := by unfold shV5; rw [hs3]; rfl) (ht := by (rw [hs3]; exact tks)) (hp := trivial)
        · rw [decide_eq_false_iff_not] at hop
          have hs3 := shorter_0 h3 h2 (fun h' => hop h'.2.1)
          refine RunT.takeU_ 11 (h := ?_)
          refine RunT.takeU_ 12 (h := ?_)
          refine RunT.takeU_ 13 (h := ?_)
          refine RunT.takeU_ 14 (h := ?_)
          refine RunT.takeU_ 15 (h := ?_)
          refine RunT.takeU_ 16 (h := ?_)
          refine RunT.takeU_ 17 (h := ?_)
          refine RunT.takeU_ 18 (h := ?_)
          refine RunT.takeN_ 19 (h := ?_)
          (apply RunT.done; kernel_rfl)
          repeat (first | refine go (k := ?_) | (refine goB (k := ?_); intro b) | (refine goA (k := ?_); intro ao cap))
          apply End.imp (fun w hm => hm.nilArr 57 insC)
          refine End.done2_ (none, 0) (he := by unfold shV5; rw [hs3]; rfl) (ht := by (rw [hs3]; exact tks)) (hp := trivial)
    · intro K hK
      cases hf : Opt.free l p 2 with
      | false =>
        repeat (first | refine go (k := ?_) | (refine goB (k := ?_); intro b) | (refine goA (k := ?_); intro ao cap))
        refine End.some_ hK () ?_
        unfold r2; rw [hf]; rfl
      | true =>
        have hlt := Opt.free_lt hf
        have hx1 := hl.at_ (p := p) (by omega)
        repeat (first | refine go (k := ?_) | (refine goB (k := ?_); intro b) | (refine goA (k := ?_); intro ao cap))
        apply Cod.draw 9 ([blk pb [.int .i64 (p : Int)] 3, blk lb [.slice ao n cap] 36, rd ao n cap insC l]) (by kernel_rfl) 15 rfl
        refine RunT.takeR_ 0 (h := ?_)
        refine RunT.takeR_ 1 (h := ?_)
        refine RunT.takeR_ 2 (h := ?_)
        refine RunT.takeR_ 3 (h := ?_)
        refine RunT.takeR_ 4 (h := ?_)
        refine RunT.takeR_ 5 (h := ?_)
        refine RunT.takeR_ 6 (h := ?_)
        refine RunT.takeR_ 7 (h := ?_)
        refine RunT.takeR_ 8 (h := ?_)
        (refine RunT.one_ 9 (h := ?_); refine OpT.call0_ (spec := pair_is _ _ hx1) (k := ?_); intro s hs; refine And.intro gud ?_; (try conv => rhs; simp only [List.cons_append, List.nil_append]))
        refine RunT.take0_ 10 (h := ?_)
        refine RunT.take0_ 11 (h := ?_)
        refine RunT.take0_ 12 (h := ?_)
        refine RunT.take0_ 13 (h := ?_)
        refine RunT.take0_ 14 (h := ?_)
        (apply RunT.done; kernel_rfl)
        repeat (first | refine go (k := ?_) | (refine goB (k := ?_); intro b) | (refine goA (k := ?_); intro ao cap))
        generalize hr : Opt.pair (l.getD p default) (l.getD (p + 1) default) = r at *
        have hr' : r2 l p = r := by unfold r2; rw [hf, if_pos rfl]; exact hr
        cases r with
        | none =>
          repeat (first | refine go (k := ?_) | (refine goB (k := ?_); intro b) | (refine goA (k := ?_); intro ao cap))
          refine End.some_ hK () ?_
          exact hr'
        | some r =>
          have hs3 := shorter_2 h3 hr'
          repeat (first | refine go (k := ?_) | (refine goB (k := ?_); intro b) | (refine goA (k := ?_); intro ao cap))
          refine End.done2_ s (he := by unfold shV5; rw [hs3]; rfl) (ht := by (rw [hs3]; exact tks)) (hp := trivial)
  · intro K hK
    cases hf : Opt.free l p 3 with
    | false =>
      repeat (first | refine go (k := ?_) | (refine goB (k := ?_); intro b) | (refine goA (k := ?_); intro ao cap))
      refine End.some_ hK () ?_
      unfold r3; rw [hf]; rfl
    | true =>
      have hlt := Opt.free_lt hf
      have hx1 := hl.at_ (p := p) (by omega)
      have hx2 := hl.at_ (p := p + 1) (by omega)
      repeat (first | refine go (k := ?_) | (refine goB (k := ?_); intro b) | (refine goA (k := ?_); intro ao cap))
      apply Cod.draw 14 ([blk pb [.int .i64 (p : Int)] 3, blk lb [.slice ao n cap] 36, rd ao n cap insC l]) (by kernel_rfl) 20 rfl
      refine RunT.takeR_ 0 (h := ?_)
      refine RunT.takeR_ 1 (h := ?_)
      refine RunT.takeR_ 2 (h := ?_)
      refine RunT.takeR_ 3 (h := ?_)
      refine RunT.takeR_ 4 (h := ?_)
      refine RunT.takeR_ 5 (h := ?_)
      refine RunT.takeR_ 6 (h := ?_)
      refine RunT.takeR_ 7 (h := ?_)
      refine RunT.takeR_ 8 (h := ?_)
      refine RunT.takeR_ 9 (h := ?_)
      refine RunT.takeR_ 10 (h := ?_)
      refine RunT.takeR_ 11 (h := ?_)
      refine RunT.takeR_ 12 (h := ?_)
      refine RunT.takeR_ 13 (h := ?_)
      (refine RunT.one_ 14 (h := ?_); refine OpT.call0_ (spec := three_is _ _ _ hx1 hx2) (k := ?_); intro s hs; refine And.intro gud ?_; (try conv => rhs; simp only [List.cons_append, List.nil_append]))
      refine RunT.take0_ 15 (h := ?_)
      refine RunT.take0_ 16 (h := ?_)
      refine RunT.take0_ 17 (h := ?_)
      refine RunT.take0_ 18 (h := ?_)
      refine RunT.take0_ 19 (h := ?_)
      (apply RunT.done; kernel_rfl)
      repeat (first | refine go (k := ?_) | (refine goB (k := ?_); intro b) | (refine goA (k := ?_); intro ao cap))
      generalize hr : Opt.three (l.getD p default) (l.getD (p + 1) default) (l.getD (p + 1 + 1) default) = r at *
      have hr' : r3 l p = r := by unfold r3; rw [hf, if_pos rfl]; exact hr
      cases r with
      | none =>
        repeat (first | refine go (k := ?_) | (refine goB (k := ?_); intro b) | (refine goA (k := ?_); intro ao cap))
        refine End.some_ hK () ?_
        exact hr'
      | some r =>
        have hs3 := shorter_3 hr'
        repeat (first | refine go (k := ?_) | (refine goB (k := ?_); intro b) | (refine goA (k := ?_); intro ao cap))
        refine End.done2_ s (he := by unfold shV5; rw [hs3]; rfl) (ht := by (rw [hs3]; exact tks)) (hp := trivial)
end Go.Proofs.Ytfeajpghabjaaaa.Vw
