/- Three operations that may come up; orders that come to the same. Of whatever program. -/
import Derived.Test.YtjehflelkpacfaaM33
namespace Go.Proofs.Ytjehflelkpacfaa
open Go
set_option linter.unusedVariables false
section
variable {P : Program} {ops : Array Oper} {Q : Exit → Act → World → Prop} {N e : Nat} {LT : List Chunk} {E : Env} {L F : List Chunk} {fuel : Nat} {listed : Array Bool}
/-- three that may come up -/
theorem RunT.three (i j l : Nat) {o o' o'' : Oper} (hr : Region.ready .any ops listed = [i, j, l]) (ho : ops[i]? = some o) (hg : o.guard = none) (ho' : ops[j]? = some o') (hg' : o'.guard = none) (ho'' : ops[l]? = some o'') (hg'' : o''.guard = none)
    (h : OpT P Q N o E L (fun E' L' => Good e LT (listed.setIfInBounds i true) L' ∧ RunT P ops Q N e LT fuel (listed.setIfInBounds i true) E' L'))
    (h' : OpT P Q N o' E L (fun E' L' => Good e LT (listed.setIfInBounds j true) L' ∧ RunT P ops Q N e LT fuel (listed.setIfInBounds j true) E' L'))
    (h'' : OpT P Q N o'' E L (fun E' L' => Good e LT (listed.setIfInBounds l true) L' ∧ RunT P ops Q N e LT fuel (listed.setIfInBounds l true) E' L')) : RunT P ops Q N e LT (fuel + 1) listed E L :=
  fun a w hs hM => by
    refine ⟨fun h0 => (by rw [h0] at hr; cases hr), fun k hk => ?_⟩
    rw [hr] at hk
    have hk' : k = i ∨ k = j ∨ k = l := by simpa using hk
    rcases hk' with rfl | rfl | rfl
    · exact wpOp_step ho fun K' hK' => by
        rw [if_pos (by simp [Region.wanted, hg])]
        exact h K' (fun E' L' hc a w hs hm => hK' a w ⟨hc.1.imp id fun ⟨F, t⟩ => (hm.takes t).left, hc.2 a w hs hm⟩) a w hs hM
    · exact wpOp_step ho' fun K' hK' => by
        rw [if_pos (by simp [Region.wanted, hg'])]
        exact h' K' (fun E' L' hc a w hs hm => hK' a w ⟨hc.1.imp id fun ⟨F, t⟩ => (hm.takes t).left, hc.2 a w hs hm⟩) a w hs hM
    · exact wpOp_step ho'' fun K' hK' => by
        rw [if_pos (by simp [Region.wanted, hg''])]
        exact h'' K' (fun E' L' hc a w hs hm => hK' a w ⟨hc.1.imp id fun ⟨F, t⟩ => (hm.takes t).left, hc.2 a w hs hm⟩) a w hs hM
/-- a place where orders meet -/
theorem RunT.meet {σ : Type} (E1 : σ → Env) (L1 : σ → List Chunk) (fuel1 : Nat) (listed1 : Array Bool) (h2 : ∀ s, RunT P ops Q N e LT fuel1 listed1 (E1 s) (L1 s))
    (h1 : (∀ (s : σ) {listed : Array Bool} {E : Env} {L F : List Chunk}, listed = listed1 → Sub (E1 s) E → Takes (L1 s) L F → RunT P ops Q N e LT fuel1 listed E L) → RunT P ops Q N e LT fuel listed E L) : RunT P ops Q N e LT fuel listed E L :=
  h1 fun s listed E L F hl hE hL a w hs hm => by
    subst hl
    exact h2 s a w (hs.sub hE) (hm.takes hL).left
/-- cut behind a piece of code that others follow: what is known there hangs on an s -/
theorem Cod.nxtCut {y c : Code} {σ : Type} (ok : σ → Prop) (inv : σ → Env) (mem : σ → List Chunk) (h1 : ∀ K : Act → World → Prop, (∀ s, ok s → ∀ a w, Sat N a (inv s) → Mem w (mem s) → K a w) → Cod P (Exit.then K Q) N c E L) (h2 : ∀ s, ok s → Cod P Q N y (inv s) (mem s)) : Cod P (Nxt P y Q) N c E L :=
  fun a w hs hm => by unfold Nxt; exact h1 _ (fun s ho a w hs hm => h2 s ho a w hs hm) a w hs hm
end
end Go.Proofs.Ytjehflelkpacfaa
