/- How plain things lie in cells. Of whatever program. -/
import Derived.Test.YtkhagebjphaboaaBuild
import Derived.Test.YtkhagebjphaboaaDraw
namespace Go.Proofs.Ytkhagebjphaboaa
open Go
set_option linter.unusedVariables false
set_option linter.unusedSimpArgs false

def i64c (n : Int) : List Value := [.int .i64 n]
def u8c (c : Nat) : List Value := [.int .u8 (c : Int)]
def boolc (b : Bool) : List Value := [.bool b]
instance : Enc i64c := ⟨fun _ => rfl, by decide, fun a u hu => by simp [i64c] at hu; subst hu; rfl⟩
instance : Enc u8c := ⟨fun _ => rfl, by decide, fun a u hu => by simp [u8c] at hu; subst hu; rfl⟩
instance : Enc boolc := ⟨fun _ => rfl, by decide, fun a u hu => by simp [boolc] at hu; subst hu; rfl⟩

theorem ix_succ (k : Nat) : (k : Int) + 1 = ((k + 1 : Nat) : Int) := by omega
theorem not_true {b : Bool} (h : (!b) = true) : b = false := by cases b <;> simp_all
end Go.Proofs.Ytkhagebjphaboaa
