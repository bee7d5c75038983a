/- How modules lie in memory, and how they are read as arguments. -/
import Derived.Test.YtkhagebjphaboaaOwn
import Derived.Test.YtkhagebjphaboaaImgMath
namespace Go.Proofs.Ytkhagebjphaboaa.Img
open Go.RowKit
set_option linter.unusedVariables false

def i64s (l : List Int) : List Value := l.map (Value.int .i64)
def insC (i : ImgM.Ins) : List Value := [.int .i64 i.op, .int .i64 i.a, .int .i64 i.n]
def codeC (l : List ImgM.Ins) : List Value := l.flatMap insC
def boxC (b : Int × Int) : List Value := [.int .i64 b.1, .int .i64 b.2]
def boxesC (l : List (Int × Int)) : List Value := l.flatMap boxC

theorem flat_get {α : Type} [Inhabited α] (f : α → List Value) (m : Nat) (hf : ∀ a, (f a).length = m) (l : List α) (k j : Nat) (hk : k < l.length) (hj : j < m) : (l.flatMap f)[k * m + j]? = (f (l.getD k default))[j]? := by
  induction l generalizing k with
  | nil => simp at hk
  | cons a r ih =>
    cases k with
    | zero =>
      simp only [List.flatMap_cons, Nat.zero_mul, Nat.zero_add, List.getD_cons_zero]
      rw [List.getElem?_append_left (by rw [hf]; exact hj)]
    | succ k =>
      simp only [List.flatMap_cons, List.getD_cons_succ]
      rw [List.getElem?_append_right (by rw [hf, Nat.add_mul]; omega), hf, show (k + 1) * m + j - m = k * m + j by rw [Nat.add_mul]; omega]
      exact ih k (by simpa using hk)


def UntAt (w : World) (cs : List Value) (u : ImgM.Unt) : Prop :=
  ∃ lv cv, cs = [.int .i64 u.kind, .int .i64 u.params, lv, .int .i64 u.result, .int .i64 u.takes, cv] ∧ Row w lv 1 u.locals.length (i64s u.locals) ∧ Row w cv 3 u.code.length (codeC u.code)

theorem UntAt.keep {w w' : World} {cs : List Value} {u : ImgM.Unt} (h : UntAt w cs u) (k : Keeps Nil w w') : UntAt w' cs u := by
  obtain ⟨lv, cv, rfl, h1, h2⟩ := h
  exact ⟨lv, cv, rfl, h1.keep k (fun _ _ h => h), h2.keep k (fun _ _ h => h)⟩

/-- a module lies in memory: its two slices, the units' cells -/
def ModAt (w : World) (v : Value) (M : ImgM.Mdl) : Prop :=
  ∃ bv uv ucs, v = .agg #[bv, uv] ∧ Row w bv 2 M.boxes.length (boxesC M.boxes) ∧ Row w uv 6 M.units.length ucs ∧ ∀ k, k < M.units.length → UntAt w ((ucs.drop (k * 6)).take 6) (M.units.getD k default)

theorem ModAt.keep {w w' : World} {v : Value} {M : ImgM.Mdl} (h : ModAt w v M) (k : Keeps Nil w w') : ModAt w' v M := by
  obtain ⟨bv, uv, ucs, rfl, h1, h2, h3⟩ := h
  exact ⟨bv, uv, ucs, rfl, h1.keep k (fun _ _ h => h), h2.keep k (fun _ _ h => h), fun i hi => (h3 i hi).keep k⟩

theorem boxes_at {w : World} {b off n cap : Nat} {l : List (Int × Int)} (h : Row w (.slice (some ⟨b, off, none⟩) n cap) 2 n (boxesC l)) (hl : l.length = n) {k : Nat} (hk : k < n) :
    w.cell? ⟨b, off + k * 2, none⟩ = some (.int .i64 (l.getD k (0, 0)).1) ∧ w.cell? ⟨b, off + k * 2 + 1, none⟩ = some (.int .i64 (l.getD k (0, 0)).2) := by
  have hc := h.cellsAt
  have g0 := flat_get boxC 2 (fun _ => rfl) l k 0 (by omega) (by decide)
  have g1 := flat_get boxC 2 (fun _ => rfl) l k 1 (by omega) (by decide)
  have c0 := hc (k * 2 + 0) (by omega)
  have c1 := hc (k * 2 + 1) (by omega)
  rw [← Nat.add_assoc] at c1
  exact ⟨c0.trans g0, c1.trans g1⟩

theorem code_at {w : World} {b off n cap : Nat} {l : List ImgM.Ins} (h : Row w (.slice (some ⟨b, off, none⟩) n cap) 3 n (codeC l)) (hl : l.length = n) {k : Nat} (hk : k < n) :
    w.cell? ⟨b, off + k * 3, none⟩ = some (.int .i64 (l.getD k default).op) ∧ w.cell? ⟨b, off + k * 3 + 1, none⟩ = some (.int .i64 (l.getD k default).a) ∧ w.cell? ⟨b, off + k * 3 + 2, none⟩ = some (.int .i64 (l.getD k default).n) := by
  have hc := h.cellsAt
  have g0 := flat_get insC 3 (fun _ => rfl) l k 0 (by omega) (by decide)
  have g1 := flat_get insC 3 (fun _ => rfl) l k 1 (by omega) (by decide)
  have g2 := flat_get insC 3 (fun _ => rfl) l k 2 (by omega) (by decide)
  have c0 := hc (k * 3 + 0) (by omega)
  have c1 := hc (k * 3 + 1) (by omega)
  have c2 := hc (k * 3 + 2) (by omega)
  rw [← Nat.add_assoc] at c1 c2
  exact ⟨c0.trans g0, c1.trans g1, c2.trans g2⟩

theorem unts_at {w w' : World} {b off n cap : Nat} {ucs : List Value} (h : Row w (.slice (some ⟨b, off, none⟩) n cap) 6 n ucs) {k : Nat} (hk : k < n) {u : ImgM.Unt} (hu : UntAt w' ((ucs.drop (k * 6)).take 6) u) :
    ∃ lv cv, (w.cell? ⟨b, off + k * 6, none⟩ = some (.int .i64 u.kind) ∧ w.cell? ⟨b, off + k * 6 + 1, none⟩ = some (.int .i64 u.params) ∧ w.cell? ⟨b, off + k * 6 + 2, none⟩ = some lv ∧
      w.cell? ⟨b, off + k * 6 + 3, none⟩ = some (.int .i64 u.result) ∧ w.cell? ⟨b, off + k * 6 + 4, none⟩ = some (.int .i64 u.takes) ∧ w.cell? ⟨b, off + k * 6 + 5, none⟩ = some cv) ∧
      Row w' lv 1 u.locals.length (i64s u.locals) ∧ Row w' cv 3 u.code.length (codeC u.code) := by
  obtain ⟨lv, cv, he, h1, h2⟩ := hu
  have hc := h.cellsAt
  have hl := h.1
  have key : ∀ j, j < 6 → w.cell? ⟨b, off + k * 6 + j, none⟩ = ((ucs.drop (k * 6)).take 6)[j]? := by
    intro j hj
    rw [Nat.add_assoc, hc (k * 6 + j) (by omega), List.getElem?_take, if_pos hj, List.getElem?_drop]
  rw [he] at key
  exact ⟨lv, cv, ⟨key 0 (by omega), key 1 (by omega), key 2 (by omega), key 3 (by omega), key 4 (by omega), key 5 (by omega)⟩, h1, h2⟩

/-- every number is one of 64 bits -/
structure Wf (M : ImgM.Mdl) : Prop where
  nums : ∀ n ∈ ImgM.mdlN M, ImgM.In64 n

end Go.Proofs.Ytkhagebjphaboaa.Img
