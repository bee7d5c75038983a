/- Plain mathematics of modules as bytes: numbers by sevens, a check sum of 16 bits. Nothing of the program stands here. -/
namespace Go.Proofs.Ytkhagebjphaboaa.ImgM

/-- an instruction, a unit, a module -/
structure Ins where
  op : Int
  a : Int
  n : Int
structure Unt where
  kind : Int
  params : Int
  locals : List Int
  result : Int
  takes : Int
  code : List Ins
structure Mdl where
  boxes : List (Int × Int)
  units : List Unt

/-- 0, -1, 1, -2 as 0, 1, 2, 3 -/
def zig (n : Int) : Nat := if n < 0 then (-2 * n - 1).toNat else (2 * n).toNat
def zag (x : Nat) : Int := if x % 2 = 0 then ((x / 2 : Nat) : Int) else -((x / 2 : Nat) : Int) - 1
theorem zag_zig (n : Int) : zag (zig n) = n := by
  unfold zag zig
  split <;> split <;> omega
theorem zig_zag (x : Nat) : zig (zag x) = x := by
  unfold zag zig
  split <;> split <;> omega
def In64 (n : Int) : Prop := -9223372036854775808 ≤ n ∧ n ≤ 9223372036854775807
theorem zig_lt {n : Int} (h : In64 n) : zig n < 18446744073709551616 := by
  unfold zig
  have := h.1; have := h.2
  split <;> omega

/-- seven bits a byte, the lowest ones first -/
def leb (x : Nat) : List Nat := if x < 128 then [x] else (x % 128 + 128) :: leb (x / 128)
termination_by x
decreasing_by omega
theorem leb_lt {x : Nat} (h : x < 128) : leb x = [x] := by rw [leb, if_pos h]
theorem leb_ge {x : Nat} (h : ¬ x < 128) : leb x = (x % 128 + 128) :: leb (x / 128) := by rw [leb, if_neg h]
theorem leb_len (m : Nat) : ∀ x : Nat, x < 128 ^ (m + 1) → (leb x).length ≤ m + 1 := by
  induction m with
  | zero => intro x h; rw [leb_lt (by simpa using h)]; simp
  | succ m ih =>
    intro x h
    by_cases hx : x < 128
    · rw [leb_lt hx]; simp
    · rw [leb_ge hx]
      have := ih (x / 128) (by rw [Nat.div_lt_iff_lt_mul (by decide)]; rw [Nat.pow_succ] at h; exact h)
      simp; omega
theorem leb_pos (x : Nat) : 1 ≤ (leb x).length := by
  by_cases hx : x < 128
  · rw [leb_lt hx]; simp
  · rw [leb_ge hx]; simp
theorem leb_byte : ∀ x : Nat, ∀ c ∈ leb x, c < 256 := by
  intro x
  induction x using leb.induct with
  | case1 x h => rw [leb_lt h]; simp; omega
  | case2 x h ih =>
    rw [leb_ge h]
    intro c hc
    rcases List.mem_cons.1 hc with rfl | hc
    · omega
    · exact ih c hc

def num (n : Int) : List Nat := leb (zig n)
theorem num_len {n : Int} (h : In64 n) : (num n).length ≤ 10 := leb_len 9 _ (Nat.lt_trans (zig_lt h) (by decide))
theorem num_pos (n : Int) : 1 ≤ (num n).length := leb_pos _
theorem num_byte (n : Int) : ∀ c ∈ num n, c < 256 := leb_byte _

def nums (l : List Int) : List Nat := l.flatMap num
theorem nums_len {l : List Int} (h : ∀ n ∈ l, In64 n) : (nums l).length ≤ 10 * l.length := by
  induction l with
  | nil => simp [nums]
  | cons a r ih =>
    have h1 := num_len (h a (by simp))
    have h2 := ih (fun n hn => h n (by simp [hn]))
    simp only [nums, List.flatMap_cons, List.length_append, List.length_cons] at *
    omega
theorem nums_append (a b : List Int) : nums (a ++ b) = nums a ++ nums b := by simp [nums]
theorem nums_cons (a : Int) (b : List Int) : nums (a :: b) = num a ++ nums b := by simp [nums]
theorem nums_take (l : List Int) (k : Nat) (hk : k < l.length) : nums (l.take (k + 1)) = nums (l.take k) ++ num (l.getD k 0) := by
  rw [List.take_succ_eq_append_getElem hk, nums_append]
  simp [nums, List.getD_eq_getElem?_getD, hk]
theorem nums_byte (l : List Int) : ∀ c ∈ nums l, c < 256 := by
  intro c hc
  obtain ⟨n, _, h⟩ := List.mem_flatMap.1 hc
  exact num_byte n c h

/-- the numbers of an instruction, a unit, a module -/
def insN (i : Ins) : List Int := [i.op, i.a, i.n]
def codeN (l : List Ins) : List Int := l.flatMap insN
def untN (u : Unt) : List Int := [u.kind, u.params] ++ ((u.locals.length : Int) :: u.locals) ++ [u.result, u.takes, (u.code.length : Int)] ++ codeN u.code
def boxN (b : Int × Int) : List Int := [b.1, b.2]
def mdlN (m : Mdl) : List Int := (m.boxes.length : Int) :: m.boxes.flatMap boxN ++ (m.units.length : Int) :: m.units.flatMap untN
def body (m : Mdl) : List Nat := nums (mdlN m)

theorem flat_take {α β : Type} (f : α → List β) (l : List α) (k : Nat) : (l.take k).flatMap f ++ (l.drop k).flatMap f = l.flatMap f := by
  rw [← List.flatMap_append, List.take_append_drop]
theorem flat_succ {α β : Type} [Inhabited α] (f : α → List β) (l : List α) (k : Nat) (hk : k < l.length) : (l.take (k + 1)).flatMap f = (l.take k).flatMap f ++ f (l.getD k default) := by
  rw [List.take_succ_eq_append_getElem hk, List.flatMap_append]
  simp [List.getD_eq_getElem?_getD, hk]
/-- what is written ahead of the boxes from k on; of the units from k on; inside a unit -/
def pre1 (m : Mdl) (k : Nat) : List Int := (m.boxes.length : Int) :: (m.boxes.take k).flatMap boxN
def pre2 (m : Mdl) (k : Nat) : List Int := (m.boxes.length : Int) :: m.boxes.flatMap boxN ++ (m.units.length : Int) :: (m.units.take k).flatMap untN
def untH (u : Unt) : List Int := [u.kind, u.params] ++ ((u.locals.length : Int) :: u.locals) ++ [u.result, u.takes, (u.code.length : Int)]
instance : Inhabited Ins := ⟨⟨0, 0, 0⟩⟩
instance : Inhabited Unt := ⟨⟨0, 0, [], 0, 0, []⟩⟩
theorem pre1_rest (m : Mdl) (k : Nat) : pre1 m k ++ ((m.boxes.drop k).flatMap boxN ++ (m.units.length : Int) :: m.units.flatMap untN) = mdlN m := by
  have := flat_take boxN m.boxes k
  simp only [pre1, mdlN, List.cons_append, ← List.append_assoc, this]
theorem pre1_succ (m : Mdl) (k : Nat) (hk : k < m.boxes.length) : pre1 m (k + 1) = pre1 m k ++ boxN (m.boxes.getD k (0, 0)) := by
  simp only [pre1, List.cons_append]
  rw [flat_succ boxN m.boxes k hk]
  rfl
theorem pre1_all (m : Mdl) : pre1 m m.boxes.length ++ [(m.units.length : Int)] = pre2 m 0 := by
  simp [pre1, pre2]
theorem pre2_rest (m : Mdl) (k : Nat) : pre2 m k ++ (m.units.drop k).flatMap untN = mdlN m := by
  have := flat_take untN m.units k
  simp only [pre2, mdlN, List.cons_append, List.append_assoc, this]
theorem pre2_succ (m : Mdl) (k : Nat) (hk : k < m.units.length) : pre2 m (k + 1) = pre2 m k ++ untN (m.units.getD k default) := by
  simp only [pre2, List.cons_append, List.append_assoc]
  rw [flat_succ untN m.units k hk]
theorem pre2_all (m : Mdl) : pre2 m m.units.length = mdlN m := by simp [pre2, mdlN]
theorem unt_take (u : Unt) (k : Nat) : untH u ++ codeN (u.code.take k) ++ codeN (u.code.drop k) = untN u := by
  have := flat_take insN u.code k
  simp only [untH, untN, codeN, List.append_assoc, this]
theorem code_succ (u : Unt) (k : Nat) (hk : k < u.code.length) : codeN (u.code.take (k + 1)) = codeN (u.code.take k) ++ insN (u.code.getD k default) := flat_succ insN u.code k hk
/-- a part of all numbers: they fit, and their bytes are not too many -/
theorem part_ok {m : Mdl} (hw : ∀ n ∈ mdlN m, In64 n) {a b c : List Int} (h : a ++ b ++ c = mdlN m) : (∀ n ∈ b, In64 n) ∧ (nums a).length ≤ 10 * (mdlN m).length ∧ (nums (a ++ b)).length ≤ (nums (mdlN m)).length := by
  rw [← h] at hw ⊢
  refine ⟨fun n hn => hw n (by simp [hn]), ?_, ?_⟩
  · have := nums_len (l := a) (fun n hn => hw n (by simp [hn]))
    simp only [List.length_append]
    omega
  · rw [nums_append (a ++ b), List.length_append]
    omega

/-- the register of 16 bits -/
def bit1 (y : BitVec 16) : BitVec 16 := if y.toNat / 32768 = 1 then (y <<< 1) ^^^ 4129#16 else y <<< 1
def bitN : Nat → BitVec 16 → BitVec 16
  | 0, x => x
  | n + 1, x => bit1 (bitN n x)
def byte1 (x : BitVec 16) (c : Nat) : BitVec 16 := bitN 8 (x ^^^ BitVec.ofNat 16 (c * 256))
def crcFrom (x : BitVec 16) (l : List Nat) : BitVec 16 := l.foldl byte1 x
def crc (l : List Nat) : Nat := (crcFrom 65535#16 l).toNat
theorem crcFrom_append (x : BitVec 16) (a b : List Nat) : crcFrom x (a ++ b) = crcFrom (crcFrom x a) b := by simp [crcFrom]
theorem crcFrom_take (x : BitVec 16) (l : List Nat) (k : Nat) (hk : k < l.length) : crcFrom x (l.take (k + 1)) = byte1 (crcFrom x (l.take k)) (l.getD k 0) := by
  rw [List.take_succ_eq_append_getElem hk, crcFrom_append]
  simp [crcFrom, List.getD_eq_getElem?_getD, hk]
theorem crc_lt (l : List Nat) : crc l < 65536 := (crcFrom 65535#16 l).isLt

/-- the whole -/
def bytes (m : Mdl) : List Nat := body m ++ [crc (body m) / 256, crc (body m) % 256]

end Go.Proofs.Ytkhagebjphaboaa.ImgM
