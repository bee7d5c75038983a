/- Slices that the call itself has made, wherever in their block they begin ('Own'); slices that are only read ('Row'). Nothing of the program stands here. -/
import Derived.Test.YtfeajpghabjaaaaM03
namespace Go.Proofs.Ytfeajpghabjaaaa
open Go.RowKit
set_option linter.unusedVariables false

/-- the slice v reads as the cells cs: n elements of 'size' cells -/
def Row (w : World) (v : Value) (size n : Nat) (cs : List Value) : Prop :=
  cs.length = n * size ∧ n ≤ maxLen ∧ ∃ ao cap, v = .slice ao n cap ∧ n ≤ cap ∧ (0 < n → ∃ b off, ao = some ⟨b, off, none⟩ ∧ ∀ j, j < n * size → w.cell? ⟨b, off + j, none⟩ = cs[j]?)

theorem Row.keep {w w' : World} {v : Value} {size n : Nat} {cs : List Value} (h : Row w v size n cs) {S : Nat → Prop} (k : Keeps S w w') (hs : ∀ b, v.ownBlock = some b → ¬ S b) : Row w' v size n cs := by
  obtain ⟨h1, h2, ao, cap, rfl, h3, h4⟩ := h
  refine ⟨h1, h2, ao, cap, rfl, h3, fun hn => ?_⟩
  obtain ⟨b, off, rfl, hc⟩ := h4 hn
  refine ⟨b, off, rfl, fun j hj => ?_⟩
  have hlt : b < w.heap.size := World.block_lt_of_cell? w _ ((hc j hj).trans (List.getElem?_eq_getElem (by omega)))
  rw [k.cell (p := ⟨b, off + j, none⟩) hlt (hs b rfl)]
  exact hc j hj

/-- v owns the cells xs, n elements of type e ('size' cells each): nil, or somewhere in a block from 'base' on, of which nothing is frozen, and whose places up to the capacity are there -/
def Own (w : World) (base : Nat) (e : TypeId) (size : Nat) (v : Value) (n : Nat) (xs : List Value) : Prop :=
  xs.length = n * size ∧ ∃ ao cap, v = .slice ao n cap ∧ n ≤ cap ∧ cap ≤ maxLen ∧ (ao = none → cap = 0) ∧
    ∀ ad, ao = some ad → ad.spot = none ∧ base ≤ ad.block ∧ ∃ cur, Blk w ad.block cur e ∧ ad.off + cap * size ≤ cur.size ∧ (cur.toList.drop ad.off).take (n * size) = xs

section
variable {w : World} {base : Nat} {e : TypeId} {size : Nat} {v : Value} {n : Nat} {xs : List Value}

theorem Own.nil (w : World) (base : Nat) (e : TypeId) (size : Nat) : Own w base e size (.slice none 0 0) 0 [] :=
  ⟨by simp, none, 0, rfl, Nat.le_refl _, Nat.zero_le _, fun _ => rfl, (fun ad h => by cases h)⟩

theorem Own.of_row (h : w.ownsRow base e size v n xs) : Own w base e size v n xs := by
  obtain ⟨h1, h2⟩ := h
  rcases h2 with ⟨rfl, rfl⟩ | ⟨g, cap, cur, rfl, hb, hg, hn, hc, hs, ht⟩
  · obtain rfl : xs = [] := List.eq_nil_of_length_eq_zero (by simpa using h1)
    exact Own.nil w base e size
  · exact ⟨h1, some ⟨g, 0, none⟩, cap, rfl, hn, hc, (fun h => by cases h), fun ad h => by
      cases h
      exact ⟨rfl, hb, cur, hg, by simp [hs], by simpa using ht⟩⟩

theorem Own.len (h : Own w base e size v n xs) : xs.length = n * size := h.1
theorem Own.le (h : Own w base e size v n xs) : n ≤ maxLen := by
  obtain ⟨_, ao, cap, rfl, h2, h3, _⟩ := h
  omega

theorem Own.lt (h : Own w base e size v n xs) : ∀ k, v.ownBlock = some k → base ≤ k ∧ k < w.heap.size := by
  obtain ⟨h1, ao, cap, rfl, h2, h3, h4, h5⟩ := h
  intro k hk
  cases ao with
  | none => simp [Value.ownBlock] at hk
  | some ad =>
    simp [Value.ownBlock] at hk
    obtain ⟨_, hb, cur, hB, _⟩ := h5 ad rfl
    subst hk
    exact ⟨hb, hB.lt⟩

theorem Own.keep (h : Own w base e size v n xs) {S : Nat → Prop} {w' : World} (k : Keeps S w w') (hs : ∀ b, v.ownBlock = some b → ¬ S b) : Own w' base e size v n xs := by
  obtain ⟨h1, ao, cap, rfl, h2, h3, h4, h5⟩ := h
  refine ⟨h1, ao, cap, rfl, h2, h3, h4, fun ad had => ?_⟩
  obtain ⟨h6, h7, cur, h8, h9⟩ := h5 ad had
  exact ⟨h6, h7, cur, h8.keep k (hs ad.block (by rw [had]; rfl)), h9⟩

theorem Own.alloc (h : Own w base e size v n xs) (o : Obj) : Own (w.alloc o) base e size v n xs :=
  h.keep (S := Nil) ((Keeps.refl _ _).alloc o) (fun _ _ h => h)
theorem Own.mono (h : Own w base e size v n xs) {base' : Nat} (hb : base' ≤ base) : Own w base' e size v n xs := by
  obtain ⟨h1, ao, cap, rfl, h2, h3, h4, h5⟩ := h
  refine ⟨h1, ao, cap, rfl, h2, h3, h4, fun ad had => ?_⟩
  obtain ⟨h6, h7, h8⟩ := h5 ad had
  exact ⟨h6, by omega, h8⟩
theorem Own.drew (h : Own w base e size v n xs) : Own w.drew base e size v n xs := h

/-- what it is read as -/
theorem Own.row (h : Own w base e size v n xs) (hsz : 0 < size) : Row w v size n xs := by
  have hle := h.le
  obtain ⟨h1, ao, cap, rfl, h2, h3, h4, h5⟩ := h
  refine ⟨h1, hle, ao, cap, rfl, h2, fun hn => ?_⟩
  cases ao with
  | none => have := h4 rfl; omega
  | some ad =>
    obtain ⟨h6, h7, cur, h8, h9, h10⟩ := h5 ad rfl
    obtain ⟨b, off, spot⟩ := ad
    simp only at h6; subst h6
    refine ⟨b, off, rfl, fun j hj => ?_⟩
    have h8' : Blk w b cur e := h8
    rw [h8'.cell, ← h10, List.getElem?_take, if_pos hj, List.getElem?_drop]
    simp

/-- 'v[1:]' -/
theorem Own.tail {w : World} {base : Nat} {e : TypeId} {size b off n cap : Nat} {xs ys : List Value} (hy : ys.length = size)
    (h : Own w base e size (.slice (some ⟨b, off, none⟩) (n + 1) cap) (n + 1) (ys ++ xs)) :
    (cap = 1 → Own w base e size (.slice (some ⟨b, off, none⟩) n (cap - 1)) n xs) ∧ (cap ≠ 1 → Own w base e size (.slice (some ⟨b, off + size, none⟩) n (cap - 1)) n xs) := by
  obtain ⟨h1, ao, cap', he, h2, h3, h4, h5⟩ := h
  simp only [Value.slice.injEq] at he
  obtain ⟨rfl, -, rfl⟩ := he
  obtain ⟨h6, h7, cur, h8, h9, h10⟩ := h5 _ rfl
  simp only at h7 h8 h9 h10
  have hx : xs.length = n * size := by
    rw [List.length_append, hy, Nat.add_mul] at h1; omega
  have hd : (cur.toList.drop (off + size)).take (n * size) = xs := by
    have e1 : ((cur.toList.drop off).take ((n + 1) * size)).drop size = xs := by rw [h10, ← hy]; simp
    rw [List.drop_take, List.drop_drop, Nat.add_mul] at e1
    rwa [show n * size + 1 * size - size = n * size by omega] at e1
  refine ⟨fun hc => ⟨hx, _, _, rfl, by omega, by omega, (fun h => by cases h), fun ad had => ?_⟩, fun hc => ⟨hx, _, _, rfl, by omega, by omega, (fun h => by cases h), fun ad had => ?_⟩⟩
  · cases had
    obtain rfl : n = 0 := by omega
    exact ⟨rfl, h7, cur, h8, by subst hc; simp; omega, by simpa using hd⟩
  · cases had
    refine ⟨rfl, h7, cur, h8, ?_, hd⟩
    have : cap = (cap - 1) + 1 := by omega
    rw [this, Nat.add_mul] at h9
    simp only; omega

theorem Row.of_blk {w : World} {b : Nat} {cs : Array Value} {t : TypeId} (h : Blk w b cs t) {size n : Nat} (hs : cs.size = n * size) (hn : n ≤ maxLen) : Row w (.slice (some ⟨b, 0, none⟩) n n) size n cs.toList :=
  ⟨by simpa using hs, hn, _, n, rfl, Nat.le_refl _, fun _ => ⟨b, 0, rfl, fun j hj => by rw [h.cell]; simp⟩⟩

/-- a row of at least one element: where it lies -/
theorem Row.form {w : World} {ao : Option Addr} {n cap size : Nat} {cs : List Value} (h : Row w (.slice ao n cap) size n cs) (hn : 0 < n) : ∃ b off, ao = some ⟨b, off, none⟩ := by
  obtain ⟨-, -, ao', cap', he, -, h4⟩ := h
  simp only [Value.slice.injEq] at he
  obtain ⟨rfl, -, -⟩ := he
  obtain ⟨b, off, rfl, -⟩ := h4 hn
  exact ⟨b, off, rfl⟩
theorem Blk.setCells {b : Nat} {t : TypeId} : ∀ (vs : List Value) (o : Nat) {w : World} {cs : Array Value}, Blk w b cs t → o + vs.length ≤ cs.size →
    Blk (w.setCells b o vs) b (cs.toList.take o ++ vs ++ cs.toList.drop (o + vs.length)).toArray t
  | [], o, w, cs, h, hl => by simpa [World.setCells] using h
  | v :: vs, o, w, cs, h, hl => by
    simp only [List.length_cons] at hl
    have := Blk.setCells vs (o + 1) (h.set o v) (by simp; omega)
    refine (this : Blk (w.setCells b o (v :: vs)) b _ t).to rfl ?_
    apply Array.ext'
    have ho : o < cs.toList.length := by simp; omega
    simp only [Array.toList_setIfInBounds, List.length_cons]
    rw [List.take_set, List.drop_set_of_lt (by omega), List.take_succ_eq_append_getElem ho, List.set_append_right _ _ (by simp; omega)]
    simp only [List.length_take, Nat.min_eq_left (Nat.le_of_lt ho), Nat.sub_self, List.set_cons_zero, List.append_assoc, List.cons_append, List.nil_append]
    rw [show o + 1 + vs.length = o + (vs.length + 1) by omega]

theorem Keeps.setCells {S : Nat → Prop} {b : Nat} : ∀ (vs : List Value) (o : Nat) {a w : World}, Keeps S a w → (b < a.heap.size → S b) → Keeps S a (w.setCells b o vs)
  | [], o, a, w, h, hs => h
  | v :: vs, o, a, w, h, hs => Keeps.setCells vs (o + 1) (h.setCell hs v) hs
end

/-- 'append(v, x..)', v the call's own, m elements more: some value, in some world -/
theorem run_own_append {P : Program} {w : World} (base : Nat) (t ty e : TypeId) (z : Value) (size bytes : Nat) (ht : P.underlying t = some (.slice e)) (hi : (P.info? e).map (fun i => (i.zero, i.size, i.bytes)) = some (some z, size, bytes))
    (hzs : z.cells.size = size) (hsz : 0 < size) (v : Value) (n : Nat) (xs : List Value) (hown : Own w base e size v n xs)
    (ad : Addr) (m c : Nat) (news : List Value) (hl : news.length = m * size) (hnews : ∀ j u, news[j]? = some u → w.cell? (ad.add j) = some u) (h1 : ∀ u ∈ news, u.oneCell' = true)
    (h63 : n + m ≤ maxLen) (hbytes : (n + m) * bytes ≤ 140737488355328) (hbase : base ≤ w.heap.size) :
    ∃ v' w', (Builtin.append_ #[t, t] ty #[v, .slice (some ad) m c]).run P w = .ok v' w' ∧ Own w' base e size v' (n + m) (xs ++ news) ∧ Keeps (fun i => v.ownBlock = some i) w w' ∧ (v'.ownBlock = v.ownBlock ∨ ∀ b, v'.ownBlock = some b → w.heap.size ≤ b) := by
  obtain ⟨i, hi0, hi1, hi2, hi3⟩ := info_parts hi
  obtain ⟨g1, ao, cap, rfl, g2, g3, g4, g5⟩ := hown
  have fresh : ∀ v' w', w'.ownsRow w.heap.size e size v' (n + m) (xs ++ news) → w.grownBy w' none →
      Own w' base e size v' (n + m) (xs ++ news) ∧ Keeps (fun i => (Value.slice ao n cap).ownBlock = some i) w w' ∧ (v'.ownBlock = (Value.slice ao n cap).ownBlock ∨ ∀ b, v'.ownBlock = some b → w.heap.size ≤ b) := by
    intro v' w' h2 h3
    refine ⟨(Own.of_row h2).mono hbase, (Keeps.of_grown h3).mono (fun i _ h => by cases h), .inr fun b hb => (h2.lt b hb).1⟩
  cases ao with
  | none =>
    obtain rfl := g4 rfl
    obtain rfl : n = 0 := by omega
    obtain rfl : xs = [] := List.eq_nil_of_length_eq_zero (by simpa using g1)
    obtain ⟨v', w', hr, h2, h3, _⟩ := run_append_own (P := P) w w.heap.size t ty e i z size bytes ht hi0 hi1 hi2 hi3 hzs hsz (.slice none 0 0) 0 [] (World.ownsRow_nil w _ e size) ad m c news hl hnews h1 h63 hbytes (Nat.le_refl _)
    exact ⟨v', w', hr, fresh v' w' h2 h3⟩
  | some a0 =>
    obtain ⟨g6, g7, cur, g8, g9, g10⟩ := g5 a0 rfl
    obtain ⟨b, off, spot⟩ := a0
    simp only at g6; subst g6
    have g8' : Blk w b cur e := g8
    simp only at g9 g10
    have holds : ∀ j u, xs[j]? = some u → w.cell? ((⟨b, off, none⟩ : Addr).add j) = some u := by
      intro j u hj
      have hjl : j < xs.length := (List.getElem?_eq_some_iff.1 hj).1
      rw [Addr.add_lit, g8'.cell]
      rw [← g10, List.getElem?_take, if_pos (by omega), List.getElem?_drop] at hj
      simpa using hj
    by_cases hroom : n + m ≤ cap
    · subst hi2
      have hmul : (n + m) * i.size ≤ cap * i.size := Nat.mul_le_mul_right _ hroom
      rw [Nat.add_mul] at hmul
      have hr := run_append_room_cells (P := P) w t ty e i ht hi0 b off n cap ad m c news hl hnews h1 hroom
        (fun j hj => by rw [g8'.cell]; simp; omega) (fun j hj => g8'.free _)
      refine ⟨_, _, hr, ⟨by rw [List.length_append, g1, hl, Nat.add_mul], some ⟨b, off, none⟩, cap, rfl, hroom, g3, (fun h => by cases h), ?_⟩, Keeps.setCells _ _ (Keeps.refl _ _) (fun _ => rfl), .inl rfl⟩
      intro ad' had'
      cases had'
      have hs := Blk.setCells news (off + n * i.size) g8' (by omega)
      refine ⟨rfl, g7, _, hs, ?_, ?_⟩
      · simp only [List.size_toArray, List.length_append, List.length_take, List.length_drop, Array.length_toList]; omega
      · have hx : (cur.toList.take (off + n * i.size)).drop off = xs := by
          rw [← g10, List.take_drop, Nat.add_comm]
        have hxl : (cur.toList.take (off + n * i.size)).length = off + n * i.size := by simp; omega
        simp only [List.append_assoc]
        rw [List.drop_append_of_le_length (by omega), hx, ← List.append_assoc]
        rw [List.take_append_of_le_length (by simp only [List.length_append, g1, hl, Nat.add_mul]; omega)]
        exact List.take_of_length_le (by simp only [List.length_append, g1, hl, Nat.add_mul]; omega)
    · obtain ⟨v', w', hr, h2, h3⟩ := run_append_arg_grows (P := P) w t ty e i z size bytes ht hi0 hi1 hi2 hi3 hzs hsz ⟨b, off, none⟩ n cap xs g1 holds ad m c news hl hnews (by omega) h63 hbytes
      exact ⟨v', w', hr, fresh v' w' h2 h3⟩

/-- 'append(v, s...)', v the call's own, s read as a list -/
theorem run_own_appendS {P : Program} {w : World} (base : Nat) (t ty e : TypeId) (z : Value) (size bytes : Nat) (ht : P.underlying t = some (.slice e)) (hi : (P.info? e).map (fun i => (i.zero, i.size, i.bytes)) = some (some z, size, bytes))
    (hzs : z.cells.size = size) (hsz : 0 < size) (v : Value) (n : Nat) (xs : List Value) (hown : Own w base e size v n xs)
    (sv : Value) (m : Nat) (news : List Value) (hrow : Row w sv size m news) (h1 : ∀ u ∈ news, u.oneCell' = true)
    (h63 : n + m ≤ maxLen) (hbytes : (n + m) * bytes ≤ 140737488355328) (hbase : base ≤ w.heap.size) :
    ∃ v' w', (Builtin.append_ #[t, t] ty #[v, sv]).run P w = .ok v' w' ∧ Own w' base e size v' (n + m) (xs ++ news) ∧ Keeps (fun i => v.ownBlock = some i) w w' ∧ (v'.ownBlock = v.ownBlock ∨ ∀ b, v'.ownBlock = some b → w.heap.size ≤ b) := by
  obtain ⟨r1, r2, ao, cap, rfl, r3, r4⟩ := hrow
  by_cases hm : m = 0
  · subst hm
    obtain rfl : news = [] := List.eq_nil_of_length_eq_zero (by simpa using r1)
    obtain ⟨i, hi0, hi1, hi2, hi3⟩ := info_parts hi
    obtain ⟨g1, ao', cap', rfl, g2, g3, g4, g5⟩ := id hown
    refine ⟨.slice ao' n cap', w, ?_, by simpa using hown, Keeps.refl _ _, .inl rfl⟩
    cases ao with
    | none => cases ao' <;> simp [Builtin.append_, run_underlying ht, sizeOf, typeInfo, hi0, Builtin.lenOf, g2, Builtin.firstCells, storeCells]
    | some ad => cases ao' <;> simp [Builtin.append_, run_underlying ht, sizeOf, typeInfo, hi0, Builtin.lenOf, g2, Builtin.firstCells, storeCells, loadCells, loadCellsFrom]
  · obtain ⟨b, off, rfl, hc⟩ := r4 (by omega)
    exact run_own_append base t ty e z size bytes ht hi hzs hsz v n xs hown ⟨b, off, none⟩ m cap news r1 (fun j u hj => by
      have : j < news.length := (List.getElem?_eq_some_iff.1 hj).1
      rw [Addr.add_lit, hc j (by omega)]; exact hj) h1 h63 hbytes hbase

end Go.Proofs.Ytfeajpghabjaaaa

/- What package opt computes, in plain Lean. -/
namespace Go.Proofs.Ytfeajpghabjaaaa.Opt
set_option linter.unusedVariables false
set_option linter.unusedSimpArgs false
open ImgM Ver

def isJ (i : Ins) : Bool := decide (i.op = 21) || decide (i.op = 22)
/-- does code jump there? -/
def tgt (l : List Ins) (p : Int) : Bool := l.any fun i => isJ i && decide (i.a = p)
def cval (i : Ins) : Int := if i.op = 1 then i.n else if i.op = 2 then i.a else 0
def isC (i : Ins) : Bool := decide (i.op = 1) || decide (i.op = 2)
def known (v : Int) (t : Bool) : List Ins := if t then [⟨2, v, 0⟩] else [⟨1, 0, v⟩]
def yes (b : Bool) : Int := if b then 1 else 0
/-- what an operator makes of two words -/
def two2 (op a b : Int) : Int :=
  if op = 8 then IntKind.i64.wrap (a + b)
  else if op = 9 then IntKind.i64.wrap (a - b)
  else if op = 10 then IntKind.i64.wrap (a * b)
  else if op = 11 ∨ op = 12 then
    if a = -9223372036854775808 ∧ b = -1 then (if op = 11 then a else 0)
    else if op = 11 then IntKind.i64.wrap (a.tdiv b) else a.tmod b
  else if op = 13 then yes (decide (a = b))
  else if op = 14 then yes (!decide (a = b))
  else if op = 15 then yes (decide (a < b))
  else if op = 16 then yes (decide (a ≤ b))
  else if op = 17 then yes (decide (b < a))
  else if op = 18 then yes (decide (b ≤ a))
  else if op = 19 then bits .and .i64 a b
  else bits .or .i64 a b
def three (a b c : Ins) : Option (List Ins) :=
  if isC a = false ∨ isC b = false ∨ a.op ≠ b.op ∨ c.op < 8 ∨ 20 < c.op ∨ (cval b = 0 ∧ (c.op = 11 ∨ c.op = 12)) then none
  else if ((c.op = 19 ∨ c.op = 20) ↔ ¬ a.op = 2) ∧ c.op ≠ 13 ∧ c.op ≠ 14 then none
  else some (known (two2 c.op (cval a) (cval b)) (decide (12 < c.op)))
def pair (a b : Ins) : Option (List Ins) :=
  if b.op = 5 ∧ (isC a = true ∨ a.op = 3) then some []
  else if isC a = false then none
  else if b.op = 6 ∧ a.op = 1 then some (known (IntKind.i64.wrap (-(cval a))) false)
  else if a.op = 1 then none
  else if b.op = 7 then some (known (IntKind.i64.wrap (1 - cval a)) true)
  else if b.op = 22 ∧ cval a ≠ 0 then some []
  else if b.op = 22 then some [⟨21, b.a, 0⟩]
  else none
def at_ (l : List Ins) (k : Nat) : Ins := l.getD k default
/-- so many instructions may be taken away: they are not the last ones, and nobody jumps into them -/
def free (l : List Ins) (p n : Nat) : Bool := decide (p + n < l.length) && (List.range n).all fun k => decide (k = 0) || !tgt l ((p + k : Nat) : Int)
/-- what may stand for the first so many instructions from a place on -/
def shorter (l : List Ins) (p : Nat) : List Ins × Nat :=
  match (if free l p 3 then three (at_ l p) (at_ l (p + 1)) (at_ l (p + 2)) else none) with
  | some r => (r, 3)
  | none => match (if free l p 2 then pair (at_ l p) (at_ l (p + 1)) else none) with
    | some r => (r, 2)
    | none => if free l p 1 = true ∧ (at_ l p).op = 21 ∧ (at_ l p).a = (p : Int) + 1 then ([], 1) else ([], 0)
/-- a pass under way: where it is, what it put out, where old places are now, whether something was made shorter -/
structure PS where
  p : Nat
  out : List Ins
  wh : List Int
  did : Bool
def setAll (wh : List Int) (p : Nat) (v : Int) : Nat → List Int
  | 0 => wh
  | n + 1 => (setAll wh p v n).set (p + n + 1) v
def pstep (l : List Ins) (s : PS) : PS :=
  if (shorter l s.p).2 = 0 then ⟨s.p + 1, s.out ++ [at_ l s.p], s.wh.set s.p (s.out.length : Int), s.did⟩
  else ⟨s.p + (shorter l s.p).2, s.out ++ (shorter l s.p).1, setAll (s.wh.set s.p (s.out.length : Int)) s.p ((s.out ++ (shorter l s.p).1).length : Int) ((shorter l s.p).2 - 1), true⟩
def prun (l : List Ins) : Nat → PS → PS
  | 0, s => s
  | n + 1, s => if s.p < l.length then prun l n (pstep l s) else s
def reloc (wh : List Int) (i : Ins) : Ins := if isJ i then { i with a := wh.getD i.a.toNat 0 } else i
def pass0 (l : List Ins) : PS := prun l l.length ⟨0, [], List.replicate (l.length + 1) 0, false⟩
def pass (l : List Ins) : List Ins × Bool := ((pass0 l).out.map (reloc (pass0 l).wh), (pass0 l).did)
def codeN : Nat → List Ins → List Ins
  | 0, l => l
  | n + 1, l => if (pass l).2 then codeN n (pass l).1 else (pass l).1
/-- code that no pass makes shorter -/
def code (l : List Ins) : List Ins := codeN (l.length + 1) l
def unit (u : Unt) : Unt := { u with code := code u.code }
def mdl (M : Mdl) : Mdl := ⟨M.boxes, M.units.map unit⟩
end Go.Proofs.Ytfeajpghabjaaaa.Opt

/- A pass of package opt as a list of pieces. Plain Lean. -/
namespace Go.Proofs.Ytfeajpghabjaaaa.Opt
set_option linter.unusedVariables false
set_option linter.unusedSimpArgs false
open ImgM Ver

def nx (l : List Ins) (p : Nat) : Nat := p + (if (shorter l p).2 = 0 then 1 else (shorter l p).2)
def em (l : List Ins) (p : Nat) : List Ins := if (shorter l p).2 = 0 then [at_ l p] else (shorter l p).1
/-- the places from one on, at which a pass stands -/
def pcs (l : List Ins) : Nat → Nat → List Nat
  | 0, _ => []
  | n + 1, p => if p < l.length then p :: pcs l n (nx l p) else []
theorem free_lt {l : List Ins} {p n : Nat} (h : free l p n = true) : p + n < l.length := by
  unfold free at h
  rw [Bool.and_eq_true, decide_eq_true_eq] at h
  exact h.1
theorem free_not {l : List Ins} {p n k : Nat} (h : free l p n = true) (h0 : 0 < k) (hk : k < n) : tgt l ((p + k : Nat) : Int) = false := by
  unfold free at h
  rw [Bool.and_eq_true, List.all_eq_true] at h
  have := h.2 k (List.mem_range.2 hk)
  rw [Bool.or_eq_true, decide_eq_true_eq, Bool.not_eq_true'] at this
  rcases this with h | h
  · omega
  · exact h
theorem shorter_cases {l : List Ins} {p : Nat} (h : (shorter l p).2 ≠ 0) :
    (∃ r, shorter l p = (r, 3) ∧ free l p 3 = true ∧ three (at_ l p) (at_ l (p + 1)) (at_ l (p + 2)) = some r) ∨
    (∃ r, shorter l p = (r, 2) ∧ free l p 2 = true ∧ pair (at_ l p) (at_ l (p + 1)) = some r) ∨
    (shorter l p = ([], 1) ∧ free l p 1 = true ∧ (at_ l p).op = 21 ∧ (at_ l p).a = (p : Int) + 1) := by
  unfold shorter at h ⊢
  split
  · rename_i r hr
    left
    by_cases hf : free l p 3 = true
    · rw [if_pos hf] at hr
      exact ⟨r, rfl, hf, hr⟩
    · rw [if_neg hf] at hr; cases hr
  · rename_i h3
    right
    rw [h3] at h
    simp only at h
    split
    · rename_i r hr
      left
      by_cases hf : free l p 2 = true
      · rw [if_pos hf] at hr
        exact ⟨r, rfl, hf, hr⟩
      · rw [if_neg hf] at hr; cases hr
    · rename_i h2
      right
      rw [h2] at h
      simp only at h
      by_cases hf : free l p 1 = true ∧ (at_ l p).op = 21 ∧ (at_ l p).a = (p : Int) + 1
      · rw [if_pos hf]; exact ⟨rfl, hf⟩
      · rw [if_neg hf] at h; exact absurd rfl h
theorem known_len (v : Int) (t : Bool) : (known v t).length = 1 := by unfold known; split <;> rfl
theorem three_len {a b c : Ins} {r : List Ins} (h : three a b c = some r) : r.length = 1 := by
  unfold three at h
  split at h
  · cases h
  · split at h
    · cases h
    · cases h; exact known_len _ _
theorem pair_len {a b : Ins} {r : List Ins} (h : pair a b = some r) : r.length ≤ 1 := by
  unfold pair at h
  repeat' split at h
  all_goals cases h
  all_goals first | exact Nat.le_of_eq (known_len _ _) | simp
/-- a piece is shorter than what it stands for, and is not the last one -/
theorem shorter_len {l : List Ins} {p : Nat} (h : (shorter l p).2 ≠ 0) : (shorter l p).1.length ≤ 1 ∧ (shorter l p).1.length < (shorter l p).2 ∧ p + (shorter l p).2 < l.length := by
  rcases shorter_cases h with ⟨r, h1, h2, h3⟩ | ⟨r, h1, h2, h3⟩ | ⟨h1, h2, h3⟩
  · have := three_len h3; have := free_lt h2
    rw [h1]; exact ⟨by simp only; omega, by simp only; omega, by simp only; omega⟩
  · have := pair_len h3; have := free_lt h2
    rw [h1]; exact ⟨by simp only; omega, by simp only; omega, by simp only; omega⟩
  · have := free_lt h2
    rw [h1]; exact ⟨by simp, by simp, by simp only; omega⟩
theorem shorter_not {l : List Ins} {p k : Nat} (h : (shorter l p).2 ≠ 0) (h0 : 0 < k) (hk : k < (shorter l p).2) : tgt l ((p + k : Nat) : Int) = false := by
  rcases shorter_cases h with ⟨r, h1, h2, h3⟩ | ⟨r, h1, h2, h3⟩ | ⟨h1, h2, h3⟩ <;> (rw [h1] at hk; exact free_not h2 h0 hk)
theorem em_len (l : List Ins) (p : Nat) : (em l p).length ≤ 1 := by
  unfold em
  split
  · simp
  · rename_i h; exact (shorter_len h).1
theorem nx_gt (l : List Ins) (p : Nat) : p < nx l p := by unfold nx; split <;> omega
theorem nx_le {l : List Ins} {p : Nat} (h : p < l.length) : nx l p ≤ l.length := by
  unfold nx
  split
  · omega
  · rename_i h'; have := (shorter_len h').2.2; omega
theorem em_last {l : List Ins} {p : Nat} (h : nx l p = l.length) : em l p = [at_ l p] := by
  unfold em
  split
  · rfl
  · rename_i h'
    unfold nx at h
    rw [if_neg h'] at h
    have := (shorter_len h').2.2
    omega

theorem setAll_len (wh : List Int) (p : Nat) (v : Int) : ∀ n, (setAll wh p v n).length = wh.length
  | 0 => rfl
  | n + 1 => by unfold setAll; rw [List.length_set, setAll_len wh p v n]
theorem getD_setI {l : List Int} {k j : Nat} {v : Int} (hk : k < l.length) : (l.set k v).getD j 0 = if k = j then v else l.getD j 0 := by
  simp only [List.getD_eq_getElem?_getD, List.getElem?_set]
  by_cases h : k = j
  · subst h; simp [hk]
  · simp [h]
theorem getD_setI' {l : List Int} {k j : Nat} {v : Int} (hk : k ≠ j) : (l.set k v).getD j 0 = l.getD j 0 := by
  simp only [List.getD_eq_getElem?_getD, List.getElem?_set]
  rw [if_neg hk]
theorem setAll_getD {wh : List Int} {p : Nat} {v : Int} {q : Nat} (hq : q ≤ p) : ∀ n, (setAll wh p v n).getD q 0 = wh.getD q 0
  | 0 => rfl
  | n + 1 => by unfold setAll; rw [getD_setI' (by omega), setAll_getD hq n]
theorem pstep_p (l : List Ins) (s : PS) : (pstep l s).p = nx l s.p := by unfold pstep nx; split <;> rfl
theorem pstep_out (l : List Ins) (s : PS) : (pstep l s).out = s.out ++ em l s.p := by unfold pstep em; split <;> rfl
theorem pstep_did (l : List Ins) (s : PS) : (pstep l s).did = (s.did || decide ((shorter l s.p).2 ≠ 0)) := by
  unfold pstep
  split
  · rename_i h; simp [h]
  · rename_i h; simp [h]
theorem pstep_len (l : List Ins) (s : PS) : (pstep l s).wh.length = s.wh.length := by
  unfold pstep
  split
  · simp
  · simp [setAll_len]
theorem pstep_wh {l : List Ins} {s : PS} (hw : s.wh.length = l.length + 1) (hp : s.p < l.length) {q : Nat} (hq : q ≤ s.p) : (pstep l s).wh.getD q 0 = if s.p = q then (s.out.length : Int) else s.wh.getD q 0 := by
  unfold pstep
  split
  · exact getD_setI (by omega)
  · simp only
    rw [setAll_getD hq, getD_setI (by omega)]
theorem pcs_ge {l : List Ins} : ∀ (n p : Nat), ∀ q ∈ pcs l n p, p ≤ q ∧ q < l.length
  | 0, p, q, h => by cases h
  | n + 1, p, q, h => by
    unfold pcs at h
    split at h
    · rename_i hp
      rcases List.mem_cons.1 h with rfl | h
      · exact ⟨Nat.le_refl _, hp⟩
      · have := pcs_ge n _ q h
        have := nx_gt l p
        omega
    · cases h
/-- what a pass comes to -/
structure Ran (l : List Ins) (n : Nat) (s r : PS) : Prop where
  out : r.out = s.out ++ (pcs l n s.p).flatMap (em l)
  old : ∀ q, q < s.p → r.wh.getD q 0 = s.wh.getD q 0
  wh : ∀ A q C, pcs l n s.p = A ++ q :: C → r.wh.getD q 0 = ((s.out.length + (A.flatMap (em l)).length : Nat) : Int)
  did : r.did = (s.did || (pcs l n s.p).any fun q => decide ((shorter l q).2 ≠ 0))
  len : r.wh.length = l.length + 1
theorem prun_ran {l : List Ins} : ∀ (n : Nat) (s : PS), s.wh.length = l.length + 1 → Ran l n s (prun l n s)
  | 0, s, hw => ⟨by simp [prun, pcs], fun q _ => rfl, fun A q C h => by simp [pcs] at h, by simp [prun, pcs], hw⟩
  | n + 1, s, hw => by
    by_cases hp : s.p < l.length
    · have ih := prun_ran n (pstep l s) (by rw [pstep_len, hw])
      rw [show prun l (n + 1) s = prun l n (pstep l s) by conv => lhs; unfold prun
                                                          rw [if_pos hp]]
      have hpc : pcs l (n + 1) s.p = s.p :: pcs l n (nx l s.p) := by conv => lhs; unfold pcs
                                                                     rw [if_pos hp]
      have hgt := nx_gt l s.p
      refine ⟨?_, fun q hq => ?_, fun A q C h => ?_, ?_, ih.len⟩
      · rw [ih.out, pstep_out, pstep_p, hpc, List.flatMap_cons, List.append_assoc]
      · rw [ih.old q (by rw [pstep_p]; omega), pstep_wh hw hp (by omega), if_neg (by omega)]
      · rw [hpc] at h
        cases A with
        | nil =>
          simp only [List.nil_append, List.cons.injEq] at h
          obtain ⟨rfl, -⟩ := h
          rw [ih.old _ (by rw [pstep_p]; omega), pstep_wh hw hp (Nat.le_refl _), if_pos rfl]
          simp
        | cons a A =>
          simp only [List.cons_append, List.cons.injEq] at h
          obtain ⟨rfl, h⟩ := h
          rw [ih.wh A q C (by rw [pstep_p]; exact h), pstep_out, List.flatMap_cons, List.length_append, List.length_append]
          congr 1
          omega
      · rw [ih.did, pstep_did, pstep_p, hpc, List.any_cons, Bool.or_assoc]
    · rw [show prun l (n + 1) s = s by conv => lhs; unfold prun
                                       rw [if_neg hp]]
      have hpc : pcs l (n + 1) s.p = [] := by unfold pcs; rw [if_neg hp]
      exact ⟨by simp [hpc], fun q _ => rfl, fun A q C h => by simp [hpc] at h, by simp [hpc], hw⟩
/-- all places at which a pass stands -/
def bs (l : List Ins) : List Nat := pcs l l.length 0
theorem pass0_ran (l : List Ins) : Ran l l.length ⟨0, [], List.replicate (l.length + 1) 0, false⟩ (pass0 l) := prun_ran _ _ (by simp)
theorem pass0_out (l : List Ins) : (pass0 l).out = (bs l).flatMap (em l) := (pass0_ran l).out
theorem pass0_wh {l : List Ins} {A : List Nat} {q : Nat} {C : List Nat} (h : bs l = A ++ q :: C) : (pass0 l).wh.getD q 0 = ((A.flatMap (em l)).length : Int) := by
  have := (pass0_ran l).wh A q C h
  simpa using this
theorem pass0_did (l : List Ins) : (pass0 l).did = (bs l).any fun q => decide ((shorter l q).2 ≠ 0) := by
  have := (pass0_ran l).did
  rw [this]
  exact Bool.false_or _
/-- what follows a place -/
theorem pcs_next {l : List Ins} : ∀ (n p : Nat) (A : List Nat) (q : Nat) (C : List Nat), l.length ≤ n + p → pcs l n p = A ++ q :: C → q < l.length ∧ ((nx l q = l.length ∧ C = []) ∨ (nx l q < l.length ∧ ∃ C', C = nx l q :: C'))
  | 0, p, A, q, C, _, h => by simp [pcs] at h
  | n + 1, p, A, q, C, hn, h => by
    unfold pcs at h
    split at h
    · rename_i hp
      have hgt := nx_gt l p
      cases A with
      | nil =>
        simp only [List.nil_append, List.cons.injEq] at h
        obtain ⟨rfl, h⟩ := h
        refine ⟨hp, ?_⟩
        have hle := nx_le hp
        by_cases hl : nx l p < l.length
        · right
          refine ⟨hl, ?_⟩
          cases n with
          | zero => omega
          | succ n =>
            unfold pcs at h
            rw [if_pos hl] at h
            exact ⟨_, h.symm⟩
        · left
          refine ⟨by omega, ?_⟩
          rw [← h]
          cases n with
          | zero => rfl
          | succ n => unfold pcs; rw [if_neg hl]
      | cons a A =>
        simp only [List.cons_append, List.cons.injEq] at h
        exact pcs_next n (nx l p) A q C (by omega) h.2
    · simp at h
theorem bs_next {l : List Ins} {A : List Nat} {q : Nat} {C : List Nat} (h : bs l = A ++ q :: C) : q < l.length ∧ ((nx l q = l.length ∧ C = []) ∨ (nx l q < l.length ∧ ∃ C', C = nx l q :: C')) := pcs_next l.length 0 A q C (by omega) h
theorem bs_zero {l : List Ins} (h : 0 < l.length) : ∃ C, bs l = 0 :: C := by
  unfold bs
  obtain ⟨n, hn⟩ : ∃ n, l.length = n + 1 := ⟨l.length - 1, by omega⟩
  rw [hn]
  unfold pcs
  rw [if_pos (by omega)]
  exact ⟨_, rfl⟩
/-- each place lies in a piece -/
theorem bs_cover {l : List Ins} (h : 0 < l.length) : ∀ a, a < l.length → ∃ A q C, bs l = A ++ q :: C ∧ q ≤ a ∧ a < nx l q
  | 0, _ => by
    obtain ⟨C, hC⟩ := bs_zero h
    exact ⟨[], 0, C, hC, Nat.le_refl _, nx_gt l 0⟩
  | a + 1, ha => by
    obtain ⟨A, q, C, h1, h2, h3⟩ := bs_cover h a (by omega)
    by_cases hx : a + 1 < nx l q
    · exact ⟨A, q, C, h1, by omega, hx⟩
    · obtain ⟨-, hn⟩ := bs_next h1
      have he : nx l q = a + 1 := by omega
      rcases hn with ⟨hn, -⟩ | ⟨hn, C', rfl⟩
      · omega
      · rw [he] at h1
        exact ⟨A ++ [q], a + 1, C', by rw [h1]; simp, Nat.le_refl _, nx_gt _ _⟩
/-- where code jumps to, a piece begins -/
theorem bs_tgt {l : List Ins} {a : Nat} (ha : a < l.length) (ht : tgt l (a : Int) = true) : ∃ A C, bs l = A ++ a :: C := by
  obtain ⟨A, q, C, h1, h2, h3⟩ := bs_cover (by omega) a ha
  by_cases he : q = a
  · subst he; exact ⟨A, C, h1⟩
  · exfalso
    unfold nx at h3
    by_cases hs : (shorter l q).2 = 0
    · rw [if_pos hs] at h3; omega
    · rw [if_neg hs] at h3
      have := shorter_not hs (k := a - q) (by omega) (by omega)
      rw [show q + (a - q) = a by omega, ht] at this
      cases this
/-- where each new instruction comes from -/
def srcs (l : List Ins) (b : List Nat) : List Nat := b.flatMap fun q => if em l q = [] then [] else [q]
theorem srcs_len (l : List Ins) (b : List Nat) : (srcs l b).length = (b.flatMap (em l)).length := by
  unfold srcs
  induction b with
  | nil => rfl
  | cons q r ih =>
    rw [List.flatMap_cons, List.flatMap_cons, List.length_append, List.length_append, ih]
    have := em_len l q
    congr 1
    by_cases h : em l q = []
    · rw [if_pos h, h]; rfl
    · rw [if_neg h]
      have : (em l q).length ≠ 0 := fun h' => h (List.eq_nil_of_length_eq_zero h')
      simp; omega
theorem srcs_app (l : List Ins) (a b : List Nat) : srcs l (a ++ b) = srcs l a ++ srcs l b := by unfold srcs; rw [List.flatMap_append]
theorem src_at {l : List Ins} : ∀ (b : List Nat) (j q : Nat), (srcs l b)[j]? = some q → ∃ A C i, b = A ++ q :: C ∧ em l q = [i] ∧ j = (A.flatMap (em l)).length ∧ (b.flatMap (em l))[j]? = some i
  | [], j, q, h => by simp [srcs] at h
  | x :: r, j, q, h => by
    have e : srcs l (x :: r) = (if em l x = [] then [] else [x]) ++ srcs l r := by unfold srcs; rw [List.flatMap_cons]
    rw [e] at h
    by_cases hx : em l x = []
    · rw [if_pos hx, List.nil_append] at h
      obtain ⟨A, C, i, h1, h2, h3, h4⟩ := src_at r j q h
      exact ⟨x :: A, C, i, by rw [h1]; rfl, h2, by rw [List.flatMap_cons, hx]; simpa using h3, by rw [List.flatMap_cons, hx]; simpa using h4⟩
    · rw [if_neg hx] at h
      obtain ⟨i, hi⟩ : ∃ i, em l x = [i] := by
        have := em_len l x
        match hm : em l x with
        | [] => exact absurd hm hx
        | [i] => exact ⟨i, rfl⟩
        | _ :: _ :: _ => rw [hm] at this; simp at this
      cases j with
      | zero =>
        simp at h
        subst h
        exact ⟨[], r, i, rfl, hi, rfl, by rw [List.flatMap_cons, hi]; rfl⟩
      | succ j =>
        have h' : (srcs l r)[j]? = some q := by simpa using h
        obtain ⟨A, C, i', h1, h2, h3, h4⟩ := src_at r j q h'
        refine ⟨x :: A, C, i', by rw [h1]; rfl, h2, ?_, ?_⟩
        · rw [List.flatMap_cons, hi]; simp [h3]
        · rw [List.flatMap_cons, hi]; first | exact h4 | simpa using h4
/-- it is never longer, and shorter if something was done -/
theorem pcs_len {l : List Ins} : ∀ (n p : Nat), p ≤ l.length → p + ((pcs l n p).flatMap (em l)).length + (if (pcs l n p).any (fun q => decide ((shorter l q).2 ≠ 0)) then 1 else 0) ≤ l.length
  | 0, p, h => by simp [pcs]; exact h
  | n + 1, p, h => by
    unfold pcs
    split
    · rename_i hp
      have ih := pcs_len n (nx l p) (nx_le hp)
      rw [List.flatMap_cons, List.length_append, List.any_cons]
      by_cases hs : (shorter l p).2 = 0
      · have e1 : nx l p = p + 1 := by unfold nx; rw [if_pos hs]
        have e2 : (em l p).length = 1 := by unfold em; rw [if_pos hs]; rfl
        simp only [hs, ne_eq, not_true_eq_false, decide_false, Bool.false_or]
        rw [e2]
        simp only [ne_eq] at ih
        omega
      · have e1 : nx l p = p + (shorter l p).2 := by unfold nx; rw [if_neg hs]
        have e2 : em l p = (shorter l p).1 := by unfold em; rw [if_neg hs]
        have := shorter_len hs
        simp only [hs, ne_eq, not_false_eq_true, decide_true, Bool.true_or, if_true]
        rw [e2]
        split at ih <;> omega
    · simp; exact h
theorem pass_len (l : List Ins) : (pass l).1.length + (if (pass l).2 then 1 else 0) ≤ l.length := by
  have := pcs_len (l := l) l.length 0 (Nat.zero_le _)
  unfold pass
  simp only [List.length_map]
  rw [pass0_did, pass0_out]
  rw [Nat.zero_add] at this
  exact this
end Go.Proofs.Ytfeajpghabjaaaa.Opt
