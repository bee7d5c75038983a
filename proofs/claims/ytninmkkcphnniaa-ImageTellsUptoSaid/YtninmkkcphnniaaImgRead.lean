/- Plain mathematics: modules read from bytes; what is written is read, in one way alone. Nothing of the program stands here. -/
import Derived.Test.YtninmkkcphnniaaImgMath
namespace Go.Proofs.Ytninmkkcphnniaa.ImgM

/-- a number's bytes, the k-th one on -/
def dec (k : Nat) : List Nat → Option (Nat × List Nat)
  | [] => none
  | c :: r => if 9 < k ∨ (k = 9 ∧ 1 < c) ∨ (0 < k ∧ c = 0) then none else if c < 128 then some (c, r) else match dec (k + 1) r with
    | none => none
    | some (y, r') => some (c % 128 + 128 * y, r')

theorem dec_leb : ∀ (k x : Nat) (r : List Nat), k ≤ 9 → x < 2 ^ (64 - 7 * k) → (0 < k → 0 < x) → dec k (leb x ++ r) = some (x, r) := by
  intro k x r hk
  induction hm : 9 - k generalizing k x with
  | zero =>
    intro hx h0
    obtain rfl : k = 9 := by omega
    have hx1 : x < 2 := by simpa using hx
    have := h0 (by omega)
    rw [leb_lt (by omega)]
    simp only [List.cons_append, List.nil_append, dec]
    rw [if_neg (by omega), if_pos (by omega)]
  | succ m ih =>
    intro hx h0
    by_cases h8 : x < 128
    · rw [leb_lt h8]
      simp only [List.cons_append, List.nil_append, dec]
      rw [if_neg (by omega), if_pos (by omega)]
    · rw [leb_ge h8]
      simp only [List.cons_append, dec]
      rw [if_neg (by omega), if_neg (by omega), ih (k + 1) (x / 128) (by omega) (by omega) ?_ (fun _ => by omega)]
      · simp only [Option.some.injEq, Prod.mk.injEq, and_true]
        omega
      · rw [Nat.div_lt_iff_lt_mul (by decide)]
        have e : 64 - 7 * k = (64 - 7 * (k + 1)) + 7 := by omega
        rw [e, Nat.pow_add] at hx
        exact hx

theorem leb_dec : ∀ (l : List Nat) (k x : Nat) (r : List Nat), k ≤ 9 → (∀ c ∈ l, c < 256) → dec k l = some (x, r) → l = leb x ++ r ∧ x < 2 ^ (64 - 7 * k) ∧ (0 < k → 0 < x) := by
  intro l
  induction l with
  | nil => intro k x r _ _ h; simp [dec] at h
  | cons c l ih =>
    intro k x r hk hb h
    have hc := hb c (by simp)
    simp only [dec] at h
    split at h
    · cases h
    rename_i hn
    split at h
    · rename_i h8
      cases h
      refine ⟨by rw [leb_lt h8]; rfl, ?_, fun h0 => by omega⟩
      rcases Nat.lt_or_eq_of_le hk with h9 | rfl
      · have : 2 ^ 7 ≤ 2 ^ (64 - 7 * k) := Nat.pow_le_pow_right (by decide) (by omega)
        omega
      · simp; omega
    · rename_i h8
      have hk9 : k < 9 := by omega
      cases hd : dec (k + 1) l with
      | none => rw [hd] at h; cases h
      | some y =>
        obtain ⟨y, r'⟩ := y
        rw [hd] at h
        simp only [Option.some.injEq, Prod.mk.injEq] at h
        obtain ⟨rfl, rfl⟩ := h
        obtain ⟨h1, h2, h3⟩ := ih (k + 1) y r' (by omega) (fun c hc => hb c (by simp [hc])) hd
        have hy := h3 (by omega)
        have e1 : (c % 128 + 128 * y) / 128 = y := by omega
        have e2 : (c % 128 + 128 * y) % 128 + 128 = c := by omega
        refine ⟨by rw [leb_ge (by omega), e1, e2, h1]; rfl, ?_, fun _ => by omega⟩
        have e : 64 - 7 * k = (64 - 7 * (k + 1)) + 7 := by omega
        rw [e, Nat.pow_add]
        have : (2 : Nat) ^ 7 = 128 := rfl
        have h4 : (y + 1) * 128 ≤ 2 ^ (64 - 7 * (k + 1)) * 128 := Nat.mul_le_mul_right _ h2
        omega

theorem dec_byte : ∀ (l : List Nat) (k x : Nat) (r : List Nat), dec k l = some (x, r) → r.length < l.length ∧ ∀ c ∈ r, c ∈ l := by
  intro l
  induction l with
  | nil => intro k x r h; simp [dec] at h
  | cons c l ih =>
    intro k x r h
    simp only [dec] at h
    split at h
    · cases h
    split at h
    · cases h; exact ⟨by simp, fun c hc => by simp [hc]⟩
    · cases hd : dec (k + 1) l with
      | none => rw [hd] at h; cases h
      | some y =>
        obtain ⟨y, r'⟩ := y
        rw [hd] at h
        simp only [Option.some.injEq, Prod.mk.injEq] at h
        obtain ⟨rfl, rfl⟩ := h
        obtain ⟨h1, h2⟩ := ih (k + 1) y r' hd
        exact ⟨by simp; omega, fun c hc => by simp [h2 c hc]⟩

/-- a reader of things -/
abbrev Rd (α : Type) := List Nat → Option (α × List Nat)
def rdNum : Rd Int := fun l => match dec 0 l with
  | none => none
  | some (x, r) => some (zag x, r)
def rdCount (least : Nat) : Rd Nat := fun l => match rdNum l with
  | none => none
  | some (n, r) => if n < 0 ∨ ((r.length / least : Nat) : Int) < n then none else some (n.toNat, r)
def rdTwo : Rd (Int × Int) := fun l => match rdNum l with
  | none => none
  | some (a, r) => match rdNum r with
    | none => none
    | some (b, s) => some ((a, b), s)
def rdIns : Rd Ins := fun l => match rdNum l with
  | none => none
  | some (a, r) => match rdNum r with
    | none => none
    | some (b, s) => match rdNum s with
      | none => none
      | some (c, t) => some (⟨a, b, c⟩, t)
def rdMany {α : Type} (f : Rd α) : Nat → Rd (List α)
  | 0, l => some ([], l)
  | n + 1, l => match f l with
    | none => none
    | some (a, r) => match rdMany f n r with
      | none => none
      | some (as, s) => some (a :: as, s)
def rdList {α : Type} (least : Nat) (f : Rd α) : Rd (List α) := fun l => match rdCount least l with
  | none => none
  | some (n, r) => rdMany f n r
def rdUnt : Rd Unt := fun l => match rdTwo l with
  | none => none
  | some (kp, r1) => match rdList 1 rdNum r1 with
    | none => none
    | some (ls, r2) => match rdTwo r2 with
      | none => none
      | some (rt, r3) => match rdList 3 rdIns r3 with
        | none => none
        | some (is, r4) => some (⟨kp.1, kp.2, ls, rt.1, rt.2, is⟩, r4)
def rdMdl : Rd Mdl := fun l => match rdList 2 rdTwo l with
  | none => none
  | some (bs, r1) => match rdList 6 rdUnt r1 with
    | none => none
    | some (us, r2) => some (⟨bs, us⟩, r2)

/-- a reader is the writer's other side: it reads what is written, and only that -/
structure Pair {α : Type} (f : Rd α) (wr : α → List Int) (ok : α → Prop) : Prop where
  there : ∀ a r, ok a → f (nums (wr a) ++ r) = some (a, r)
  back : ∀ l a r, (∀ c ∈ l, c < 256) → f l = some (a, r) → l = nums (wr a) ++ r ∧ ok a

theorem num_zag {x : Nat} (h : x < 18446744073709551616) : In64 (zag x) := by
  unfold zag In64
  split <;> omega
theorem pair_num : Pair rdNum (fun n => [n]) In64 where
  there a r h := by
    have := dec_leb 0 (zig a) r (by omega) (zig_lt h) (by omega)
    simp only [nums, List.flatMap_cons, List.flatMap_nil, List.append_nil, num, rdNum, this, zag_zig]
  back l a r hb h := by
    unfold rdNum at h
    cases hd : dec 0 l with
    | none => rw [hd] at h; cases h
    | some x =>
      obtain ⟨x, s⟩ := x
      rw [hd] at h
      simp only [Option.some.injEq, Prod.mk.injEq] at h
      obtain ⟨rfl, rfl⟩ := h
      obtain ⟨h1, h2, -⟩ := leb_dec l 0 x s (by omega) hb hd
      exact ⟨by simp only [nums, List.flatMap_cons, List.flatMap_nil, List.append_nil, num, zig_zag]; exact h1, num_zag h2⟩

theorem in_rest {l : List Nat} {a : List Int} {r : List Nat} (hb : ∀ c ∈ l, c < 256) (h : l = nums a ++ r) : ∀ c ∈ r, c < 256 := fun c hc => hb c (by rw [h]; simp [hc])

theorem pair_two : Pair rdTwo boxN (fun b => In64 b.1 ∧ In64 b.2) where
  there a r h := by
    have e : nums (boxN a) ++ r = nums [a.1] ++ (nums [a.2] ++ r) := by simp [boxN, nums]
    rw [e]
    unfold rdTwo
    rw [pair_num.there a.1 _ h.1]
    simp only
    rw [pair_num.there a.2 _ h.2]
  back l a r hb h := by
    unfold rdTwo at h
    cases h1 : rdNum l with
    | none => rw [h1] at h; cases h
    | some x =>
      obtain ⟨x, s⟩ := x
      rw [h1] at h
      simp only at h
      obtain ⟨e1, o1⟩ := pair_num.back l x s hb h1
      cases h2 : rdNum s with
      | none => rw [h2] at h; cases h
      | some y =>
        obtain ⟨y, t⟩ := y
        rw [h2] at h
        simp only [Option.some.injEq, Prod.mk.injEq] at h
        obtain ⟨rfl, rfl⟩ := h
        obtain ⟨e2, o2⟩ := pair_num.back s y t (in_rest hb e1) h2
        exact ⟨by rw [e1, e2]; simp [boxN, nums], o1, o2⟩

theorem pair_ins : Pair rdIns insN (fun i => In64 i.op ∧ In64 i.a ∧ In64 i.n) where
  there a r h := by
    have e : nums (insN a) ++ r = nums [a.op] ++ (nums [a.a] ++ (nums [a.n] ++ r)) := by simp [insN, nums]
    rw [e]
    unfold rdIns
    rw [pair_num.there a.op _ h.1]
    simp only
    rw [pair_num.there a.a _ h.2.1]
    simp only
    rw [pair_num.there a.n _ h.2.2]
  back l a r hb h := by
    unfold rdIns at h
    cases h1 : rdNum l with
    | none => rw [h1] at h; cases h
    | some x =>
      obtain ⟨x, s⟩ := x
      rw [h1] at h
      simp only at h
      obtain ⟨e1, o1⟩ := pair_num.back l x s hb h1
      cases h2 : rdNum s with
      | none => rw [h2] at h; cases h
      | some y =>
        obtain ⟨y, t⟩ := y
        rw [h2] at h
        simp only at h
        obtain ⟨e2, o2⟩ := pair_num.back s y t (in_rest hb e1) h2
        cases h3 : rdNum t with
        | none => rw [h3] at h; cases h
        | some z =>
          obtain ⟨z, v⟩ := z
          rw [h3] at h
          simp only [Option.some.injEq, Prod.mk.injEq] at h
          obtain ⟨rfl, rfl⟩ := h
          obtain ⟨e3, o3⟩ := pair_num.back t z v (in_rest (in_rest hb e1) e2) h3
          exact ⟨by rw [e1, e2, e3]; simp [insN, nums], o1, o2, o3⟩

theorem pair_many {α : Type} {f : Rd α} {wr : α → List Int} {ok : α → Prop} (p : Pair f wr ok) :
    (∀ (as : List α) (r : List Nat), (∀ a ∈ as, ok a) → rdMany f as.length (nums (as.flatMap wr) ++ r) = some (as, r)) ∧
    (∀ (n : Nat) (l : List Nat) (as : List α) (r : List Nat), (∀ c ∈ l, c < 256) → rdMany f n l = some (as, r) → l = nums (as.flatMap wr) ++ r ∧ as.length = n ∧ ∀ a ∈ as, ok a) := by
  constructor
  · intro as
    induction as with
    | nil => intro r _; simp [rdMany, nums]
    | cons a as ih =>
      intro r h
      simp only [List.flatMap_cons, nums_append, List.append_assoc, List.length_cons, rdMany]
      rw [p.there a _ (h a (by simp))]
      simp only
      rw [ih r (fun b hb => h b (by simp [hb]))]
  · intro n
    induction n with
    | zero => intro l as r _ h; simp only [rdMany, Option.some.injEq, Prod.mk.injEq] at h; obtain ⟨rfl, rfl⟩ := h; simp [nums]
    | succ n ih =>
      intro l as r hb h
      simp only [rdMany] at h
      cases h1 : f l with
      | none => rw [h1] at h; cases h
      | some x =>
        obtain ⟨x, s⟩ := x
        rw [h1] at h
        simp only at h
        obtain ⟨e1, o1⟩ := p.back l x s hb h1
        cases h2 : rdMany f n s with
        | none => rw [h2] at h; cases h
        | some y =>
          obtain ⟨y, t⟩ := y
          rw [h2] at h
          simp only [Option.some.injEq, Prod.mk.injEq] at h
          obtain ⟨rfl, rfl⟩ := h
          obtain ⟨e2, e3, o2⟩ := ih s y t (in_rest hb e1) h2
          refine ⟨by rw [e1, e2]; simp [nums], by simp [e3], fun a ha => ?_⟩
          rcases List.mem_cons.1 ha with rfl | ha
          · exact o1
          · exact o2 a ha

theorem nums_least {α : Type} (wr : α → List Int) (m : Nat) (h : ∀ a, m ≤ (wr a).length) (as : List α) : m * as.length ≤ (nums (as.flatMap wr)).length := by
  have key : ∀ l : List Int, l.length ≤ (nums l).length := by
    intro l
    induction l with
    | nil => simp
    | cons a r ih => rw [nums_cons, List.length_append]; have := num_pos a; simp; omega
  refine Nat.le_trans ?_ (key _)
  induction as with
  | nil => simp
  | cons a r ih => have := h a; simp only [List.flatMap_cons, List.length_append, List.length_cons, Nat.mul_add]; omega

theorem pair_list {α : Type} {f : Rd α} {wr : α → List Int} {ok : α → Prop} (p : Pair f wr ok) (m : Nat) (hm : 0 < m) (h : ∀ a, m ≤ (wr a).length) :
    Pair (rdList m f) (fun as => (as.length : Int) :: as.flatMap wr) (fun as => In64 as.length ∧ ∀ a ∈ as, ok a) where
  there as r ho := by
    have e : nums ((as.length : Int) :: as.flatMap wr) ++ r = nums [(as.length : Int)] ++ (nums (as.flatMap wr) ++ r) := by simp [nums]
    rw [e]
    unfold rdList rdCount
    rw [pair_num.there _ _ ho.1]
    simp only
    have hl := nums_least wr m h as
    have h2 : as.length ≤ (nums (as.flatMap wr) ++ r).length / m := by
      rw [Nat.le_div_iff_mul_le hm, List.length_append, Nat.mul_comm]
      omega
    rw [if_neg (by omega)]
    simp only [Int.toNat_natCast]
    exact (pair_many p).1 as r ho.2
  back l as r hb hh := by
    unfold rdList rdCount at hh
    cases h1 : rdNum l with
    | none => rw [h1] at hh; cases hh
    | some x =>
      obtain ⟨x, s⟩ := x
      rw [h1] at hh
      simp only at hh
      obtain ⟨e1, o1⟩ := pair_num.back l x s hb h1
      split at hh
      · rename_i heq; split at heq
        · cases hh
        · cases heq
      · rename_i n t heq
        split at heq
        · cases heq
        · rename_i hx
          simp only [Option.some.injEq, Prod.mk.injEq] at heq
          obtain ⟨rfl, rfl⟩ := heq
          obtain ⟨e2, e3, o2⟩ := (pair_many p).2 _ s as r (in_rest hb e1) hh
          have e4 : (as.length : Int) = x := by omega
          refine ⟨?_, by rw [e4]; exact o1, o2⟩
          rw [e4, e1, e2]
          simp [nums]

def okUnt (u : Unt) : Prop := In64 u.kind ∧ In64 u.params ∧ (In64 u.locals.length ∧ ∀ n ∈ u.locals, In64 n) ∧ In64 u.result ∧ In64 u.takes ∧ (In64 u.code.length ∧ ∀ i ∈ u.code, In64 i.op ∧ In64 i.a ∧ In64 i.n)
theorem pair_locals : Pair (rdList 1 rdNum) (fun as : List Int => (as.length : Int) :: as) (fun as => In64 as.length ∧ ∀ a ∈ as, In64 a) := by
  have := pair_list pair_num 1 (by decide) (fun _ => by simp)
  have e : (fun as : List Int => (as.length : Int) :: as.flatMap fun n => [n]) = fun as : List Int => (as.length : Int) :: as := by
    funext as
    congr 1
    induction as with
    | nil => rfl
    | cons a r ih => simp [ih]
  rwa [e] at this
theorem pair_code : Pair (rdList 3 rdIns) (fun as : List Ins => (as.length : Int) :: codeN as) (fun as => In64 as.length ∧ ∀ i ∈ as, In64 i.op ∧ In64 i.a ∧ In64 i.n) :=
  pair_list pair_ins 3 (by decide) (fun _ => by simp [insN])

theorem pair_unt : Pair rdUnt untN okUnt where
  there u r h := by
    obtain ⟨h1, h2, h3, h4, h5, h6⟩ := h
    have e : nums (untN u) ++ r = nums (boxN (u.kind, u.params)) ++ (nums ((u.locals.length : Int) :: u.locals) ++ (nums (boxN (u.result, u.takes)) ++ (nums ((u.code.length : Int) :: codeN u.code) ++ r))) := by
      simp [untN, boxN, nums]
    rw [e]
    unfold rdUnt
    rw [pair_two.there (u.kind, u.params) _ ⟨h1, h2⟩]
    simp only
    rw [pair_locals.there _ _ h3]
    simp only
    rw [pair_two.there (u.result, u.takes) _ ⟨h4, h5⟩]
    simp only
    rw [pair_code.there _ _ h6]
  back l u r hb h := by
    unfold rdUnt at h
    cases h1 : rdTwo l with
    | none => rw [h1] at h; cases h
    | some x =>
      obtain ⟨x, s⟩ := x
      rw [h1] at h
      simp only at h
      obtain ⟨e1, o1⟩ := pair_two.back l x s hb h1
      have b1 := in_rest hb e1
      cases h2 : rdList 1 rdNum s with
      | none => rw [h2] at h; cases h
      | some y =>
        obtain ⟨y, t⟩ := y
        rw [h2] at h
        simp only at h
        obtain ⟨e2, o2⟩ := pair_locals.back s y t b1 h2
        have b2 := in_rest b1 e2
        cases h3 : rdTwo t with
        | none => rw [h3] at h; cases h
        | some z =>
          obtain ⟨z, v⟩ := z
          rw [h3] at h
          simp only at h
          obtain ⟨e3, o3⟩ := pair_two.back t z v b2 h3
          have b3 := in_rest b2 e3
          cases h4 : rdList 3 rdIns v with
          | none => rw [h4] at h; cases h
          | some c =>
            obtain ⟨c, q⟩ := c
            rw [h4] at h
            simp only [Option.some.injEq, Prod.mk.injEq] at h
            obtain ⟨rfl, rfl⟩ := h
            obtain ⟨e4, o4⟩ := pair_code.back v c q b3 h4
            refine ⟨?_, o1.1, o1.2, o2, o3.1, o3.2, o4⟩
            rw [e1, e2, e3, e4]
            simp [untN, boxN, nums]

def okMdl (m : Mdl) : Prop := (In64 m.boxes.length ∧ ∀ b ∈ m.boxes, In64 b.1 ∧ In64 b.2) ∧ (In64 m.units.length ∧ ∀ u ∈ m.units, okUnt u)
theorem pair_mdl : Pair rdMdl mdlN okMdl := by
  have p1 := pair_list pair_two 2 (by decide) (fun _ => by simp [boxN])
  have p2 := pair_list pair_unt 6 (by decide) (fun _ => by simp [untN]; omega)
  constructor
  · intro m r h
    have e : nums (mdlN m) ++ r = nums ((m.boxes.length : Int) :: m.boxes.flatMap boxN) ++ (nums ((m.units.length : Int) :: m.units.flatMap untN) ++ r) := by
      simp [mdlN, nums]
    rw [e]
    unfold rdMdl
    rw [p1.there _ _ h.1]
    simp only
    rw [p2.there _ _ h.2]
  · intro l m r hb h
    unfold rdMdl at h
    cases h1 : rdList 2 rdTwo l with
    | none => rw [h1] at h; cases h
    | some x =>
      obtain ⟨x, s⟩ := x
      rw [h1] at h
      simp only at h
      obtain ⟨e1, o1⟩ := p1.back l x s hb h1
      cases h2 : rdList 6 rdUnt s with
      | none => rw [h2] at h; cases h
      | some y =>
        obtain ⟨y, t⟩ := y
        rw [h2] at h
        simp only [Option.some.injEq, Prod.mk.injEq] at h
        obtain ⟨rfl, rfl⟩ := h
        obtain ⟨e2, o2⟩ := p2.back s y t (in_rest hb e1) h2
        exact ⟨by rw [e1, e2]; simp [mdlN, nums], o1, o2⟩

/-- the whole: what Parse makes of bytes -/
def parse (b : List Nat) : Int ⊕ Mdl :=
  if 60000 < b.length then .inl 4
  else if b.length < 2 then .inl 2
  else if crc (b.take (b.length - 2)) ≠ b.getD (b.length - 2) 0 * 256 + b.getD (b.length - 1) 0 then .inl 8
  else match rdMdl (b.take (b.length - 2)) with
    | none => .inl 2
    | some (m, r) => if r = [] then .inr m else .inl 2

theorem parse_bytes {m : Mdl} (h : okMdl m) (hl : (bytes m).length ≤ 60000) : parse (bytes m) = .inr m := by
  have hlen : (bytes m).length = (body m).length + 2 := by simp [bytes]
  have ht : (bytes m).take ((bytes m).length - 2) = body m := by
    rw [hlen]
    simp [bytes]
  have g0 : (bytes m).getD ((bytes m).length - 2) 0 = crc (body m) / 256 := by
    rw [hlen]
    simp [bytes, List.getD_eq_getElem?_getD]
  have g1 : (bytes m).getD ((bytes m).length - 1) 0 = crc (body m) % 256 := by
    rw [hlen, show (body m).length + 2 - 1 = (body m).length + 1 by omega]
    simp only [bytes, List.getD_eq_getElem?_getD]
    rw [List.getElem?_append_right (by omega)]
    simp
  have hr := pair_mdl.there m [] h
  rw [List.append_nil] at hr
  unfold parse
  rw [if_neg (by omega), if_neg (by omega), ht, g0, g1, if_neg (by omega)]
  rw [show body m = nums (mdlN m) from rfl, hr]
  simp

theorem bytes_parse {b : List Nat} {m : Mdl} (hb : ∀ c ∈ b, c < 256) (h : parse b = .inr m) : bytes m = b ∧ okMdl m ∧ b.length ≤ 60000 := by
  unfold parse at h
  split at h
  · cases h
  rename_i h1
  split at h
  · cases h
  rename_i h2
  split at h
  · cases h
  rename_i h3
  have h3 := Classical.not_not.1 h3
  split at h
  · cases h
  rename_i m' r hr
  split at h
  · rename_i hn
    cases h
    subst hn
    obtain ⟨e, o⟩ := pair_mdl.back _ m [] (fun c hc => hb c (List.mem_of_mem_take hc)) hr
    rw [List.append_nil] at e
    refine ⟨?_, o, by omega⟩
    have hx : b.getD (b.length - 2) 0 < 256 := hb _ (by rw [List.getD_eq_getElem?_getD, List.getElem?_eq_getElem (by omega)]; simp)
    have hy : b.getD (b.length - 1) 0 < 256 := hb _ (by rw [List.getD_eq_getElem?_getD, List.getElem?_eq_getElem (by omega)]; simp)
    have hbody : body m = b.take (b.length - 2) := e.symm
    unfold bytes
    rw [hbody, h3]
    have e1 : (b.getD (b.length - 2) 0 * 256 + b.getD (b.length - 1) 0) / 256 = b.getD (b.length - 2) 0 := by omega
    have e2 : (b.getD (b.length - 2) 0 * 256 + b.getD (b.length - 1) 0) % 256 = b.getD (b.length - 1) 0 := by omega
    rw [e1, e2]
    have hd : b.drop (b.length - 2) = [b.getD (b.length - 2) 0, b.getD (b.length - 1) 0] := by
      rw [← List.getElem_cons_drop (h := by omega), show b.length - 2 + 1 = b.length - 1 by omega, ← List.getElem_cons_drop (h := by omega), show b.length - 1 + 1 = b.length by omega, List.drop_length]
      simp only [List.getD_eq_getElem?_getD]
      rw [List.getElem?_eq_getElem (by omega), List.getElem?_eq_getElem (by omega)]
      rfl
    rw [← hd, List.take_append_drop]
  · cases h

end Go.Proofs.Ytninmkkcphnniaa.ImgM
