/- A region that draws its order: what only reads is taken first, if what it reads stays so till the operation e (that waits for it) has come up; then what writes, one by one. Of whatever program. -/
import Derived.Test.YtkhagebjphaboaaM01
import Derived.OrdersHeld
import Derived.RegionTactic
namespace Go.Proofs.Ytkhagebjphaboaa
open Go
set_option linter.unusedVariables false

section
variable {P : Program} {ops : Array Oper} {Q : Exit → Act → World → Prop} {md : Region.Mode} {e : Nat} {T : World → Prop}

/-- whatever order is picked from here on; till e has come up T holds behind every operation -/
def wpAnyT (P : Program) (md : Region.Mode) (ops : Array Oper) (Q : Exit → Act → World → Prop) (e : Nat) (T : World → Prop) : Nat → Array Bool → Act → World → Prop
  | 0, listed, a, w => Region.ready md ops listed = [] ∧ Q .normal a w
  | fuel + 1, listed, a, w =>
    (Region.ready md ops listed = [] → Q .normal a w) ∧
    ∀ i ∈ Region.ready md ops listed, wpOp P ops Q i (fun a' w' => ((listed.setIfInBounds i true).getD e false = true ∨ T w') ∧ wpAnyT P md ops Q e T fuel (listed.setIfInBounds i true) a' w') a w

theorem wpAny_of_T : ∀ (fuel : Nat) (listed : Array Bool) (a : Act) (w : World), wpAnyT P md ops Q e T fuel listed a w → wpAny P md ops Q fuel listed a w
  | 0, _, _, _, h => h
  | fuel + 1, _, _, _, h => ⟨h.1, fun i hi => wpOp_mono (fun a' w' h' => wpAny_of_T fuel _ a' w' h'.2) (h.2 i hi)⟩

/-- e waits for i -/
def waits (md : Region.Mode) (ops : Array Oper) (e i : Nat) : Bool := match ops[e]? with
  | some o => o.after.any fun x => Region.binds md x && x.on == i
  | none => false

theorem getD_set_false {listed : Array Bool} {i j : Nat} (h : i ≠ j) : (listed.setIfInBounds i true).getD j false = listed.getD j false := by
  simp [Array.getD_eq_getD_getElem?, h]

/-- what yields in whatever world -/
theorem wpAnyT_first0 {i : Nat} {oi : Oper} {v : Value} (hi : ops[i]? = some oi) (hsel : ∀ (j : Nat) (o : Oper) cs b, ops[j]? = some o → o.op ≠ .select cs b)
    (hQ : ∀ c a w, Q (.panic c) (a.put oi.dst v) w → Q (.panic c) a w) :
    ∀ (fuel : Nat) (listed : Array Bool) (a : Act) (w : World),
      (∀ j oj, ops[j]? = some oj → j ≠ i → listed.getD j true = false → (∀ x ∈ oj.after, Region.binds md x = true → x.on ≠ i) → oi.apart ops oj = true) →
      i ∈ Region.ready md ops listed → i ≠ e → YieldsIf P ops (fun _ => True) oi v a → (listed.getD e false = true ∨ T w) →
      wpAnyT P md ops Q e T fuel (listed.setIfInBounds i true) (a.put oi.dst v) w → wpAnyT P md ops Q e T (fuel + 1) listed a w := by
  intro fuel
  induction fuel with
  | zero =>
    intro listed a w _ hr hie hy hT H
    refine ⟨fun h => (by rw [h] at hr; cases hr), fun j hj => ?_⟩
    by_cases hji : j = i
    · subst hji; exact hy.wpOp hi trivial ⟨by rw [getD_set_false hie]; exact hT, H⟩
    · have := ready_mono hj hji
      rw [H.1] at this
      cases this
  | succ fuel ih =>
    intro listed a w hfree hr hie hy hT H
    refine ⟨fun h => (by rw [h] at hr; cases hr), fun j hj => ?_⟩
    by_cases hji : j = i
    · subst hji; exact hy.wpOp hi trivial ⟨by rw [getD_set_false hie]; exact hT, H⟩
    · have h1 := H.2 j (ready_mono hj hji)
      obtain ⟨hjun, oj, hoj, hall⟩ := mem_ready.1 hj
      have hnot : ∀ x ∈ oj.after, Region.binds md x = true → x.on ≠ i := fun x hx hb heq => by
        have h1 := hall x hx hb
        have h0 := (mem_ready.1 hr).1
        rw [heq] at h1
        rcases Nat.lt_or_ge i listed.size with h' | h'
        · simp [h'] at h0 h1; rw [h0] at h1; cases h1
        · simp [Array.getElem?_eq_none h'] at h1
      have h2 := wpOp_putIf hoj (hfree j oj hoj hji hjun hnot) (fun cs b => hsel i oi cs b hi) (fun cs b => hsel j oj cs b hoj) hQ hy h1
      have hfree' : ∀ k ok, ops[k]? = some ok → k ≠ i → (listed.setIfInBounds j true).getD k true = false →
          (∀ x ∈ ok.after, Region.binds md x = true → x.on ≠ i) → oi.apart ops ok = true := fun k ok hk hki hun hno => by
        refine hfree k ok hk hki ?_ hno
        by_cases hjk : j = k
        · subst hjk; exact hjun
        · rw [getD_set_ne true hjk] at hun; exact hun
      refine wpOp_mono (fun a' w' h3 => ?_) h2
      have hT' : (listed.setIfInBounds j true).getD e false = true ∨ T w' := by
        rcases h3.2.1 with h4 | h4
        · rw [Array.setIfInBounds_comm _ _ (Ne.symm hji), getD_set_false hie] at h4; exact .inl h4
        · exact .inr h4
      refine ⟨hT', ih (listed.setIfInBounds j true) a' w' hfree' (ready_mono hr (Ne.symm hji)) hie h3.1 hT' ?_⟩
      rw [Array.setIfInBounds_comm _ _ hji]
      exact h3.2.2

/-- a load, where nobody ever writes what it reads -/
theorem wpAnyT_firstN {i : Nat} {oi : Oper} {v : Value} (hi : ops[i]? = some oi) (hsel : ∀ (j : Nat) (o : Oper) cs b, ops[j]? = some o → o.op ≠ .select cs b)
    (hQ : ∀ c a w, Q (.panic c) (a.put oi.dst v) w → Q (.panic c) a w) (he : ops.size ≤ e) :
    ∀ (fuel : Nat) (listed : Array Bool) (a : Act) (w : World), listed.size = ops.size →
      (∀ j oj, ops[j]? = some oj → j ≠ i → listed.getD j true = false → (∀ x ∈ oj.after, Region.binds md x = true → x.on ≠ i) → oi.apart ops oj = true) →
      i ∈ Region.ready md ops listed → YieldsIf P ops T oi v a → T w →
      wpAnyT P md ops Q e T fuel (listed.setIfInBounds i true) (a.put oi.dst v) w → wpAnyT P md ops Q e T (fuel + 1) listed a w := by
  intro fuel
  have never : ∀ (l : Array Bool), l.size = ops.size → l.getD e false = false := fun l hl => by simp [Array.getD_eq_getD_getElem?, Array.getElem?_eq_none (show l.size ≤ e by omega)]
  induction fuel with
  | zero =>
    intro listed a w hsz _ hr hy hT H
    refine ⟨fun h => (by rw [h] at hr; cases hr), fun j hj => ?_⟩
    by_cases hji : j = i
    · subst hji; exact hy.wpOp hi hT ⟨.inr hT, H⟩
    · have := ready_mono hj hji
      rw [H.1] at this
      cases this
  | succ fuel ih =>
    intro listed a w hsz hfree hr hy hT H
    refine ⟨fun h => (by rw [h] at hr; cases hr), fun j hj => ?_⟩
    by_cases hji : j = i
    · subst hji; exact hy.wpOp hi hT ⟨.inr hT, H⟩
    · have h1 := H.2 j (ready_mono hj hji)
      obtain ⟨hjun, oj, hoj, hall⟩ := mem_ready.1 hj
      have hnot : ∀ x ∈ oj.after, Region.binds md x = true → x.on ≠ i := fun x hx hb heq => by
        have h1 := hall x hx hb
        have h0 := (mem_ready.1 hr).1
        rw [heq] at h1
        rcases Nat.lt_or_ge i listed.size with h' | h'
        · simp [h'] at h0 h1; rw [h0] at h1; cases h1
        · simp [Array.getElem?_eq_none h'] at h1
      have h2 := wpOp_putIf hoj (hfree j oj hoj hji hjun hnot) (fun cs b => hsel i oi cs b hi) (fun cs b => hsel j oj cs b hoj) hQ hy h1
      have hfree' : ∀ k ok, ops[k]? = some ok → k ≠ i → (listed.setIfInBounds j true).getD k true = false →
          (∀ x ∈ ok.after, Region.binds md x = true → x.on ≠ i) → oi.apart ops ok = true := fun k ok hk hki hun hno => by
        refine hfree k ok hk hki ?_ hno
        by_cases hjk : j = k
        · subst hjk; exact hjun
        · rw [getD_set_ne true hjk] at hun; exact hun
      refine wpOp_mono (fun a' w' h3 => ?_) h2
      have hT' : T w' := by
        rcases h3.2.1 with h4 | h4
        · rw [never _ (by simp [hsz])] at h4; cases h4
        · exact h4
      refine ⟨.inr hT', ih (listed.setIfInBounds j true) a' w' (by simp [hsz]) hfree' (ready_mono hr (Ne.symm hji)) h3.1 hT' ?_⟩
      rw [Array.setIfInBounds_comm _ _ hji]
      exact h3.2.2

/-- e waits for i, or for what waits for i .. -/
def waitsT (md : Region.Mode) (ops : Array Oper) (i : Nat) : Nat → Nat → Bool
  | 0, _ => false
  | n + 1, e => match ops[e]? with
    | some o => o.after.any fun x => Region.binds md x && (x.on == i || waitsT md ops i n x.on)
    | none => false
def closedB (md : Region.Mode) (ops : Array Oper) (listed : Array Bool) : Bool := (List.range ops.size).all fun k => !(listed.getD k false) || (match ops[k]? with
  | some o => o.after.all fun x => !Region.binds md x || listed.getD x.on false
  | none => true)
def Closed (md : Region.Mode) (ops : Array Oper) (listed : Array Bool) : Prop := ∀ k o, ops[k]? = some o → listed.getD k false = true → ∀ x ∈ o.after, Region.binds md x = true → listed.getD x.on false = true
theorem closedB_spec {listed : Array Bool} (h : closedB md ops listed = true) : Closed md ops listed := by
  intro k o ho hl x hx hb
  have hk : k < ops.size := (Array.getElem?_eq_some_iff.1 ho).1
  have := (List.all_eq_true.1 h) k (List.mem_range.2 hk)
  rw [hl, ho] at this
  simp only [Bool.not_true, Bool.false_or] at this
  have h2 := (Array.all_eq_true'.1 this) x hx
  rw [hb] at h2
  simpa using h2
theorem Closed.upon {listed : Array Bool} (hc : Closed md ops listed) {i : Nat} : ∀ (n e : Nat) (o : Oper), ops[e]? = some o → (∀ x ∈ o.after, Region.binds md x = true → listed.getD x.on false = true) → waitsT md ops i n e = true → listed.getD i false = true
  | 0, e, o, ho, hall, hw => by cases hw
  | n + 1, e, o, ho, hall, hw => by
    simp only [waitsT, ho, Array.any_eq_true'] at hw
    obtain ⟨x, hx, hb⟩ := hw
    simp only [Bool.and_eq_true, Bool.or_eq_true, beq_iff_eq] at hb
    have h1 := hall x hx hb.1
    rcases hb.2 with h2 | h2
    · rw [← h2]; exact h1
    · cases n with
      | zero => cases h2
      | succ n =>
        have h3 := h2
        simp only [waitsT] at h3
        cases ho' : ops[x.on]? with
        | none => rw [ho'] at h3; cases h3
        | some o' => exact hc.upon (n + 1) x.on o' ho' (hc x.on o' ho' h1) h2
theorem Closed.set {listed : Array Bool} (hc : Closed md ops listed) {j : Nat} (hj : j ∈ Region.ready md ops listed) : Closed md ops (listed.setIfInBounds j true) := by
  intro k o ho hl x hx hb
  have hmono : ∀ y, listed.getD y false = true → (listed.setIfInBounds j true).getD y false = true := by
    intro y hy
    by_cases hyj : j = y
    · subst hyj
      have hlt : j < listed.size := by
        rcases Nat.lt_or_ge j listed.size with h | h
        · exact h
        · simp [Array.getD_eq_getD_getElem?, Array.getElem?_eq_none h] at hy
      simp [Array.getD_eq_getD_getElem?, hlt]
    · rw [getD_set_false hyj]; exact hy
  by_cases hkj : j = k
  · subst hkj
    obtain ⟨-, o', ho', hall⟩ := mem_ready.1 hj
    rw [ho] at ho'; cases ho'
    exact hmono _ (hall x hx hb)
  · rw [getD_set_false hkj] at hl
    exact hmono _ (hc k o ho hl x hx hb)
theorem ready_un {listed : Array Bool} {i : Nat} (h : i ∈ Region.ready md ops listed) : listed.getD i false = false := by
  have h0 := (mem_ready.1 h).1
  rcases Nat.lt_or_ge i listed.size with h' | h'
  · simpa [Array.getD_eq_getD_getElem?, h'] using h0
  · simp [Array.getD_eq_getD_getElem?, Array.getElem?_eq_none h']
/-- what reads, where e waits for it, perhaps through others -/
theorem wpAnyT_firstR {i : Nat} {oi : Oper} {v : Value} (hi : ops[i]? = some oi) (hsel : ∀ (j : Nat) (o : Oper) cs b, ops[j]? = some o → o.op ≠ .select cs b)
    (hQ : ∀ c a w, Q (.panic c) (a.put oi.dst v) w → Q (.panic c) a w) {n : Nat} (hw : waitsT md ops i n e = true) :
    ∀ (fuel : Nat) (listed : Array Bool) (a : Act) (w : World), Closed md ops listed →
      (∀ j oj, ops[j]? = some oj → j ≠ i → listed.getD j true = false → (∀ x ∈ oj.after, Region.binds md x = true → x.on ≠ i) → oi.apart ops oj = true) →
      i ∈ Region.ready md ops listed → YieldsIf P ops T oi v a → T w →
      wpAnyT P md ops Q e T fuel (listed.setIfInBounds i true) (a.put oi.dst v) w → wpAnyT P md ops Q e T (fuel + 1) listed a w := by
  intro fuel
  induction fuel with
  | zero =>
    intro listed a w _ _ hr hy hT H
    refine ⟨fun h => (by rw [h] at hr; cases hr), fun j hj => ?_⟩
    by_cases hji : j = i
    · subst hji; exact hy.wpOp hi hT ⟨.inr hT, H⟩
    · have := ready_mono hj hji
      rw [H.1] at this
      cases this
  | succ fuel ih =>
    intro listed a w hcl hfree hr hy hT H
    have hun := ready_un hr
    have hle : listed.getD e false = false := by
      cases hle : listed.getD e false with
      | false => rfl
      | true =>
        cases n with
        | zero => cases hw
        | succ n =>
          have h3 := hw
          simp only [waitsT] at h3
          cases ho' : ops[e]? with
          | none => rw [ho'] at h3; cases h3
          | some o' =>
            have := hcl.upon (n + 1) e o' ho' (hcl e o' ho' hle) hw
            rw [hun] at this; cases this
    refine ⟨fun h => (by rw [h] at hr; cases hr), fun j hj => ?_⟩
    by_cases hji : j = i
    · subst hji; exact hy.wpOp hi hT ⟨.inr hT, H⟩
    · have h1 := H.2 j (ready_mono hj hji)
      obtain ⟨hjun, oj, hoj, hall⟩ := mem_ready.1 hj
      have hnot : ∀ x ∈ oj.after, Region.binds md x = true → x.on ≠ i := fun x hx hb heq => by
        have h1 := hall x hx hb
        rw [heq, hun] at h1
        cases h1
      have hje : j ≠ e := fun he => by
        subst he
        have := hcl.upon n j oj hoj hall hw
        rw [hun] at this; cases this
      have hie : i ≠ e := fun he => by
        subst he
        obtain ⟨h0, o', ho', hall'⟩ := mem_ready.1 hr
        have := hcl.upon n i o' ho' hall' hw
        rw [hun] at this; cases this
      have h2 := wpOp_putIf hoj (hfree j oj hoj hji hjun hnot) (fun cs b => hsel i oi cs b hi) (fun cs b => hsel j oj cs b hoj) hQ hy h1
      have hfree' : ∀ k ok, ops[k]? = some ok → k ≠ i → (listed.setIfInBounds j true).getD k true = false →
          (∀ x ∈ ok.after, Region.binds md x = true → x.on ≠ i) → oi.apart ops ok = true := fun k ok hk hki hun hno => by
        refine hfree k ok hk hki ?_ hno
        by_cases hjk : j = k
        · subst hjk; exact hjun
        · rw [getD_set_ne true hjk] at hun; exact hun
      refine wpOp_mono (fun a' w' h3 => ?_) h2
      have hT' : T w' := by
        rcases h3.2.1 with h4 | h4
        · rw [getD_set_false hje, getD_set_false hie, hle] at h4; cases h4
        · exact h4
      refine ⟨.inr hT', ih (listed.setIfInBounds j true) a' w' (hcl.set hj) hfree' (ready_mono hr (Ne.symm hji)) h3.1 hT' ?_⟩
      rw [Array.setIfInBounds_comm _ _ hji]
      exact h3.2.2

/-- a copy, an address, arithmetic, taken first -/
theorem take0 {i : Nat} {oi : Oper} {v : Value} {fuel : Nat} {listed : Array Bool} {a : Act} {w : World} (hi : ops[i]? = some oi)
    (hs : Region.noSelect ops = true) (hf : Region.free md ops listed i = true) (hr : (Region.ready md ops listed).contains i = true) (hie : i ≠ e)
    (hQ : ∀ c a w, Q (.panic c) (a.put oi.dst v) w → Q (.panic c) a w) (hy : YieldsIf P ops (fun _ => True) oi v a) (hT : T w)
    (h : wpAnyT P md ops Q e T fuel (listed.setIfInBounds i true) (a.put oi.dst v) w) : wpAnyT P md ops Q e T (fuel + 1) listed a w :=
  wpAnyT_first0 hi (Region.noSelect_spec hs) hQ fuel listed a w (Region.free_spec hi hf) (by simpa using hr) hie hy (.inr hT) h
/-- the one that may come up -/
theorem oneT {i : Nat} {o : Oper} {fuel : Nat} {listed : Array Bool} {a : Act} {w : World} (hr : Region.ready md ops listed = [i]) (ho : ops[i]? = some o)
    (h : ∀ K' : Act → World → Prop, (∀ a' w', ((listed.setIfInBounds i true).getD e false = true ∨ T w') → wpAnyT P md ops Q e T fuel (listed.setIfInBounds i true) a' w' → K' a' w') →
      if Region.wanted o (yielded ops a.tmps) = true then Oper.wp P o a w K' Q else K' (a.put o.dst undef) w) : wpAnyT P md ops Q e T (fuel + 1) listed a w := by
  refine ⟨fun h0 => (by rw [h0] at hr; cases hr), fun j hj => ?_⟩
  rw [hr] at hj
  obtain rfl : j = i := by simpa using hj
  exact wpOp_step ho fun K' hK' => h K' fun a' w' h1 h2 => hK' a' w' ⟨h1, h2⟩
theorem doneT {listed : Array Bool} {a : Act} {w : World} (hr : Region.ready md ops listed = []) (h : Q .normal a w) : ∀ fuel, wpAnyT P md ops Q e T fuel listed a w
  | 0 => ⟨hr, h⟩
  | _ + 1 => ⟨fun _ => h, by rw [hr]; simp⟩
theorem regionT (e : Nat) (T : World → Prop) {id : Nat} {a : Act} {w : World} (hm : P.follows .mixedOrders = true)
    (h : wpAnyT P .any ops Q e T ops.size (Array.replicate ops.size false) a w.drew) : (Code.region id ops true).wp P Q a w :=
  wp_region_any hm (wpAny_of_T _ _ _ _ h)
end
end Go.Proofs.Ytkhagebjphaboaa

/- A walk over states that are said by lists: what lies in the slots ('Env'), what lies in memory ('Mem'). The rules for code. Of whatever program. -/
namespace Go.Proofs.Ytkhagebjphaboaa
open Go
set_option linter.unusedVariables false
set_option linter.unusedSimpArgs false

abbrev Env := List (Nat × Value)
def look {α : Type} : List (Nat × α) → Nat → Option α
  | [], _ => none
  | (k, v) :: r, d => bif Nat.beq k d then some v else look r d

theorem look_cons {α : Type} (k d : Nat) (v : α) (r : List (Nat × α)) : look ((k, v) :: r) d = if k = d then some v else look r d := by
  have e : look ((k, v) :: r) d = bif Nat.beq k d then some v else look r d := rfl
  rw [e]
  by_cases h : k = d
  · subst h; simp
  · rw [if_neg h]
    have : Nat.beq k d = false := by
      cases hb : Nat.beq k d with
      | false => rfl
      | true => exact absurd (Nat.eq_of_beq_eq_true hb) h
    rw [this]; rfl

/-- the slots of an act, as far as they are known; nothing is deferred -/
structure Sat (N : Nat) (a : Act) (E : Env) : Prop where
  size : a.tmps.size = N
  defs : a.defers = []
  slot : ∀ d v, look E d = some v → a.tmps[d]? = some v

def ev (E : Env) : Operand → Option Value
  | .tmp t => look E t
  | .const v => some v
  | .global g => some (.pointer (some ⟨g, 0, none⟩))
  | .func f => some (.func (.func f) #[] #[])

theorem Sat.ev {N : Nat} {a : Act} {E : Env} (h : Sat N a E) {x : Operand} {v : Value} (he : ev E x = some v) : a.eval x = v := by
  cases x with
  | tmp t => simp only [Proofs.Ytkhagebjphaboaa.ev] at he; simp [Act.eval, h.slot t v he]
  | const v' => simpa [Proofs.Ytkhagebjphaboaa.ev, Act.eval] using he
  | global g => simpa [Proofs.Ytkhagebjphaboaa.ev, Act.eval] using he
  | func f => simpa [Proofs.Ytkhagebjphaboaa.ev, Act.eval] using he

/-- what is put in a slot -/
def upd : Option Tmp → Value → Env → Env
  | none, _, E => E
  | some d, v, E => (d, v) :: E
def fitsB (N : Nat) : Option Tmp → Bool
  | none => true
  | some d => Nat.blt d N

theorem Sat.put {N : Nat} {a : Act} {E : Env} (h : Sat N a E) {dst : Option Tmp} (v : Value) (hd : fitsB N dst = true) : Sat N (a.put dst v) (upd dst v E) := by
  cases dst with
  | none => exact h
  | some d =>
    have hlt : d < N := Nat.le_of_ble_eq_true hd
    refine ⟨by simp [Act.put, h.size], h.defs, fun k u hu => ?_⟩
    simp only [upd, look_cons] at hu
    by_cases hk : d = k
    · subst hk
      rw [if_pos rfl] at hu
      cases hu
      simp [Act.put, h.size, hlt]
    · rw [if_neg hk] at hu
      simp [Act.put, hk, h.slot k u hu]

/-- every slot of E' is as E says -/
def Sub : Env → Env → Prop
  | [], _ => True
  | (k, v) :: r, E => look E k = some v ∧ Sub r E
theorem Sub.looks {E' E : Env} (h : Sub E' E) : ∀ d v, look E' d = some v → look E d = some v := by
  induction E' with
  | nil => intro d v h; cases h
  | cons p r ih =>
    obtain ⟨k, u⟩ := p
    intro d v hd
    rw [look_cons] at hd
    by_cases hk : k = d
    · subst hk; rw [if_pos rfl] at hd; cases hd; exact h.1
    · rw [if_neg hk] at hd; exact ih h.2 d v hd
theorem Sub.nil {E : Env} : Sub [] E := trivial
theorem Sub.cons {E r : Env} {k : Nat} {v : Value} (h : look E k = some v) (t : Sub r E) : Sub ((k, v) :: r) E := ⟨h, t⟩
theorem Sub.cons' {E r : Env} {k : Nat} {u v : Value} (h : look E k = some u) (e : u = v) (t : Sub r E) : Sub ((k, v) :: r) E := ⟨e ▸ h, t⟩
theorem Sat.sub {N : Nat} {a : Act} {E E' : Env} (h : Sat N a E) (s : Sub E' E) : Sat N a E' := ⟨h.size, h.defs, fun d v hd => h.slot d v (s.looks d v hd)⟩

theorem Sat.sub' {N : Nat} {a : Act} {E : Env} (h : Sat N a E) {d : Nat} {v : Value} (hl : look E d = some v) : Sat N a ((d, v) :: E) := ⟨h.size, h.defs, fun k u hu => by
  rw [look_cons] at hu
  by_cases hk : d = k
  · subst hk; rw [if_pos rfl] at hu; cases hu; exact h.slot d v hl
  · rw [if_neg hk] at hu; exact h.slot k u hu⟩
/-- E without the slots from T on -/
inductive Thin (T : Nat) : Env → Env → Prop
  | nil : Thin T [] []
  | keep {k : Nat} {v : Value} {E E' : Env} : Nat.blt k T = true → Thin T E E' → Thin T ((k, v) :: E) ((k, v) :: E')
  | drop {k : Nat} {v : Value} {E E' : Env} : Nat.blt k T = false → Thin T E E' → Thin T ((k, v) :: E) E'
theorem Thin.look {T : Nat} {E E' : Env} (h : Thin T E E') : ∀ d v, look E' d = some v → look E d = some v ∧ d < T := by
  induction h with
  | nil => intro d v h; cases h
  | @keep k v E E' hk _ ih =>
    intro d u hu
    rw [look_cons] at hu ⊢
    by_cases h : k = d
    · subst h; rw [if_pos rfl] at hu ⊢; exact ⟨hu, Nat.le_of_ble_eq_true hk⟩
    · rw [if_neg h] at hu ⊢; exact ih d u hu
  | @drop k v E E' hk _ ih =>
    intro d u hu
    have := ih d u hu
    have hne : k ≠ d := by
      intro h; subst h
      have h1 : ¬ k < T := by
        have : Nat.ble (k + 1) T = false := hk
        intro h2
        rw [Nat.ble_eq_true_of_le h2] at this
        cases this
      exact h1 this.2
    rw [look_cons, if_neg hne]
    exact this
section
variable (P : Program) (ops : Array Oper) (Q : Exit → Act → World → Prop) (N : Nat)
def Run (l : List Oper) (E : Env) (L : List Chunk) : Prop := ∀ a w, Sat N a E → Mem w L → wpList P ops Q l a w
def Cod (c : Code) (E : Env) (L : List Chunk) : Prop := ∀ a w, Sat N a E → Mem w L → c.wp P Q a w
def End (e : Exit) (E : Env) (L : List Chunk) : Prop := ∀ a w, Sat N a E → Mem w L → Q e a w
/-- one operation, whatever follows, if what follows is good from one of the states C -/
def OpT (o : Oper) (E : Env) (L : List Chunk) (C : Env → List Chunk → Prop) : Prop :=
  ∀ K : Act → World → Prop, (∀ E' L', C E' L' → ∀ a w, Sat N a E' → Mem w L' → K a w) → ∀ a w, Sat N a E → Mem w L → o.wp P a w K Q
/-- an operation that only yields a value -/
def Still (o : Oper) (E : Env) (L : List Chunk) (v : Value) : Prop := ∀ a w, Sat N a E → Mem w L → (execOp a.eval o).run P w = .ok (.value v) w
end

section
variable {P : Program} {ops : Array Oper} {Q : Exit → Act → World → Prop} {N : Nat} {E : Env} {L : List Chunk}

theorem Cod.sub {c : Code} (E' : Env) (s : Sub E' E) (h : Cod P Q N c E' L) : Cod P Q N c E L := fun a w hs hm => h a w (hs.sub s) hm
theorem Cod.mem {c : Code} {F : List Chunk} (cs : List Chunk) (t : Takes cs L F) (h : Cod P Q N c E (cs ++ F)) : Cod P Q N c E L := fun a w hs hm => h a w hs (hm.takes t)
theorem Cod.imp {c : Code} {L' : List Chunk} (t : ∀ w, Mem w L → Mem w L') (h : Cod P Q N c E L') : Cod P Q N c E L := fun a w hs hm => h a w hs (t w hm)
theorem Run.imp {l : List Oper} {L' : List Chunk} (t : ∀ w, Mem w L → Mem w L') (h : Run P ops Q N l E L') : Run P ops Q N l E L := fun a w hs hm => h a w hs (t w hm)
/-- a fact that memory tells -/
theorem Cod.fact {c : Code} (φ : Prop) (t : ∀ w, Mem w L → φ) (h : φ → Cod P Q N c E L) : Cod P Q N c E L := fun a w hs hm => h (t w hm) a w hs hm

theorem Cod.seq {x y : Code} (h : ∀ K : Act → World → Prop, (∀ E' L', Cod P Q N y E' L' → ∀ a w, Sat N a E' → Mem w L' → K a w) → Cod P (Exit.then K Q) N x E L) : Cod P Q N (.seq x y) E L :=
  fun a w hs hm => wp_seq (h _ (fun E' L' hc a w hs hm => hc a w hs hm) a w hs hm)
theorem End.seq {K : Act → World → Prop} {y : Code} (hK : ∀ E' L', Cod P Q N y E' L' → ∀ a w, Sat N a E' → Mem w L' → K a w) (h : Cod P Q N y E L) : End (Exit.then K Q) N .normal E L := fun a w hs hm => hK E L h a w hs hm
theorem End.then_exit {K : Act → World → Prop} {id : Nat} (h : End Q N (.exit id) E L) : End (Exit.then K Q) N (.exit id) E L := h
theorem End.then_ret {K : Act → World → Prop} (h : End Q N .ret E L) : End (Exit.then K Q) N .ret E L := h
theorem End.in_normal {id : Nat} (h : End Q N .normal E L) : End (Exit.inBlock id Q) N .normal E L := h
theorem End.in_ret {id : Nat} (h : End Q N .ret E L) : End (Exit.inBlock id Q) N .ret E L := h
theorem End.in_same {id : Nat} (h : End Q N .normal E L) : End (Exit.inBlock id Q) N (.exit id) E L := fun a w hs hm => by
  show (if id = id then Q .normal a w else Q (.exit id) a w)
  rw [if_pos rfl]; exact h a w hs hm
theorem End.in_other {id id' : Nat} (hn : Nat.beq id' id = false) (h : End Q N (.exit id') E L) : End (Exit.inBlock id Q) N (.exit id') E L := fun a w hs hm => by
  show (if id' = id then Q .normal a w else Q (.exit id') a w)
  rw [if_neg (fun he => by subst he; simp at hn)]; exact h a w hs hm

theorem Cod.skip (h : End Q N .normal E L) : Cod P Q N .skip E L := fun a w hs hm => wp_skip (h a w hs hm)
theorem Cod.label {l : Nat} (h : End Q N .normal E L) : Cod P Q N (.label l) E L := fun a w hs hm => wp_label (h a w hs hm)
theorem Cod.exit {id : Nat} (h : End Q N (.exit id) E L) : Cod P Q N (.exit id) E L := fun a w hs hm => wp_exit (h a w hs hm)
theorem Cod.ret (h : End Q N .ret E L) : Cod P Q N .ret E L := fun a w hs hm => wp_ret (h a w hs hm)
theorem Cod.block {id : Nat} {c : Code} (h : Cod P (Exit.inBlock id Q) N c E L) : Cod P Q N (.block id c) E L := fun a w hs hm => wp_block (h a w hs hm)
theorem Cod.cond {c : Operand} {x y : Code} (t : Bool) (hc : ev E c = some (.bool t)) (h1 : t = true → Cod P Q N x E L) (h2 : t = false → Cod P Q N y E L) : Cod P Q N (.cond c x y) E L :=
  fun a w hs hm => wp_cond_split (hs.ev hc) (fun h => h1 h a w hs hm) (fun h => h2 h a w hs hm)
theorem Cod.cond_true {c : Operand} {x y : Code} {t : Bool} (hc : ev E c = some (.bool t)) (ht : t = true) (h1 : Cod P Q N x E L) : Cod P Q N (.cond c x y) E L :=
  fun a w hs hm => wp_cond (hs.ev hc) (by rw [ht]; exact h1 a w hs hm)
theorem Cod.cond_false {c : Operand} {x y : Code} {t : Bool} (hc : ev E c = some (.bool t)) (ht : t = false) (h1 : Cod P Q N y E L) : Cod P Q N (.cond c x y) E L :=
  fun a w hs hm => wp_cond (hs.ev hc) (by rw [ht]; exact h1 a w hs hm)
theorem Cod.region {id : Nat} {l : List Oper} (h : Run P l.toArray Q N l E L) : Cod P Q N (.region id l.toArray false) E L := fun a w hs hm => wp_region_lit (h a w hs hm)

theorem Run.nil (h : End Q N .normal E L) : Run P ops Q N [] E L := fun a w hs hm => wpList_nil (h a w hs hm)
theorem Run.op {o : Oper} {l : List Oper} (hg : o.guard = none) (h : OpT P Q N o E L (fun E' L' => Run P ops Q N l E' L')) : Run P ops Q N (o :: l) E L :=
  fun a w hs hm => wpList_plain hg fun K hK => h K (fun E' L' hr a w hs hm => hK a w (hr a w hs hm)) a w hs hm

/-- a guard: what its operation has yielded, if it has yielded a truth -/
def gd (ops : Array Oper) (E : Env) (j : Nat) : Option Value := match ops[j]? with
  | some o => match o.dst with
    | some d => look E d
    | none => none
  | none => none
theorem yielded_gd {a : Act} {j : Nat} {v : Value} (hs : Sat N a E) (h : gd ops E j = some v) : yielded ops a.tmps j = (match v with | .bool b => some b | _ => none) := by
  unfold gd at h
  unfold yielded
  cases ho : ops[j]? with
  | none => rw [ho] at h; cases h
  | some o =>
    rw [ho] at h
    simp only at h
    cases hd : o.dst with
    | none => rw [hd] at h; cases h
    | some d =>
      rw [hd] at h
      simp only at h
      have := hs.slot d v h
      simp [hd, this]
      cases v <;> rfl
theorem wanted_of {a : Act} {o : Oper} {j : Nat} {t want : Bool} (hs : Sat N a E) (hg : o.guard = some (j, want)) (h : gd ops E j = some (.bool t)) : Region.wanted o (yielded ops a.tmps) = (t == want) := by
  unfold Region.wanted
  rw [hg]
  simp only [yielded_gd hs h]
  cases t <;> cases want <;> rfl
theorem Run.guard {o : Oper} {l : List Oper} {j : Nat} {want : Bool} (t : Bool) (hg : o.guard = some (j, want)) (h : gd ops E j = some (.bool t)) (hd : fitsB N o.dst = true)
    (h1 : t = want → OpT P Q N o E L (fun E' L' => Run P ops Q N l E' L')) (h2 : t = !want → Run P ops Q N l (upd o.dst undef E) L) : Run P ops Q N (o :: l) E L := by
  intro a w hs hm
  refine wpList_step fun K hK => ?_
  rw [wanted_of hs hg h]
  by_cases ht : t = want
  · subst ht
    simp only [beq_self_eq_true, if_true]
    exact h1 rfl K (fun E' L' hr a w hs hm => hK a w (hr a w hs hm)) a w hs hm
  · have hf : (t == want) = false := by simpa using ht
    rw [hf]
    simp only [Bool.false_eq_true, if_false]
    exact hK _ _ (h2 (by cases t <;> cases want <;> simp_all) _ _ (hs.put undef hd) hm)
/-- guarded by what has not been yielded: passed over -/
theorem Run.guard_undef {o : Oper} {l : List Oper} {j : Nat} {want : Bool} (hg : o.guard = some (j, want)) (h : gd ops E j = some undef) (hd : fitsB N o.dst = true) (h2 : Run P ops Q N l (upd o.dst undef E) L) : Run P ops Q N (o :: l) E L := by
  intro a w hs hm
  refine wpList_step fun K hK => ?_
  have : Region.wanted o (yielded ops a.tmps) = false := by
    unfold Region.wanted
    rw [hg]
    simp only [yielded_gd hs h, undef]
    rfl
  rw [this]
  simp only [Bool.false_eq_true, if_false]
  exact hK _ _ (h2 _ _ (hs.put undef hd) hm)

theorem OpT.val {d : Tmp} {op : Op} {ty : TypeId} {pos : String} {aft : Array Edge} {g : Option (Nat × Bool)} {v : Value} {C : Env → List Chunk → Prop} (h : Still P N ⟨some d, op, ty, pos, aft, g⟩ E L v) (hd : Nat.blt d N = true) (k : C ((d, v) :: E) L) : OpT P Q N ⟨some d, op, ty, pos, aft, g⟩ E L C := by
  intro K hK a w hs hm
  unfold Oper.wp
  rw [h a w hs hm]
  exact hK _ _ k _ _ (hs.put (dst := some d) v hd) hm

/-- A LOOP: 'inv s', 'mem s' hold at each round's head, for an s with 'ok s'; F stays. -/
theorem Cod.loop {σ : Type} {c : Code} {F : List Chunk} (ok : σ → Prop) (inv : σ → Env) (mem : σ → List Chunk) (μ : σ → Nat) (s0 : σ) (h0 : ok s0) (hE : Sub (inv s0) E) (hL : Takes (mem s0) L F)
    (round : ∀ s, ok s → ∀ K : Act → World → Prop, (∀ s', ok s' → μ s' < μ s → ∀ a w, Sat N a (inv s') → Mem w (mem s' ++ F) → K a w) → Cod P (Exit.then K Q) N c (inv s) (mem s ++ F)) : Cod P Q N (.loop c) E L := by
  intro a w hs hm
  have hch : ∀ (a : Act) (w : World), (∃ s, ok s ∧ Sat N a (inv s) ∧ Mem w (mem s ++ F)) → ∃ n, ∃ s, ok s ∧ Sat N a (inv s) ∧ Mem w (mem s ++ F) ∧ μ s = n := fun a w ⟨s, h1, h2, h3⟩ => ⟨_, s, h1, h2, h3, rfl⟩
  classical
  let G : Act → World → Nat → Prop := fun a w n => ∃ s, ok s ∧ Sat N a (inv s) ∧ Mem w (mem s ++ F) ∧ μ s ≤ n
  have hex : ∀ (a : Act) (w : World), (∃ n, G a w n) → ∃ m, G a w m ∧ ∀ n, G a w n → m ≤ n := by
    intro a w h
    obtain ⟨n, hn⟩ := h
    induction n using Nat.strongRecOn with
    | _ n ih =>
      by_cases hl : ∃ k, k < n ∧ G a w k
      · obtain ⟨k, hk, hg⟩ := hl; exact ih k hk hg
      · exact ⟨n, hn, fun k hk => Nat.le_of_not_lt fun hlt => hl ⟨k, hlt, hk⟩⟩
  let M : Act → World → Nat := fun a w => if h : ∃ n, G a w n then Classical.choose (hex a w h) else 0
  have hM : ∀ a w, (∃ n, G a w n) → G a w (M a w) ∧ ∀ n, G a w n → M a w ≤ n := by
    intro a w h
    have := Classical.choose_spec (hex a w h)
    simp only [M, dif_pos h]
    exact this
  refine wp_loop (fun a w => ∃ n, G a w n) M ⟨μ s0, s0, h0, hs.sub hE, hm.takes hL, Nat.le_refl _⟩ (fun a w hI => ?_)
  obtain ⟨⟨s, h1, h2, h3, h4⟩, hmin⟩ := hM a w hI
  refine round s h1 _ (fun s' h1' hlt a' w' h2' h3' => ?_) a w h2 h3
  refine ⟨⟨μ s', s', h1', h2', h3', Nat.le_refl _⟩, ?_⟩
  have := (hM a' w' ⟨μ s', s', h1', h2', h3', Nat.le_refl _⟩).2 (μ s') ⟨s', h1', h2', h3', Nat.le_refl _⟩
  omega
/-- a round's end -/
theorem End.round {σ : Type} {K : Act → World → Prop} {F : List Chunk} {ok : σ → Prop} {inv : σ → Env} {mem : σ → List Chunk} {μ : σ → Nat} {m : Nat}
    (hK : ∀ s', ok s' → μ s' < m → ∀ a w, Sat N a (inv s') → Mem w (mem s' ++ F) → K a w) (s : σ) (h1 : ok s) (h2 : μ s < m) (hE : Sub (inv s) E) (hL : Takes (mem s) L F) : End (Exit.then K Q) N .normal E L :=
  fun a w hs hm => hK s h1 h2 a w (hs.sub hE) (hm.takes hL)

/-- what a function does: R is read, 'pre' is one's own; it answers 'val x' and leaves 'mem x', for some x with 'post x'; all else stays -/
def Fn (P : Program) (f : FuncId) {σ : Type} (args : Array Value) (R pre : List Chunk) (post : σ → Prop) (val : σ → Value) (mem : σ → List Chunk) : Prop :=
  ∀ w, Mem w (R ++ pre) → Calls P f args w (fun e w' => ∃ x, post x ∧ e = .returned (val x) ∧ (∀ c ∈ mem x, c.excl = true) ∧ Mem w' (old w (feet pre) :: mem x))
section
variable {α : Type} [Inhabited α] {w w0 : World} {S : Nat → Prop} {ao : Option Addr} {n cap : Nat} {e : TypeId} {f : α → List Value} [Enc f] {l : List α} {R F F' : List Chunk}
theorem Reads.rd (t : Take (rd ao n cap f l) F F') (h : Reads w R F) : Reads w (Proofs.Ytkhagebjphaboaa.rd ao n cap f l :: R) F :=
  .cons t rd_excl (fun h => ⟨h, fun b hb => hb⟩) h
theorem Reads.arr (t : Take (arr ao n cap e f l) F F') (h : Reads w R F) : Reads w (Proofs.Ytkhagebjphaboaa.rd ao n cap f l :: R) F :=
  .cons t rd_excl (fun h => ⟨rd_holds.2 ⟨(arr_holds.1 h).1.row Enc.pos, (arr_holds.1 h).2⟩, fun b hb => arr_foot.2 ⟨(rd_foot.1 hb).1, Nat.lt_of_lt_of_le (rd_foot.1 hb).2 (arr_holds.1 h).1.le⟩⟩) h
/-- a slice that stood in w0, and is not in S -/
def At (w0 : World) (S : Nat → Prop) (ao : Option Addr) (n cap : Nat) (f : α → List Value) (l : List α) : Prop :=
  (Row w0 (.slice ao n cap) (sz f) n (l.flatMap f) ∧ l.length = n) ∧ ∀ b, (Value.slice ao n cap).ownBlock = some b → 0 < n → ¬ S b
theorem Reads.old (ha : At w0 S ao n cap f l) (t : Take (old w0 S) F F') (h : Reads w R F) : Reads w (Proofs.Ytkhagebjphaboaa.rd ao n cap f l :: R) F :=
  .cons t rd_excl (fun h => ⟨rd_holds.2 ⟨ha.1.1.keep'' Enc.pos (old_holds.1 h) ha.2, ha.1.2⟩, fun b hb => old_foot.2 ⟨ha.1.1.lt' Enc.pos (rd_foot.1 hb).2 b (rd_foot.1 hb).1, ha.2 b (rd_foot.1 hb).1 (rd_foot.1 hb).2⟩⟩) h
end

def evs (E : Env) : List Operand → Option (List Value)
  | [] => some []
  | x :: r => match ev E x, evs E r with
    | some v, some vs => some (v :: vs)
    | _, _ => none
/-- the operands' values -/
inductive Evs (E : Env) : List Operand → List Value → Prop
  | nil : Evs E [] []
  | cons {x : Operand} {v : Value} {r : List Operand} {vs : List Value} : ev E x = some v → Evs E r vs → Evs E (x :: r) (v :: vs)
theorem Sat.evs {a : Act} (h : Sat N a E) {l : List Operand} {vs : List Value} (he : Evs E l vs) : l.map a.eval = vs := by
  induction he with
  | nil => rfl
  | cons h1 _ ih => simp [h.ev h1, ih]

/-- a function of the program that has a body -/
def callB (P : Program) (f : FuncId) : Bool := match P.funcs[f]? with
  | none => false
  | some fn => !(fn.name == "runtime.NumGoroutine") && fn.body.isSome
theorem run_callFunc {w : World} {f : FuncId} (h : callB P f = true) (args : Array Value) : (callFunc f args).run P w = .ok (.enter f args) w := by
  unfold callB at h
  unfold callFunc
  cases hf : P.funcs[f]? with
  | none => rw [hf] at h; cases h
  | some fn =>
    rw [hf] at h
    simp only [Bool.and_eq_true, Bool.not_eq_true'] at h
    have hb : fn.body.isNone = false := by
      cases hb : fn.body with
      | none => rw [hb] at h; simp at h
      | some _ => rfl
    simp only [program, Sem.run_bind]
    show (Sem.run P _ w) = _
    simp only [hf, h.1, hb]
    rfl

theorem OpT.call {σ : Type} {dst : Option Tmp} {x : Operand} {args : List Operand} {tys : Array TypeId} {ty : TypeId} {pos : String} {aft : Array Edge} {g : Option (Nat × Bool)} {f : FuncId} {vs : List Value} {cap : Array Value}
    {R pre F : List Chunk} {post : σ → Prop} {val : σ → Value} {mem : σ → List Chunk} {C : Env → List Chunk → Prop}
    (hx : ev E x = some (.func (.func f) #[] cap)) (hv : Evs E args vs) (hc : callB P f = true) (hd : fitsB N dst = true)
    (spec : Fn P f (vs.toArray ++ cap) R pre post val mem) (t : Takes pre L F) (r : ∀ w, Reads w R F) (k : ∀ s, post s → C (upd dst (val s) E) (mem s ++ F)) :
    OpT P Q N ⟨dst, .call ⟨.value x, args.toArray, tys⟩, ty, pos, aft, g⟩ E L C := by
  intro K hK a w hs hm
  have hr : (execOp a.eval ⟨dst, .call ⟨.value x, args.toArray, tys⟩, ty, pos, aft, g⟩).run P w = .ok (.enter f (vs.toArray ++ cap)) w := by
    have e : args.toArray.map a.eval = vs.toArray := by rw [← hs.evs hv]; simp
    simp only [execOp, resolve, hs.ev hx, Deferred.ofValue, Sem.run_bind, Sem.run_pure, Result.andThen_ok, e, invoke]
    rw [run_callFunc hc]
    simp
  unfold Oper.wp
  rw [hr, Oper.upon_enter]
  refine (spec w ((hm.takes t).reads (r w))).mono ?_
  rintro e w' ⟨s, hp, rfl, hx, hm'⟩
  exact hK _ _ (k s hp) _ _ (hs.put _ hd) ((hm.takes t).frame hm' hx)

theorem OpT.call0 {σ : Type} {dst : Option Tmp} {x : Operand} {args : List Operand} {tys : Array TypeId} {ty : TypeId} {pos : String} {aft : Array Edge} {g : Option (Nat × Bool)} {f : FuncId} {vs : List Value}
    {R pre F : List Chunk} {post : σ → Prop} {val : σ → Value} {mem : σ → List Chunk} {C : Env → List Chunk → Prop}
    (hx : ev E x = some (.func (.func f) #[] #[])) (hv : Evs E args vs) (hc : callB P f = true) (hd : fitsB N dst = true)
    (spec : Fn P f vs.toArray R pre post val mem) (t : Takes pre L F) (r : ∀ w, Reads w R F) (k : ∀ s, post s → C (upd dst (val s) E) (mem s ++ F)) :
    OpT P Q N ⟨dst, .call ⟨.value x, args.toArray, tys⟩, ty, pos, aft, g⟩ E L C := OpT.call (cap := #[]) hx hv hc hd (by simpa using spec) t r k
/-- the end of a function: one result in a slot -/
theorem End.ret1 {fn : Func} {R : Ending → World → Prop} {t : Tmp} {v : Value} (hr : fn.results = #[.tmp t]) (hv : look E t = some v) (h : ∀ w, Mem w L → R (.returned v) w) : End (bodyPost P fn R) N .ret E L :=
  fun a w hs hm => bodyPost_ret (by rw [results_tmp hr]; simp [hs.slot t v hv]) hs.defs (h w hm)
theorem End.ret0 {fn : Func} {R : Ending → World → Prop} (hr : fn.results = #[]) (h : ∀ w, Mem w L → R (.returned (.tuple #[])) w) : End (bodyPost P fn R) N .ret E L :=
  fun a w hs hm => bodyPost_ret (by rw [results_none hr]) hs.defs (h w hm)
theorem End.end0 {fn : Func} {R : Ending → World → Prop} (hr : fn.results = #[]) (h : ∀ w, Mem w L → R (.returned (.tuple #[])) w) : End (bodyPost P fn R) N .normal E L :=
  fun a w hs hm => bodyPost_end (by rw [results_none hr]) hs.defs (h w hm)
theorem End.ret2 {fn : Func} {R : Ending → World → Prop} {t u : Tmp} {v v' : Value} (hr : fn.results = #[.tmp t, .tmp u]) (hv : look E t = some v) (hv' : look E u = some v') (h : ∀ w, Mem w L → R (.returned (.tuple #[v, v'])) w) :
    End (bodyPost P fn R) N .ret E L :=
  fun a w hs hm => bodyPost_ret (by rw [results_tmp2 hr]; simp [hs.slot t v hv, hs.slot u v' hv']) hs.defs (h w hm)
section
variable {σ : Type} {fn : Func} {post : σ → Prop} {val : σ → Value} {mem : σ → List Chunk} {w0 : World} {S : Nat → Prop} {F : List Chunk}
/-- what a function owes at its end -/
abbrev Owes (post : σ → Prop) (val : σ → Value) (mem : σ → List Chunk) (w0 : World) (S : Nat → Prop) : Ending → World → Prop := fun e w' => ∃ x, post x ∧ e = .returned (val x) ∧ (∀ c ∈ mem x, c.excl = true) ∧ Mem w' (old w0 S :: mem x)
theorem End.done1 {t : Tmp} {v : Value} (x : σ) (hr : fn.results = #[.tmp t]) (hv : look E t = some v) (he : v = val x) (hp : post x) (hx : ∀ c ∈ mem x, c.excl = true) (ht : Takes (old w0 S :: mem x) L F) : End (bodyPost P fn (Owes post val mem w0 S)) N .ret E L :=
  End.ret1 hr hv (fun w hm => ⟨x, hp, by rw [he], hx, (hm.takes ht).left⟩)
theorem End.done0 (x : σ) (hr : fn.results = #[]) (hv : val x = .tuple #[]) (hp : post x) (hx : ∀ c ∈ mem x, c.excl = true) (ht : Takes (old w0 S :: mem x) L F) : End (bodyPost P fn (Owes post val mem w0 S)) N .ret E L :=
  End.ret0 hr (fun w hm => ⟨x, hp, by rw [hv], hx, (hm.takes ht).left⟩)
theorem End.done0' (x : σ) (hr : fn.results = #[]) (hv : val x = .tuple #[]) (hp : post x) (hx : ∀ c ∈ mem x, c.excl = true) (ht : Takes (old w0 S :: mem x) L F) : End (bodyPost P fn (Owes post val mem w0 S)) N .normal E L :=
  End.end0 hr (fun w hm => ⟨x, hp, by rw [hv], hx, (hm.takes ht).left⟩)
theorem End.done2 {t u : Tmp} {v v' : Value} (x : σ) (hr : fn.results = #[.tmp t, .tmp u]) (hv : look E t = some v) (hv' : look E u = some v') (he : val x = .tuple #[v, v']) (hp : post x) (hx : ∀ c ∈ mem x, c.excl = true) (ht : Takes (old w0 S :: mem x) L F) : End (bodyPost P fn (Owes post val mem w0 S)) N .ret E L :=
  End.ret2 hr hv hv' (fun w hm => ⟨x, hp, by rw [he], hx, (hm.takes ht).left⟩)
end
/-- the slots at a function's entry -/
def first : Nat → List Value → Env
  | _, [] => []
  | k, v :: r => (k, v) :: first (k + 1) r
theorem look_first (l : List Value) : ∀ (k d : Nat) (v : Value), look (first k l) d = some v → k ≤ d ∧ l[d - k]? = some v := by
  induction l with
  | nil => intro k d v h; cases h
  | cons u r ih =>
    intro k d v h
    rw [first, look_cons] at h
    by_cases hk : k = d
    · subst hk
      rw [if_pos rfl] at h
      exact ⟨Nat.le_refl _, by simpa using h⟩
    · rw [if_neg hk] at h
      obtain ⟨h1, h2⟩ := ih _ _ _ h
      refine ⟨by omega, ?_⟩
      rw [show d - k = (d - (k + 1)) + 1 by omega, List.getElem?_cons_succ]
      exact h2
/-- a function, entered -/
theorem Fn.enter {f : FuncId} {fn : Func} {c : Code} {σ : Type} {args : List Value} {R pre : List Chunk} {post : σ → Prop} {val : σ → Value} {mem : σ → List Chunk} (hf : P.funcs[f]? = some fn) (hb : fn.body = some c) (N : Nat) (hN : fn.ntmps = N)
    (hA : Nat.ble args.length N = true) (hR : ∀ c ∈ R, c.excl = false)
    (h : ∀ w S, Cod P (bodyPost P fn (Owes post val mem w S)) N c (first 0 args) (old w S :: (R ++ pre))) : Fn P f args.toArray R pre post val mem := by
  intro w hm
  have hA := Nat.le_of_ble_eq_true hA
  refine calls_of_wp hf hb ?_
  subst hN
  refine h w (feet pre) _ w ⟨by simp; omega, rfl, fun d v hd => ?_⟩ ?_
  · obtain ⟨-, h2⟩ := look_first _ _ _ _ hd
    simp only [Nat.sub_zero] at h2
    have hlt : d < args.length := (List.getElem?_eq_some_iff.1 h2).1
    rw [Array.getElem?_append_left (by simpa using hlt)]
    simpa using h2
  · have h1 := hm.since
    have e : feet (R ++ pre) = feet pre := by
      funext b
      simp only [feet, eq_iff_iff]
      constructor
      · rintro ⟨c, hc, hx, hb⟩
        rcases List.mem_append.1 hc with hc | hc
        · rw [hR c hc] at hx; cases hx
        · exact ⟨c, hc, hx, hb⟩
      · rintro ⟨c, hc, hx, hb⟩
        exact ⟨c, List.mem_append_right _ hc, hx, hb⟩
    rwa [e] at h1
end
end Go.Proofs.Ytkhagebjphaboaa
