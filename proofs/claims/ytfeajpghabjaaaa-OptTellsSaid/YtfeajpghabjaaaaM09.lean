/- The operations over slices, and those that make or change memory, over states that are said by lists. Of whatever program whose types a table says. -/
import Derived.Test.YtfeajpghabjaaaaM08
namespace Go.Proofs.Ytfeajpghabjaaaa
open Go
set_option linter.unusedVariables false
set_option linter.unusedSimpArgs false
set_option linter.unusedSectionVars false

/-- where a slice's element i lies, 'off' cells further -/
@[irreducible] def place (m : Nat) (ao : Option Addr) (i off : Nat) : Option Addr := ao.map fun a => a.add (i * m + off)
theorem place_some {m i off b o : Nat} : place m (some ⟨b, o, none⟩) i off = some ⟨b, o + (i * m + off), none⟩ := by unfold place; simp [Addr.add_lit']

section
variable {α : Type} {iα : Inhabited α} {ao : Option Addr} {n cap : Nat} {e : TypeId} {f : α → List Value} {ef : Enc f} {l : List α} {L L' : List Chunk}
/-- what memory lets read -/
def Rdb {α : Type} [Inhabited α] (L : List Chunk) (ao : Option Addr) (n cap : Nat) (f : α → List Value) [Enc f] (l : List α) : Prop := ∀ w, Mem w L → Row w (.slice ao n cap) (sz f) n (l.flatMap f) ∧ l.length = n
theorem Rdb.arr (t : Take (arr ao n cap e f l) L L') : Rdb L ao n cap f l := fun w hm => ⟨(arr_holds.1 (hm.has t)).1.row Enc.pos, (arr_holds.1 (hm.has t)).2⟩
theorem Rdb.rd (t : Take (rd ao n cap f l) L L') : Rdb L ao n cap f l := fun w hm => rd_holds.1 (hm.has t)
theorem Rdb.old {w0 : World} {S : Nat → Prop} (ha : At w0 S ao n cap f l) (t : Take (old w0 S) L L') : Rdb L ao n cap f l := fun w hm => ⟨ha.1.1.keep'' Enc.pos (old_holds.1 (hm.has t)) ha.2, ha.1.2⟩

theorem flatMap_len {α : Type} [Inhabited α] (f : α → List Value) [Enc f] (l : List α) : (l.flatMap f).length = l.length * sz f := by
  induction l with
  | nil => simp
  | cons a r ih => rw [List.flatMap_cons, List.length_append, ih, Enc.len a, List.length_cons, Nat.add_mul]; simp only [sz]; omega
theorem flatMap_get {α : Type} [Inhabited α] (f : α → List Value) [Enc f] : ∀ (l : List α) (i : Nat), i < l.length → ∀ j, j < sz f → (l.flatMap f)[i * sz f + j]? = (f (l.getD i default))[j]?
  | [], i, h, _, _ => by simp at h
  | a :: r, 0, _, j, hj => by
    rw [List.flatMap_cons, Nat.zero_mul, Nat.zero_add, List.getElem?_append_left (by rw [Enc.len a]; exact hj)]; rfl
  | a :: r, i + 1, h, j, hj => by
    rw [List.flatMap_cons, List.getElem?_append_right (by rw [Enc.len a, Nat.add_mul]; simp only [sz]; omega), Enc.len a, show (i + 1) * sz f + j - (f default).length = i * sz f + j by rw [Nat.add_mul]; simp only [sz]; omega]
    exact flatMap_get f r i (by simpa using h) j hj
theorem set_cells {α : Type} [Inhabited α] (f : α → List Value) [Enc f] (cur : List Value) (l : List α) (i o off n : Nat) (vs : List Value) (a' : α) (hn : l.length = n) (hi : i < n) (hc : o + n * sz f ≤ cur.length)
    (hd : (cur.drop o).take (n * sz f) = l.flatMap f) (hle : off + vs.length ≤ (f (l.getD i default)).length) (he : f a' = (f (l.getD i default)).take off ++ vs ++ (f (l.getD i default)).drop (off + vs.length)) :
    ((cur.take (o + (i * sz f + off)) ++ vs ++ cur.drop (o + (i * sz f + off) + vs.length)).drop o).take (n * sz f) = (l.set i a').flatMap f := by
  have hx : l = l.take i ++ (l.getD i default) :: l.drop (i + 1) := by
    have h1 : l.getD i default = l[i]'(by omega) := by simp [List.getD_eq_getElem?_getD, List.getElem?_eq_getElem (show i < l.length by omega)]
    rw [h1, List.getElem_cons_drop, List.take_append_drop]
  generalize l.getD i default = x at *
  have hlx : (f x).length = sz f := Enc.len x
  have hA : ((l.take i).flatMap f).length = i * sz f := by rw [flatMap_len, List.length_take, Nat.min_eq_left (by omega)]
  have hS : (l.set i a').flatMap f = (l.take i).flatMap f ++ (f a' ++ (l.drop (i + 1)).flatMap f) := by
    conv => lhs; rw [hx]
    rw [List.set_append_right _ _ (by simp; omega)]
    simp [Nat.min_eq_left (show i ≤ l.length by omega)]
  have hF : l.flatMap f = (l.take i).flatMap f ++ (f x ++ (l.drop (i + 1)).flatMap f) := by
    conv => lhs; rw [hx]
    simp
  have hB : ((l.drop (i + 1)).flatMap f).length = (n - (i + 1)) * sz f := by rw [flatMap_len, List.length_drop, hn]
  have hcur : cur = cur.take o ++ (l.flatMap f ++ cur.drop (o + n * sz f)) := by
    rw [← hd, ← List.drop_drop, List.take_append_drop, List.take_append_drop]
  have hmul : n * sz f = i * sz f + (sz f + (n - (i + 1)) * sz f) := by
    have : n = i + (1 + (n - (i + 1))) := by omega
    conv => lhs; rw [this]
    rw [Nat.add_mul, Nat.add_mul, Nat.one_mul]
  have hC0 : (cur.take o).length = o := by rw [List.length_take, Nat.min_eq_left (by omega)]
  rw [hF] at hcur
  rw [hS, he]
  generalize (l.take i).flatMap f = A at *
  generalize (l.drop (i + 1)).flatMap f = B at *
  generalize cur.drop (o + n * sz f) = C1 at *
  generalize cur.take o = C0 at *
  have e1 : cur.take (o + (i * sz f + off)) = C0 ++ (A ++ (f x).take off) := by
    rw [hcur, List.take_append, List.take_of_length_le (by omega), hC0, Nat.add_sub_cancel_left, List.append_assoc, List.append_assoc, List.take_append, List.take_of_length_le (by omega), hA, Nat.add_sub_cancel_left, List.take_append_of_le_length (by omega)]
  have e2 : cur.drop (o + (i * sz f + off) + vs.length) = (f x).drop (off + vs.length) ++ (B ++ C1) := by
    rw [hcur, show o + (i * sz f + off) + vs.length = o + (i * sz f + (off + vs.length)) by omega, List.drop_append, List.drop_of_length_le (by omega), hC0, Nat.add_sub_cancel_left, List.nil_append, List.append_assoc, List.append_assoc, List.drop_append, List.drop_of_length_le (by omega), hA, Nat.add_sub_cancel_left, List.nil_append, List.drop_append_of_le_length (by omega)]
  rw [e1, e2]
  have e3 : C0 ++ (A ++ (f x).take off) ++ vs ++ ((f x).drop (off + vs.length) ++ (B ++ C1)) = C0 ++ ((A ++ ((f x).take off ++ vs ++ (f x).drop (off + vs.length) ++ B)) ++ C1) := by simp
  rw [e3, List.drop_left' hC0, List.take_left']
  simp only [List.length_append, List.length_take, List.length_drop, hA, hB, hlx, hmul]
  rw [Nat.min_eq_left (by omega)]
  omega
theorem Rdb.cell (h : Rdb L ao n cap f l) {w : World} (hm : Mem w L) {i : Nat} (hi : i < n) : ∃ b o, ao = some ⟨b, o, none⟩ ∧ ∀ off v, (f (l.getD i default))[off]? = some v → w.cell? ⟨b, o + (i * sz f + off), none⟩ = some v := by
  obtain ⟨⟨h1, h2, ao', cap', he, h3, h4⟩, h5⟩ := h w hm
  simp only [Value.slice.injEq] at he
  obtain ⟨rfl, -, rfl⟩ := he
  obtain ⟨b, o, rfl, hc⟩ := h4 (by omega)
  refine ⟨b, o, rfl, fun off v hv => ?_⟩
  have hoff : off < sz f := by
    have := (List.getElem?_eq_some_iff.1 hv).1
    rwa [Enc.len] at this
  have hlt : i * sz f + off < n * sz f := by
    have : (i + 1) * sz f ≤ n * sz f := Nat.mul_le_mul_right _ (by omega)
    rw [Nat.add_mul] at this; omega
  rw [hc _ hlt, flatMap_get f l i (by omega) off hoff]
  exact hv
end

section
variable {P : Program} [Tabbed P] {Q : Exit → Act → World → Prop} {N : Nat} {E : Env} {L L' : List Chunk}
variable {dst : Option Tmp} {ty : TypeId} {pos : String} {aft : Array Edge} {g : Option (Nat × Bool)}
variable {α : Type} {iα : Inhabited α} {ao : Option Addr} {n cap : Nat} {e : TypeId} {f : α → List Value} {ef : Enc f} {l : List α}

theorem Still.at_ {t : TypeId} {x ix : Operand} {k : IntKind} {j : Int} {i s' b' s2 b2 : Nat} {z' z2 : List Value} {d2 : TyD} (hx : ev E x = some (.slice ao n cap)) (hi : ev E ix = some (.int k j)) (hr : Rdb L ao n cap f l)
    (ht : tyOf P t = some ⟨.slice e, s', b', z'⟩) (he : tyOf P e = some ⟨d2, s2, b2, z2⟩) (hs : s2 = sz f) (hj : j = (i : Int)) (hlt : i < n) :
    Still P N ⟨dst, .indexAddr t x ix, ty, pos, aft, g⟩ E L (.pointer (place (sz f) ao i 0)) := fun A w hS hM => by
  obtain ⟨b, o, rfl, -⟩ := hr.cell hM hlt
  subst hj
  have h0 : (0 : Int) ≤ (i : Int) ∧ (i : Int) < (n : Int) := by omega
  have hz : (sizeOf e).run P w = .ok s2 w := (tyOk he).size w
  subst hs
  simp [execOp, hS.ev hx, hS.ev hi, Instr.indexAt, asIntOf, run_underlying (tyOk ht).slice, h0, hz, place_some, Addr.add_lit', hlt]
theorem Still.fieldE {x : Operand} {s ft : TypeId} {fs : List (Nat × TypeId)} {s' b' fi off o2 i : Nat} {z' : List Value} {j : TyI} (hx : ev E x = some (.pointer (place (sz f) ao i off))) (hr : Rdb L ao n cap f l) (hlt : i < n) (ht : tyOf P s = some ⟨.struct fs, s', b', z'⟩)
    (hf : fs[fi]? = some (o2, ft)) (hj : tyOf P ft = some j) (hz : Nat.beq j.size 0 = false) : Still P N ⟨dst, .fieldAddr s x fi, ty, pos, aft, g⟩ E L (.pointer (place (sz f) ao i (off + o2))) := fun A w hS hM => by
  obtain ⟨b, o, rfl, -⟩ := hr.cell hM hlt
  have hx' := hS.ev hx
  rw [place_some] at hx'
  simp [execOp, hx', run_fieldAt (i := 0) ht hf hj hz, Addr.add_lit', place_some, Nat.add_assoc]
theorem Still.nilE {x : Operand} {off i : Nat} (hx : ev E x = some (.pointer (place (sz f) ao i off))) (hr : Rdb L ao n cap f l) (hlt : i < n) : Still P N ⟨dst, .nilCheck x, ty, pos, aft, g⟩ E L (.pointer (place (sz f) ao i off)) := fun A w hS hM => by
  obtain ⟨b, o, rfl, -⟩ := hr.cell hM hlt
  have hx' := hS.ev hx
  rw [place_some] at hx' ⊢
  simp [execOp, hx']
theorem Still.loadE {x : Operand} {t : TypeId} {i off : Nat} {v : Value} {ti : TyI} (hx : ev E x = some (.pointer (place (sz f) ao i off))) (ht : tyOf P t = some ti) (hd : ti.d.row = false)
    (hr : Rdb L ao n cap f l) (hlt : i < n) (hv : (f (l.getD i default))[off]? = some v) : Still P N ⟨dst, .load t x, ty, pos, aft, g⟩ E L v := fun A w hS hM => by
  obtain ⟨b, o, rfl, hc⟩ := hr.cell hM hlt
  have hx' := hS.ev hx
  rw [place_some] at hx'
  simp [execOp, hx', Instr.loadAt, Instr.sureAddr, loadVar, (tyOk ht).isAgg hd, load, hc off v hv]
theorem Still.loadES {x : Operand} {t : TypeId} {i off s' b' : Nat} {fs : List (Nat × TypeId)} {z' ds : List Value} (hx : ev E x = some (.pointer (place (sz f) ao i off))) (ht : tyOf P t = some ⟨.struct fs, s', b', z'⟩)
    (hr : Rdb L ao n cap f l) (hlt : i < n) (hv : Cut (f (l.getD i default)) off s' ds) : Still P N ⟨dst, .load t x, ty, pos, aft, g⟩ E L (.agg ds.toArray) := fun A w hS hM => by
  obtain ⟨b, o, rfl, hc⟩ := hr.cell hM hlt
  have hx' := hS.ev hx
  rw [place_some] at hx'
  obtain ⟨hl, hg⟩ := hv.get
  obtain ⟨q, h1, -⟩ := (tyOk ht).struct
  obtain ⟨x', z, h3, h4, -⟩ := (tyOk ht).info
  have := run_loadAt_mid (P := P) w b (o + (i * sz f + off)) t ds _ (fun j v hj => by rw [Nat.add_assoc, Nat.add_assoc]; exact hc _ v (hg j v hj)) h1 rfl (by rw [h3]; simp [h4, hl])
  simp [execOp, hx', this]

/-- a new variable, with nothing in it -/
theorem OpT.alloc {t : TypeId} {d0 : TyD} {s0 b0 : Nat} {z0 : List Value} {C : Env → List Chunk → Prop} (ht : tyOf P t = some ⟨d0, s0, b0, z0⟩) (hd : fitsB N dst = true) (k : ∀ b, C (upd dst (.pointer (some ⟨b, 0, none⟩)) E) (blk b z0 t :: L)) :
    OpT P Q N ⟨dst, .alloc t, ty, pos, aft, g⟩ E L C := fun K hK A w hS hM => by
  obtain ⟨x, z, h1, h2, h3, h4, h5⟩ := (tyOk ht).info
  have hr : (execOp A.eval ⟨dst, .alloc t, ty, pos, aft, g⟩).run P w = .ok (.value (.pointer (some ⟨w.heap.size, 0, none⟩))) (w.alloc (.cells z.cells t)) := by
    simp [execOp, Instr.alloc, zeroValue, typeInfo, h1, h4, newVar, newRow, newObj]
    rfl
  unfold Oper.wp
  rw [hr]
  refine hK _ _ (k w.heap.size) _ _ (hS.put _ hd) (hM.add ((Keeps.refl _ _).alloc _) (blk_holds.2 ?_) (fun b hb => by rw [blk_foot.1 hb]; exact Nat.le_refl _))
  rw [← (show z.cells.toList = z0 from h5)]
  simpa using Blk.new w z.cells t
/-- a new variable with a value in it -/
theorem OpT.box {t : TypeId} {x : Operand} {v : Value} {cs : List Value} {C : Env → List Chunk → Prop} (hx : ev E x = some v) (hc : v.cells = cs.toArray) (hd : fitsB N dst = true) (k : ∀ b, C (upd dst (.pointer (some ⟨b, 0, none⟩)) E) (blk b cs t :: L)) :
    OpT P Q N ⟨dst, .box t x, ty, pos, aft, g⟩ E L C := fun K hK A w hS hM => by
  have hr : (execOp A.eval ⟨dst, .box t x, ty, pos, aft, g⟩).run P w = .ok (.value (.pointer (some ⟨w.heap.size, 0, none⟩))) (w.alloc (.cells cs.toArray t)) := by
    simp [execOp, hS.ev hx, Instr.box, hc, newVar, newRow, newObj]
    rfl
  unfold Oper.wp
  rw [hr]
  exact hK _ _ (k w.heap.size) _ _ (hS.put _ hd) (hM.add ((Keeps.refl _ _).alloc _) (blk_holds.2 (Blk.new w cs.toArray t)) (fun b hb => by rw [blk_foot.1 hb]; exact Nat.le_refl _))

/-- 'vs' written into 'cs' from i on -/
inductive Put : List Value → Nat → List Value → List Value → Prop
  | done {cs : List Value} : Put cs 0 [] cs
  | take {u v : Value} {r vs r' : List Value} : Put r 0 vs r' → Put (u :: r) 0 (v :: vs) (v :: r')
  | skip {u : Value} {r vs r' : List Value} {i : Nat} : Put r i vs r' → Put (u :: r) (i + 1) vs (u :: r')
theorem Put.eq {cs vs cs' : List Value} {i : Nat} (h : Put cs i vs cs') : i + vs.length ≤ cs.length ∧ cs' = cs.take i ++ vs ++ cs.drop (i + vs.length) := by
  induction h with
  | done => simp
  | take _ ih =>
    obtain ⟨h1, h2⟩ := ih
    refine ⟨by simp at h1 ⊢; omega, ?_⟩
    simp at h2
    simp [h2]
  | skip _ ih =>
    obtain ⟨h1, h2⟩ := ih
    refine ⟨by simp at h1 ⊢; omega, ?_⟩
    rw [h2]
    simp [Nat.add_right_comm _ 1]
/-- a store into one's own block -/
theorem OpT.store {t bt : TypeId} {x y : Operand} {v : Value} {b i : Nat} {cs vs cs' : List Value} {ti : TyI} {C : Env → List Chunk → Prop} (hx : ev E x = some (.pointer (some ⟨b, i, none⟩))) (hy : ev E y = some v) (hv : v.cells = vs.toArray)
    (ht : tyOf P t = some ti) (hl : vs.length = ti.size) (h1 : vs.all (·.oneCell') = true) (hm : Take (blk b cs bt) L L') (hp : Put cs i vs cs') (hd : fitsB N dst = true) (k : C (upd dst undef E) (blk b cs' bt :: L')) :
    OpT P Q N ⟨dst, .store t x y, ty, pos, aft, g⟩ E L C := fun K hK A w hS hM => by
  have hM' := hM.take hm
  have hb := blk_holds.1 (hM.has hm)
  obtain ⟨hle, he⟩ := hp.eq
  obtain ⟨x', z, h3, h4, -⟩ := (tyOk ht).info
  have hst := run_storeVar_mid (P := P) w b i t vs.toArray (fun j hj => by
    simp only [List.size_toArray] at hj
    exact ⟨by rw [hb.cell]; simp; omega, hb.free _⟩) (by rw [h3]; simp [h4, hl]) (by simpa using h1)
  have hr : (execOp A.eval ⟨dst, .store t x y, ty, pos, aft, g⟩).run P w = .ok .skip (w.setCells b i vs) := by
    have e : storeVar t ⟨b, i, none⟩ v = storeVar t ⟨b, i, none⟩ (.agg vs.toArray) := by
      unfold storeVar
      rw [hv]; rfl
    simp only [execOp, hS.ev hx, hS.ev hy, Instr.storeAt, Instr.sureAddr, Sem.run_bind, Sem.run_pure, Result.andThen_ok]
    rw [e, hst]
    rfl
  unfold Oper.wp
  rw [hr]
  refine hK _ _ k _ _ (hS.put _ hd) (hM'.turn (Keeps.setCells (S := fun c => c = b) vs i (Keeps.refl _ _) (fun _ => rfl)) blk_excl (fun c hc _ => blk_foot.2 hc) (blk_holds.2 ?_) (fun c hc => .inl (blk_foot.2 (blk_foot.1 hc))))
  rw [he]
  simpa using hb.setCells vs i (by simpa using hle)
/-- a store into an element of one's own slice -/
theorem OpT.storeE {t : TypeId} {x y : Operand} {v : Value} {i off : Nat} {vs : List Value} {ti : TyI} {a' : α} {C : Env → List Chunk → Prop} (hx : ev E x = some (.pointer (place (sz f) ao i off))) (hy : ev E y = some v) (hv : v.cells = vs.toArray)
    (ht : tyOf P t = some ti) (hl : vs.length = ti.size) (h1 : vs.all (·.oneCell') = true) (hm : Take (arr ao n cap e f l) L L') (hlt : i < n) (hp : Put (f (l.getD i default)) off vs (f a')) (hd : fitsB N dst = true)
    (k : C (upd dst undef E) (arr ao n cap e f (l.set i a') :: L')) : OpT P Q N ⟨dst, .store t x y, ty, pos, aft, g⟩ E L C := fun K hK A w hS hM => by
  have hM' := hM.take hm
  obtain ⟨hown0, hln⟩ := arr_holds.1 (hM.has hm)
  have hcap0 : 0 < cap := Nat.lt_of_lt_of_le (Nat.lt_of_le_of_lt (Nat.zero_le _) hlt) hown0.le
  have hown := hown0.own hcap0
  obtain ⟨hle, he⟩ := hp.eq
  obtain ⟨x', z, h3, h4, -⟩ := (tyOk ht).info
  obtain ⟨b, o, rfl, -⟩ := (Rdb.arr hm).cell hM hlt
  obtain ⟨q1, ao', cap', q2, q3, q4, q5, q6⟩ := id hown
  simp only [Value.slice.injEq] at q2
  obtain ⟨rfl, -, rfl⟩ := q2
  obtain ⟨-, q7, cur, q8, q9, q10⟩ := q6 _ rfl
  simp only at q7 q8 q9 q10
  rw [Enc.len] at hle
  have hmul : (i + 1) * sz f ≤ cap * sz f := Nat.mul_le_mul_right _ (by omega)
  have hmul2 : (i + 1) * sz f ≤ n * sz f := Nat.mul_le_mul_right _ (by omega)
  rw [Nat.add_mul, Nat.one_mul] at hmul hmul2
  simp only [sz] at hmul hmul2 q9 q10 hle
  have hst := run_storeVar_mid (P := P) w b (o + (i * sz f + off)) t vs.toArray (fun j hj => by
    simp only [List.size_toArray] at hj
    exact ⟨by rw [q8.cell]; simp only [sz]; simp; omega, q8.free _⟩) (by rw [h3]; simp [h4, hl]) (by simpa using h1)
  have hx' := hS.ev hx
  rw [place_some] at hx'
  have hr : (execOp A.eval ⟨dst, .store t x y, ty, pos, aft, g⟩).run P w = .ok .skip (w.setCells b (o + (i * sz f + off)) vs) := by
    have e : storeVar t ⟨b, o + (i * sz f + off), none⟩ v = storeVar t ⟨b, o + (i * sz f + off), none⟩ (.agg vs.toArray) := by
      unfold storeVar
      rw [hv]; rfl
    simp only [execOp, hx', hS.ev hy, Instr.storeAt, Instr.sureAddr, Sem.run_bind, Sem.run_pure, Result.andThen_ok]
    rw [e, hst]
    rfl
  unfold Oper.wp
  rw [hr]
  have hb2 := q8.setCells vs (o + (i * sz f + off)) (by simp only [sz]; omega)
  refine hK _ _ k _ _ (hS.put _ hd) (hM'.turn (Keeps.setCells (S := fun c => c = b) vs _ (Keeps.refl _ _) (fun _ => rfl)) arr_excl (fun c hc _ => arr_foot.2 ⟨by rw [hc]; rfl, hcap0⟩) (arr_holds.2 ⟨Own0.of ?_, by simpa using hln⟩) (fun c hc => .inl (arr_foot.2 (arr_foot.1 hc))))
  refine ⟨by rw [flatMap_len]; simp [hln], _, cap, rfl, q3, q4, (fun h => by cases h), fun ad had => ?_⟩
  cases had
  refine ⟨rfl, Nat.zero_le _, _, hb2, ?_, ?_⟩
  · simp only [List.size_toArray, List.length_append, List.length_take, List.length_drop, Array.length_toList, sz]
    omega
  · have := set_cells f cur.toList l i o off n vs a' hln hlt (by simp only [sz] at *; simp; have : n * (f default).length ≤ cap * (f default).length := Nat.mul_le_mul_right _ (by omega); omega) (by simp only [sz]; exact q10) (by rw [Enc.len]; exact hle) he
    simpa [sz] using this
end
end Go.Proofs.Ytfeajpghabjaaaa
