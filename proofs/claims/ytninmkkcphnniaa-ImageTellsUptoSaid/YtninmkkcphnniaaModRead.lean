/- How a module and bytes are read as arguments of bounded bulk. -/
import Derived.Test.YtninmkkcphnniaaRows
import Derived.Test.YtninmkkcphnniaaMod
import Derived.Test.YtninmkkcphnniaaRead
import Derived.Deep.Strs
import Derived.ChangeSame
import Derived.Lib.SmallJoins
namespace Go.Proofs.Ytninmkkcphnniaa
open Go.RowKit Go.ChangeShapes Go.WideShapes Go.ChangeAt
set_option linter.unusedVariables false

section
variable {H : Type} {enc : TypeId × Value → H} {P : Program} {w : World}

theorem bulk_one (d : DataW H) : 1 ≤ Rows.uptoBulk d := by
  cases d with
  | lit l => cases l <;> simp [Rows.uptoBulk]
  | nil => simp [Rows.uptoBulk]
  | ptr d => simp [Rows.uptoBulk]
  | slice elems spare => simp [Rows.uptoBulk]
  | agg parts => simp [Rows.uptoBulk]
  | iface t d => simp [Rows.uptoBulk]
  | map entries => simp [Rows.uptoBulk]
  | held h => simp [Rows.uptoBulk]

theorem bulk_sum (D : Nat → DataW H) (c : Nat → Nat) (n : Nat) (h : ∀ i, i < n → c i ≤ Rows.uptoBulk (D i)) : ((List.range n).map c).sum ≤ Rows.uptoBulkAll ((List.range n).map D) := by
  have key : ∀ (l : List Nat), (∀ i ∈ l, c i ≤ Rows.uptoBulk (D i)) → (l.map c).sum ≤ Rows.uptoBulkAll (l.map D) := by
    intro l
    induction l with
    | nil => intro _; simp [Rows.uptoBulkAll]
    | cons a r ih =>
      intro hl
      have h1 := hl a (by simp)
      have h2 := ih (fun i hi => hl i (by simp [hi]))
      simp only [List.map_cons, List.sum_cons, Rows.uptoBulkAll]
      omega
  exact key _ (fun i hi => h i (by simpa using hi))

/-- A SLICE, READ, of bounded bulk -/
theorem read_sliceU {α : Type} [Inhabited α] {t e : TypeId} {size : Nat} (f : α → List Value) (Q : α → Prop) (c : α → Nat) (ht : P.underlying t = some (.slice e)) (hc : P.cellsOf e = size) (hs : 0 < size)
    (hel : ∀ fuel cs x, Trd enc P w fuel e cs x → cs.length = size → ∃ a, cs = f a ∧ Q a ∧ c a ≤ Rows.uptoBulk x.1)
    {fuel : Nat} {cs : List Value} {x : DataW H × List MemPlace} (h : Trd enc P w fuel t cs x) :
    ∃ (v : Value) (l : List α), cs = [v] ∧ Row w v size l.length (l.flatMap f) ∧ (∀ a ∈ l, Q a) ∧ (l.map c).sum + 1 ≤ Rows.uptoBulk x.1 := by
  rcases Deep.open_slice ht h with ⟨rfl, rfl⟩ | ⟨a, len, cap, m, n, D, Pl, rfl, hb, hl, hm, hmm, rfl, hx⟩
  · exact ⟨_, [], rfl, ⟨by simp, Nat.zero_le _, none, 0, rfl, Nat.le_refl _, fun h => by simp at h⟩, by simp, by simp [Rows.uptoBulk]⟩
  · simp only [if_true] at hmm
    subst hmm
    have hel' : ∀ i, i < len → ∃ y : α, (∀ j, j < size → w.cell? (a.add (i * size + j)) = (f y)[j]?) ∧ (f y).length = size ∧ Q y ∧ c y ≤ Rows.uptoBulk (D i) := by
      intro i hi
      obtain ⟨cs', h1, h2⟩ := hx i (by omega)
      rw [hc] at h1
      obtain ⟨-, h3, h4⟩ := World.cells?_some h1
      obtain ⟨y, rfl, hq, hcy⟩ := hel n cs' (D i, Pl i) h2 h3
      refine ⟨y, fun j hj => ?_, h3, hq, hcy⟩
      rw [← Deep.add_add]
      exact h4 j hj
    obtain ⟨F, hF⟩ := Deep.choose_lt hel'
    refine ⟨_, (List.range len).map F, rfl, ?_, ?_, ?_⟩
    · have hlen : ∀ m, m ≤ len → (((List.range m).map F).flatMap f).length = m * size := by
        intro m hm
        induction m with
        | zero => simp
        | succ m ih =>
          rw [List.range_succ, List.map_append, List.flatMap_append, List.length_append, ih (by omega)]
          simp [(hF m (by omega)).2.1, Nat.add_mul]
      have hget : ∀ m, m ≤ len → ∀ j, j < m * size → w.cell? (a.add j) = (((List.range m).map F).flatMap f)[j]? := by
        intro m hm
        induction m with
        | zero => intro j hj; simp at hj
        | succ m ih =>
          intro j hj
          rw [List.range_succ, List.map_append, List.flatMap_append]
          by_cases hjm : j < m * size
          · rw [List.getElem?_append_left (by rw [hlen m (by omega)]; exact hjm)]
            exact ih (by omega) j hjm
          · rw [List.getElem?_append_right (by rw [hlen m (by omega)]; omega), hlen m (by omega)]
            have := (hF m (by omega)).1 (j - m * size) (by rw [Nat.add_mul] at hj; omega)
            rw [show m * size + (j - m * size) = j by omega] at this
            simpa using this
      refine ⟨by simp only [List.length_map, List.length_range]; exact hlen len (Nat.le_refl _), by simp; omega, some a, m, by simp, by simpa using hl, fun hpos => ?_⟩
      simp only [List.length_map, List.length_range] at hpos ⊢
      have h0 := hget len (Nat.le_refl _) 0 (Nat.mul_pos hpos hs)
      have hsome : (w.cell? (a.add 0)).isSome = true := by
        rw [h0, List.getElem?_eq_getElem (by rw [hlen len (Nat.le_refl _)]; exact Nat.mul_pos hpos hs)]; rfl
      obtain ⟨b, off, spot⟩ := a
      have hspot : spot = none := by
        cases spot with
        | none => rfl
        | some s =>
          unfold World.cell? Addr.add at hsome
          split at hsome <;> simp_all
      subst hspot
      exact ⟨b, off, rfl, fun j hj => by rw [← Addr.add_lit]; exact hget len (Nat.le_refl _) j hj⟩
    · intro y hy
      obtain ⟨i, hi, rfl⟩ := List.mem_map.1 hy
      exact (hF i (by simpa using hi)).2.2.1
    · have := bulk_sum D (fun i => c (F i)) len (fun i hi => (hF i hi).2.2.2)
      simp only [Rows.uptoBulk, List.map_map]
      have e : (List.map (c ∘ F) (List.range len)) = List.map (fun i => c (F i)) (List.range len) := rfl
      rw [e]
      omega

/-- an int or int64 element -/
theorem el_i64U {e : TypeId} (he : P.underlying e = some (.int .i64)) : ∀ fuel cs (x : DataW H × List MemPlace), Trd enc P w fuel e cs x → cs.length = 1 → ∃ n : Int, cs = [.int .i64 n] ∧ ImgM.In64 n ∧ 1 ≤ Rows.uptoBulk x.1 := by
  intro fuel cs x h _
  obtain ⟨n, rfl, _, hw⟩ := DataW.trod_int he h
  exact ⟨n, rfl, wf_i64 hw, bulk_one _⟩
theorem el_u8U {e : TypeId} (he : P.underlying e = some (.int .u8)) : ∀ fuel cs (x : DataW H × List MemPlace), Trd enc P w fuel e cs x → cs.length = 1 → ∃ n : Nat, cs = [.int .u8 (n : Int)] ∧ n < 256 ∧ 1 ≤ Rows.uptoBulk x.1 := by
  intro fuel cs x h _
  obtain ⟨n, rfl, _, hw⟩ := DataW.trod_int he h
  obtain ⟨h0, h1⟩ := wf_u8 hw
  obtain ⟨m, rfl⟩ := Int.eq_ofNat_of_zero_le h0
  exact ⟨m, rfl, by omega, bulk_one _⟩
theorem sum_ones {α : Type} (l : List α) : (l.map fun _ => 1).sum = l.length := by
  induction l with
  | nil => rfl
  | cons a r ih => simp [ih]; omega
theorem flat_one {α : Type} (g : α → Value) (l : List α) : (l.flatMap fun n => [g n]) = l.map g := by
  induction l with
  | nil => rfl
  | cons a r ih => simp only [List.flatMap_cons, List.map_cons, ih]; rfl
theorem trod_struct6 {t : TypeId} {f0 f1 f2 f3 f4 f5 : Field} {fuel : Nat} {cs : List Value} {x : DataW H × List MemPlace} (ht : P.underlying t = some (.struct #[f0, f1, f2, f3, f4, f5])) (h : Trd enc P w fuel t cs x) :
    ∃ y0 y1 y2 y3 y4 y5 n, x.1 = .agg [y0.1, y1.1, y2.1, y3.1, y4.1, y5.1] ∧ cs.length = P.cellsOf t ∧ Trd enc P w n f0.type ((cs.drop f0.offset).take (P.cellsOf f0.type)) y0 ∧
      Trd enc P w n f1.type ((cs.drop f1.offset).take (P.cellsOf f1.type)) y1 ∧ Trd enc P w n f2.type ((cs.drop f2.offset).take (P.cellsOf f2.type)) y2 ∧ Trd enc P w n f3.type ((cs.drop f3.offset).take (P.cellsOf f3.type)) y3 ∧
      Trd enc P w n f4.type ((cs.drop f4.offset).take (P.cellsOf f4.type)) y4 ∧ Trd enc P w n f5.type ((cs.drop f5.offset).take (P.cellsOf f5.type)) y5 := by
  obtain ⟨xs, n, _, rfl, hl, hlen, hf⟩ := DataW.trod_struct ht h
  match xs, hlen with
  | [y0, y1, y2, y3, y4, y5], _ => exact ⟨y0, y1, y2, y3, y4, y5, n, by simp, hl, by simpa using hf 0 f0 rfl, by simpa using hf 1 f1 rfl, by simpa using hf 2 f2 rfl, by simpa using hf 3 f3 rfl, by simpa using hf 4 f4 rfl, by simpa using hf 5 f5 rfl⟩
end

section
variable {H : Type} {enc : TypeId × Value → H} {w : World}
open Img

theorem cells_int : Try.prog.cellsOf 3 = 1 := by kernel_rfl
theorem cells_i64 : Try.prog.cellsOf 2 = 1 := by kernel_rfl
theorem cells_ints : Try.prog.cellsOf 37 = 1 := by kernel_rfl
theorem cells_code : Try.prog.cellsOf 84 = 1 := by kernel_rfl
theorem cells_boxes : Try.prog.cellsOf 48 = 1 := by kernel_rfl
theorem cells_unts : Try.prog.cellsOf 49 = 1 := by kernel_rfl
theorem cells_ins : Try.prog.cellsOf 89 = 3 := by kernel_rfl
theorem cells_box : Try.prog.cellsOf 83 = 2 := by kernel_rfl
theorem cells_unt : Try.prog.cellsOf 86 = 6 := by kernel_rfl
theorem cells_mod : Try.prog.cellsOf 51 = 2 := by kernel_rfl

set_option maxRecDepth 100000 in
theorem el_box : ∀ fuel cs (x : DataW H × List MemPlace), Trd enc Try.prog w fuel 83 cs x → cs.length = 2 → ∃ b : Int × Int, cs = boxC b ∧ (ImgM.In64 b.1 ∧ ImgM.In64 b.2) ∧ 2 ≤ Rows.uptoBulk x.1 := by
  intro fuel cs x h hlen
  obtain ⟨y0, y1, n, rfl, _, hy0, hy1⟩ := trod_struct2 Try.underlying83 h
  match cs, hlen with
  | [c0, c1], _ =>
    have e0 : ([c0, c1].drop 0).take (Try.prog.cellsOf 3) = [c0] := by rw [cells_int]; rfl
    have e1 : ([c0, c1].drop 1).take (Try.prog.cellsOf 3) = [c1] := by rw [cells_int]; rfl
    simp only [e0, e1] at hy0 hy1
    obtain ⟨a, ha, wa, ba⟩ := el_i64U Try.underlying3 _ _ _ hy0 rfl
    obtain ⟨b, hb, wb, bb⟩ := el_i64U Try.underlying3 _ _ _ hy1 rfl
    simp at ha hb
    exact ⟨(a, b), by rw [ha, hb]; rfl, ⟨wa, wb⟩, by simp only [Rows.uptoBulk, Rows.uptoBulkAll]; omega⟩

set_option maxRecDepth 100000 in
theorem el_ins : ∀ fuel cs (x : DataW H × List MemPlace), Trd enc Try.prog w fuel 89 cs x → cs.length = 3 → ∃ i : ImgM.Ins, cs = insC i ∧ (ImgM.In64 i.op ∧ ImgM.In64 i.a ∧ ImgM.In64 i.n) ∧ 3 ≤ Rows.uptoBulk x.1 := by
  intro fuel cs x h hlen
  obtain ⟨y0, y1, y2, n, rfl, _, hy0, hy1, hy2⟩ := Go.Deep.trod_struct3 Try.underlying89 h
  match cs, hlen with
  | [c0, c1, c2], _ =>
    have e0 : ([c0, c1, c2].drop 0).take (Try.prog.cellsOf 3) = [c0] := by rw [cells_int]; rfl
    have e1 : ([c0, c1, c2].drop 1).take (Try.prog.cellsOf 3) = [c1] := by rw [cells_int]; rfl
    have e2 : ([c0, c1, c2].drop 2).take (Try.prog.cellsOf 2) = [c2] := by rw [cells_i64]; rfl
    simp only [e0, e1, e2] at hy0 hy1 hy2
    obtain ⟨a, ha, wa, ba⟩ := el_i64U Try.underlying3 _ _ _ hy0 rfl
    obtain ⟨b, hb, wb, bb⟩ := el_i64U Try.underlying3 _ _ _ hy1 rfl
    obtain ⟨c, hc, wc, bc⟩ := el_i64U Try.underlying2 _ _ _ hy2 rfl
    simp at ha hb hc
    exact ⟨⟨a, b, c⟩, by rw [ha, hb, hc]; rfl, ⟨wa, wb, wc⟩, by simp only [Rows.uptoBulk, Rows.uptoBulkAll]; omega⟩

theorem sum_const {α : Type} (l : List α) (k : Nat) : (l.map fun _ => k).sum = k * l.length := by
  induction l with
  | nil => rfl
  | cons a r ih => simp [ih, Nat.mul_add]; omega

/-- a unit, its cells beside it -/
def UntIs (w : World) (x : List Value × ImgM.Unt) : Prop :=
  x.1.length = 6 ∧ UntAt w x.1 x.2 ∧ ImgM.In64 x.2.kind ∧ ImgM.In64 x.2.params ∧ ImgM.In64 x.2.result ∧ ImgM.In64 x.2.takes ∧ (∀ n ∈ x.2.locals, ImgM.In64 n) ∧ ∀ i ∈ x.2.code, ImgM.In64 i.op ∧ ImgM.In64 i.a ∧ ImgM.In64 i.n

set_option maxRecDepth 100000 in
theorem el_unt : ∀ fuel cs (x : DataW H × List MemPlace), Trd enc Try.prog w fuel 86 cs x → cs.length = 6 → ∃ y : List Value × ImgM.Unt, cs = y.1 ∧ UntIs w y ∧ y.2.locals.length + 3 * y.2.code.length + 7 ≤ Rows.uptoBulk x.1 := by
  intro fuel cs x h hlen
  obtain ⟨y0, y1, y2, y3, y4, y5, n, hx, _, hy0, hy1, hy2, hy3, hy4, hy5⟩ := trod_struct6 Try.underlying86 h
  match cs, hlen with
  | [c0, c1, c2, c3, c4, c5], _ =>
    have e0 : ([c0, c1, c2, c3, c4, c5].drop 0).take (Try.prog.cellsOf 3) = [c0] := by rw [cells_int]; rfl
    have e1 : ([c0, c1, c2, c3, c4, c5].drop 1).take (Try.prog.cellsOf 3) = [c1] := by rw [cells_int]; rfl
    have e2 : ([c0, c1, c2, c3, c4, c5].drop 2).take (Try.prog.cellsOf 37) = [c2] := by rw [cells_ints]; rfl
    have e3 : ([c0, c1, c2, c3, c4, c5].drop 3).take (Try.prog.cellsOf 3) = [c3] := by rw [cells_int]; rfl
    have e4 : ([c0, c1, c2, c3, c4, c5].drop 4).take (Try.prog.cellsOf 3) = [c4] := by rw [cells_int]; rfl
    have e5 : ([c0, c1, c2, c3, c4, c5].drop 5).take (Try.prog.cellsOf 84) = [c5] := by rw [cells_code]; rfl
    simp only [e0, e1, e2, e3, e4, e5] at hy0 hy1 hy2 hy3 hy4 hy5
    obtain ⟨a, ha, wa, ba⟩ := el_i64U Try.underlying3 _ _ _ hy0 rfl
    obtain ⟨b, hb, wb, bb⟩ := el_i64U Try.underlying3 _ _ _ hy1 rfl
    obtain ⟨c, hc, wc, bc⟩ := el_i64U Try.underlying3 _ _ _ hy3 rfl
    obtain ⟨d, hd, wd, bd⟩ := el_i64U Try.underlying3 _ _ _ hy4 rfl
    obtain ⟨lv, ls, hlv, hl1, hl2, hl3⟩ := read_sliceU (fun n : Int => [Value.int .i64 n]) ImgM.In64 (fun _ => 1) Try.underlying37 cells_int (by decide) (el_i64U Try.underlying3) hy2
    obtain ⟨cv, is, hcv, hc1, hc2, hc3⟩ := read_sliceU insC _ (fun _ => 3) Try.underlying84 cells_ins (by decide) el_ins hy5
    simp only [List.cons.injEq, and_true] at ha hb hc hd hlv hcv
    subst ha hb hc hd hlv hcv
    rw [flat_one] at hl1
    rw [sum_const] at hl3 hc3
    refine ⟨([.int .i64 a, .int .i64 b, c2, .int .i64 c, .int .i64 d, c5], ⟨a, b, ls, c, d, is⟩), rfl, ⟨rfl, ⟨c2, c5, rfl, hl1, hc1⟩, wa, wb, wc, wd, hl2, hc2⟩, ?_⟩
    rw [hx]
    simp only [Rows.uptoBulk, Rows.uptoBulkAll]
    omega

theorem flat_fst (l : List (List Value × ImgM.Unt)) (h : ∀ a ∈ l, a.1.length = 6) (k : Nat) (hk : k < l.length) : ((l.flatMap Prod.fst).drop (k * 6)).take 6 = l[k].1 := by
  induction l generalizing k with
  | nil => simp at hk
  | cons a r ih =>
    have h0 := h a (by simp)
    cases k with
    | zero =>
      simp only [List.flatMap_cons, Nat.zero_mul, List.drop_zero, List.getElem_cons_zero]
      rw [← h0, List.take_left]
    | succ k =>
      simp only [List.flatMap_cons, List.getElem_cons_succ]
      rw [show (k + 1) * 6 = a.1.length + k * 6 by omega, List.drop_append]
      simp only [Nat.add_sub_cancel_left]
      rw [List.drop_of_length_le (by omega), List.nil_append]
      exact ih (fun b hb => h b (by simp [hb])) k (by simpa using hk)

theorem unts_len (l : List ImgM.Unt) : (l.flatMap ImgM.untN).length = (l.map fun u => u.locals.length + 3 * u.code.length + 6).sum := by
  induction l with
  | nil => rfl
  | cons u r ih =>
    have : ∀ c : List ImgM.Ins, (ImgM.codeN c).length = 3 * c.length := by
      intro c
      induction c with
      | nil => rfl
      | cons a c ih => simp [ImgM.codeN, ImgM.insN] at ih ⊢; omega
    simp only [List.flatMap_cons, List.length_append, ih, List.map_cons, List.sum_cons, ImgM.untN, List.length_cons, List.length_nil, this]
    omega

set_option maxRecDepth 100000 in
theorem read_mod {base : Nat} {v : Value} (hok : Value.okWide Try.prog w .any base 51 v) {d : DataW H} {p : List MemPlace} (h : DataW.Trod enc Try.prog w 0 (fun _ => true) true 51 v d p) (hk : Rows.uptoBulk d ≤ 1048576) :
    ∃ M, ModAt w v M ∧ Wf M ∧ (ImgM.mdlN M).length ≤ 1048576 := by
  obtain ⟨c0, c1, y0, y1, m, rfl, rfl, rfl, hy0, hy1⟩ := Go.Joins.open_agg2 Try.underlying51 (by kernel_rfl) cells_mod hok h
  obtain ⟨bv, bs, hbv, hb1, hb2, hb3⟩ := read_sliceU boxC _ (fun _ => 2) Try.underlying48 cells_box (by decide) el_box hy0
  obtain ⟨uv, us, huv, hu1, hu2, hu3⟩ := read_sliceU Prod.fst (UntIs w) (fun y => y.2.locals.length + 3 * y.2.code.length + 7) Try.underlying49 cells_unt (by decide) el_unt hy1
  simp only [List.cons.injEq, and_true] at hbv huv
  subst hbv huv
  rw [sum_const] at hb3
  have hsum : ((us.map Prod.snd).map fun u : ImgM.Unt => u.locals.length + 3 * u.code.length + 6).sum + us.length = (us.map fun y => y.2.locals.length + 3 * y.2.code.length + 7).sum := by
    clear hu1 hu2 hu3
    induction us with
    | nil => rfl
    | cons a r ih => simp only [List.map_cons, List.sum_cons, List.length_cons, ← ih]; omega
  simp only [Rows.uptoBulk, Rows.uptoBulkAll] at hk
  have hlen : (ImgM.mdlN ⟨bs, us.map Prod.snd⟩).length = 2 + 2 * bs.length + ((us.map Prod.snd).map fun u : ImgM.Unt => u.locals.length + 3 * u.code.length + 6).sum := by
    have h1 : (bs.flatMap ImgM.boxN).length = 2 * bs.length := by
      clear hb1 hb2 hb3
      induction bs with
      | nil => rfl
      | cons a r ih => simp only [List.flatMap_cons, List.length_append, ih, ImgM.boxN, List.length_cons, List.length_nil]; omega
    simp only [ImgM.mdlN, List.length_append, List.length_cons, h1, unts_len]
    omega
  have hmem : ∀ u ∈ us.map Prod.snd, u.locals.length + 3 * u.code.length + 6 ≤ 1048576 := by
    intro u hu
    have : ∀ (l : List ImgM.Unt) (u : ImgM.Unt), u ∈ l → u.locals.length + 3 * u.code.length + 6 ≤ (l.map fun u : ImgM.Unt => u.locals.length + 3 * u.code.length + 6).sum := by
      intro l
      induction l with
      | nil => intro u hu; cases hu
      | cons a r ih =>
        intro u hu
        simp only [List.map_cons, List.sum_cons]
        rcases List.mem_cons.1 hu with rfl | hu
        · omega
        · have := ih u hu; omega
    have := this _ u hu
    omega
  have small : ∀ n : Nat, n ≤ 1048576 → ImgM.In64 (n : Int) := fun n hn => ⟨by omega, by omega⟩
  refine ⟨⟨bs, us.map Prod.snd⟩, ⟨_, _, us.flatMap Prod.fst, rfl, hb1, by simpa using hu1, fun k hk' => ?_⟩, ⟨?_⟩, by rw [hlen]; omega⟩
  · simp only [List.length_map] at hk'
    rw [flat_fst us (fun a ha => (hu2 a ha).1) k hk']
    have := (hu2 us[k] (List.getElem_mem hk')).2.1
    simpa [List.getD_eq_getElem?_getD, hk'] using this
  · intro n hn
    simp only [ImgM.mdlN, List.mem_append, List.mem_cons, List.mem_flatMap] at hn
    rcases hn with (rfl | ⟨b, hb, hn⟩) | rfl | ⟨u, hu, hn⟩
    · exact small _ (by omega)
    · have := hb2 b hb
      simp [ImgM.boxN] at hn
      rcases hn with rfl | rfl
      · exact this.1
      · exact this.2
    · refine small _ ?_
      simp only [List.length_map]
      omega
    · have hsm := hmem u hu
      obtain ⟨y, hy, rfl⟩ := List.mem_map.1 hu
      obtain ⟨-, -, w1, w2, w3, w4, w5, w6⟩ := hu2 y hy
      simp only [ImgM.untN, ImgM.codeN, List.mem_append, List.mem_cons, List.mem_flatMap, List.not_mem_nil, or_false] at hn
      rcases hn with (((rfl | rfl) | rfl | hn) | rfl | rfl | rfl) | ⟨i, hi, hn⟩
      · exact w1
      · exact w2
      · exact small _ (by omega)
      · exact w5 n hn
      · exact w3
      · exact w4
      · exact small _ (by omega)
      · have := w6 i hi
        simp [ImgM.insN] at hn
        rcases hn with rfl | rfl | rfl
        · exact this.1
        · exact this.2.1
        · exact this.2.2

set_option maxRecDepth 100000 in
theorem read_u8s {base : Nat} {v : Value} (hok : Value.okWide Try.prog w .any base 52 v) {d : DataW H} {p : List MemPlace} (h : DataW.Trod enc Try.prog w 0 (fun _ => true) true 52 v d p) (hk : Rows.uptoBulk d ≤ 1048576) :
    ∃ bs : List Nat, Row w v 1 bs.length (u8s bs) ∧ (∀ c ∈ bs, c < 256) ∧ bs.length ≤ 1048576 := by
  obtain ⟨fuel, h⟩ := h
  obtain ⟨v', l, hv, h1, h2, h3⟩ := read_sliceU (fun n : Nat => [Value.int .u8 (n : Int)]) (fun n => n < 256) (fun _ => 1) Try.underlying52 (show Try.prog.cellsOf 5 = 1 by kernel_rfl) (by decide) (el_u8U Try.underlying5) h
  obtain ⟨a, n, c, rfl⟩ := okWide_slice Try.underlying52 hok
  have e : Value.slice a n c = v' := by simpa [Value.cells] using hv
  subst e
  rw [flat_one] at h1
  rw [sum_const] at h3
  exact ⟨l, h1, h2, by simp only at h3; omega⟩
end
end Go.Proofs.Ytninmkkcphnniaa
