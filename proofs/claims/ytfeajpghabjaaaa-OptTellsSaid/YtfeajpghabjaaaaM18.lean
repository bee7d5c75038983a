/- verify's flow, walked: going to a place. -/
import Derived.Test.YtfeajpghabjaaaaM17
namespace Go.Proofs.Ytfeajpghabjaaaa.Vw
open Go.RowKit Go.Proofs.Ytfeajpghabjaaaa.Img
set_option linter.unusedVariables false
set_option linter.unusedSimpArgs false
attribute [local irreducible] Run Cod End OpT Still RunQ RunS RunT Fn PutOk

/-- where what is known lies -/
abbrev shC (x : SH) : List Chunk := [arr x.so x.st.length x.sc 3 i64c x.st, arr x.ho x.hs.length x.hc 4 boolc x.hs]
def inner (l : List (Int × SH)) : List Chunk := l.flatMap fun p => shC p.2
/-- all of a flow -/
abbrev fa (fb cb ab : Nat) (u : Value) (r : FR) (s : FS) : List Chunk :=
  [blk fb (fcells cb ab u r s) 93, arr s.so s.st.length s.sc 3 i64c s.st, arr r.to_ r.todo.length r.tc 3 i64c r.todo, arr r.ho r.has.length r.hc 4 boolc r.has, mp ab shV r.ents, bag (inner r.ents)]
theorem mfind_at (l : List (Int × SH)) (k : Int) : Ver.find (l.map fun p => (p.1, (p.2.st, p.2.hs))) k = (mfind l k).map fun x => (x.st, x.hs) := by
  induction l with
  | nil => rfl
  | cons a l ih =>
    obtain ⟨q, x⟩ := a
    by_cases h : q = k
    · simp [Ver.find, mfind, h]
    · have e1 : mfind ((q, x) :: l) k = mfind l k := by simp [mfind, h]
      rw [e1, ← ih]
      simp [Ver.find, h]
theorem mput_at (l : List (Int × SH)) (k : Int) (y : SH) : (mput l k y).map (fun p => (p.1, (p.2.st, p.2.hs))) = Ver.put (l.map fun p => (p.1, (p.2.st, p.2.hs))) k (y.st, y.hs) := by
  induction l with
  | nil => rfl
  | cons a l ih =>
    obtain ⟨q, x⟩ := a
    simp only [mput, List.map_cons, Ver.put]
    by_cases h : q = k
    · simp [h]
    · simp [h, ih]
def mdel : List (Int × SH) → Int → List (Int × SH)
  | [], _ => []
  | (q, a) :: r, k => if q = k then r else (q, a) :: mdel r k
theorem inner_cons (a : Int × SH) (l : List (Int × SH)) : inner (a :: l) = shC a.2 ++ inner l := by simp [inner]
theorem inner_put (l : List (Int × SH)) (k : Int) (y : SH) (x : SH) (h : mfind l k = some x) : (inner (mput l k y)).Perm (shC y ++ inner (mdel l k)) := by
  induction l with
  | nil => cases h
  | cons a l ih =>
    obtain ⟨q, b⟩ := a
    unfold mput mdel
    unfold mfind at h
    by_cases hq : q = k
    · simp only [hq, if_true, inner_cons]
      exact List.Perm.refl _
    · simp only [hq, if_false] at h ⊢
      rw [inner_cons, inner_cons]
      exact ((ih h).append_left _).trans (List.perm_append_comm_assoc _ _ _)
theorem mput_same (l : List (Int × SH)) (k : Int) (x : SH) (h : mfind l k = some x) : mput l k x = l := by
  induction l with
  | nil => cases h
  | cons a l ih =>
    obtain ⟨q, b⟩ := a
    unfold mput
    unfold mfind at h
    by_cases hq : q = k
    · simp only [hq, if_true] at h ⊢
      cases h; rfl
    · simp only [hq, if_false] at h ⊢
      rw [ih h]
theorem mput_val (l : List (Int × SH)) (k : Int) (x y : SH) (h : mfind l k = some x) (e : shV y = shV x) : l.map (fun p => (Value.int .i64 p.1, shV p.2)) = (mput l k y).map (fun p => (Value.int .i64 p.1, shV p.2)) := by
  induction l with
  | nil => cases h
  | cons a l ih =>
    obtain ⟨q, b⟩ := a
    unfold mput
    unfold mfind at h
    by_cases hq : q = k
    · simp only [hq, if_true] at h ⊢
      cases h
      simp [e]
    · simp only [hq, if_false] at h ⊢
      simp [ih h]
theorem inner_mem (l : List (Int × SH)) (k : Int) (x : SH) (h : mfind l k = some x) : ∀ c ∈ shC x, c ∈ inner l := by
  intro c hc
  have := inner_put l k x x h
  rw [mput_same l k x h] at this
  exact this.mem_iff.2 (List.mem_append_left _ hc)
theorem inner_new (l : List (Int × SH)) (k : Int) (y : SH) (h : mfind l k = none) : inner (mput l k y) = inner l ++ shC y := by
  rw [mput_new k y l h]
  simp [inner]
theorem meet_len : ∀ (a b : List Bool), a.length = b.length → (Ver.meet a b).length = a.length
  | [], _, _ => by cases ‹List Bool› <;> rfl
  | _ :: _, [], h => by cases h
  | x :: a, y :: b, h => by simp [Ver.meet, meet_len a b (by simpa using h)]
theorem meet_at : ∀ (a b : List Bool) (k : Nat), k < a.length → a.length = b.length → (Ver.meet a b).getD k default = (a.getD k default && b.getD k default)
  | [], _, k, h, _ => by simp at h
  | _ :: _, [], _, _, h => by cases h
  | x :: a, y :: b, 0, _, _ => rfl
  | x :: a, y :: b, k + 1, h, h2 => by
    have := meet_at a b k (by simpa using h) (by simpa using h2)
    simpa [Ver.meet] using this

theorem End.bagNew {Q : Exit → Act → World → Prop} {N : Nat} {E : Env} {e : Exit} {cs cs' ds L L' F : List Chunk} (hin : cs' = cs ++ ds) (t : Take (bag cs) L L') (t2 : Takes ds L' F) (hx : ∀ c ∈ ds, c.excl = true) (h : End Q N e E (bag cs' :: F)) : End Q N e E L :=
  End.imp (fun w hm => hin ▸ Mem.bagAdd hm t t2 hx) h
theorem End.bagBack {Q : Exit → Act → World → Prop} {N : Nat} {E : Env} {e : Exit} {cs ds es L L' F : List Chunk} (p : cs.Perm (ds ++ es)) (t : Take (bag es) L L') (t2 : Takes ds L' F) (hx : ∀ c ∈ ds, c.excl = true) (h : End Q N e E (bag cs :: F)) : End Q N e E L :=
  End.imp (fun w hm => Mem.bagIn hm t t2 p hx) h
theorem Cod.bagOut {P : Program} {Q : Exit → Act → World → Prop} {N : Nat} {E : Env} {c : Code} {cs ds es L L' : List Chunk} (p : cs.Perm (ds ++ es)) (t : Take (bag cs) L L') (h : Cod P Q N c E (ds ++ (bag es :: L'))) : Cod P Q N c E L :=
  Cod.imp (fun w hm => Mem.bagOut hm t p) h
theorem list_extB {l l' : List Bool} (n : Nat) (hn : l.length = n) (hm : l'.length = n) (h : ∀ j, j < n → l.getD j default = l'.getD j default) : l = l' :=
  List.ext_getElem (by omega) (fun j h1 h2 => by have := h j (by omega); simpa [List.getD_eq_getElem?_getD, h1, h2] using this)
theorem getD_set {l : List Bool} {k j : Nat} {v : Bool} (hk : k < l.length) : (l.set k v).getD j default = if j = k then v else l.getD j default := by
  simp only [List.getD_eq_getElem?_getD, List.getElem?_set]
  by_cases h : k = j
  · subst h; simp [hk]
  · rw [if_neg h, if_neg (fun h' => h h'.symm)]
/-- where the loop over the locals stands -/
structure MeetOk (a b : List Bool) (s : Nat × List Bool × Bool) : Prop where
  le : s.1 ≤ a.length
  len : s.2.1.length = a.length
  done : ∀ j, j < s.1 → s.2.1.getD j default = (a.getD j default && b.getD j default)
  rest : ∀ j, s.1 ≤ j → s.2.1.getD j default = a.getD j default
  less : (s.2.2 = false ∧ s.2.1 = a) ∨ (s.2.2 = true ∧ s.2.1 ≠ a)
theorem MeetOk.start (a b : List Bool) : MeetOk a b (0, a, false) := ⟨by simp, rfl, fun j h => by simp at h, fun j h => rfl, .inl ⟨rfl, rfl⟩⟩
theorem MeetOk.fin {a b : List Bool} {k : Nat} {l : List Bool} {t : Bool} (h : MeetOk a b (k, l, t)) (hk : ¬ k < a.length) (hab : a.length = b.length) : l = Ver.meet a b := by
  have h1 := h.len
  simp only at h1
  exact list_extB a.length h1 (meet_len a b hab) (fun j hj => by rw [meet_at a b j hj hab]; exact h.done j (by simp only; omega))
theorem MeetOk.set {a b : List Bool} {k : Nat} {l : List Bool} {t : Bool} (h : MeetOk a b (k, l, t)) (hk : k < a.length) (h1 : l.getD k default = true) (h2 : b.getD k default = false) : MeetOk a b (k + 1, l.set k false, true) := by
  have hl := h.len
  have hr := h.rest k (Nat.le_refl _)
  simp only at hl hr
  refine ⟨hk, by simp [hl], fun j hj => ?_, fun j hj => ?_, .inr ⟨rfl, fun e => ?_⟩⟩
  · simp only at hj ⊢
    rw [getD_set (by omega)]
    by_cases hjk : j = k
    · subst hjk; rw [if_pos rfl, h2]; simp
    · rw [if_neg hjk]; exact h.done j (by simp only; omega)
  · simp only at hj ⊢
    rw [getD_set (by omega), if_neg (by omega)]
    exact h.rest j (by simp only; omega)
  · have := congrArg (fun x => x.getD k default) e
    simp only at this
    rw [getD_set (by omega), if_pos rfl, ← hr, h1] at this
    cases this
theorem MeetOk.skip {a b : List Bool} {k : Nat} {l : List Bool} {t : Bool} (h : MeetOk a b (k, l, t)) (hk : k < a.length) (h1 : ¬(l.getD k default = true ∧ b.getD k default = false)) : MeetOk a b (k + 1, l, t) := by
  have hr := h.rest k (Nat.le_refl _)
  simp only at hr
  refine ⟨hk, h.len, fun j hj => ?_, fun j hj => h.rest j (by simp only at hj ⊢; omega), h.less⟩
  simp only at hj ⊢
  by_cases hjk : j = k
  · subst hjk
    rw [hr] at h1 ⊢
    cases ha : a.getD j default <;> cases hb : b.getD j default <;> simp_all
  · exact h.done j (by simp only; omega)

set_option maxRecDepth 100000 in
theorem to_is (fb cb ab : Nat) (m : ML) (q : Nat) (hq : q < m.us.length) (r : FR) (z : FS) (p : Int) (hl : z.st.length ≤ 1000) (hh : r.has.length ≤ 1000) (hto : r.todo.length ≤ 1000000000)
    (hent : ∀ x, mfind r.ents p = some x → x.st.length ≤ 1000 ∧ x.hs.length = r.has.length) :
    Fn Try.prog 40 #[ptr fb, .int .i64 p] [md m] (fa fb cb ab (up m q) r z) (σ := FR × FS) (fun s => flow s.1 s.2 = Ver.to (m.us.getD q default).u.code.length p (flow r z)) (fun _ => .tuple #[]) (fun s => fa fb cb ab (up m q) s.1 s.2) := by
  obtain ⟨F, hF⟩ : ∃ F, F = Ver.to (m.us.getD q default).u.code.length p (flow r z) := ⟨_, rfl⟩
  rw [← hF]
  unfold Ver.to at hF
  refine Fn.enter (args := [ptr fb, .int .i64 p]) Try.func40 rfl _ Try.ntmps40 rfl (by simp [rd_excl, md_excl]) (fun w S => ?_)
  (try conv => rhs; simp only [List.cons_append, List.nil_append])
  by_cases he : z.err = 0
  · rw [if_neg (fun h => h he)] at hF
    by_cases hp : p = ((m.us.getD q default).u.code.length : Int)
    · rw [if_pos hp] at hF
      repeat (first | refine go (k := ?_) | (refine goB (k := ?_); intro b) | (refine goA (k := ?_); intro ao cap))
      ((first | (apply Run.op; exact rfl) | refine Run.yes_ (h := ?_)); refine OpT.call0_ (spec := fail_is fb cb ab (up m q) r z 3) (t := by (repeat (first | exact Takes.nil | exact Take.head | (refine Take.blkEq ?_; (focus (first | rfl | (simp; done) | (simp; omega) | omega | (simp [*]; done)))) | (refine Take.arrEq ?_ ?_; (focus (first | rfl | (simp; done) | (simp; omega) | omega | (simp [*]; done))); (focus (first | rfl | (simp; done) | (simp; omega) | omega | (simp [*]; done)))) | apply Take.tail | apply Takes.cons))) (k := ?_); intro s hs; (try conv => rhs; simp only [List.cons_append, List.nil_append]))
      repeat (first | refine go (k := ?_) | (refine goB (k := ?_); intro b) | (refine goA (k := ?_); intro ao cap))
      (refine End.done0_ ((r, failE 3 z)) (hp := ?_))
      rw [hF]
      exact flow_fail r z 3
    · rw [if_neg hp] at hF
      have hfd : Ver.find (flow r z).at_ p = (mfind r.ents p).map fun x => (x.st, x.hs) := mfind_at r.ents p
      rw [hfd] at hF
      cases hm : mfind r.ents p with
      | none =>
        rw [hm] at hF
        simp only [Option.map_none] at hF
        repeat (first | refine go (k := ?_) | (refine goB (k := ?_); intro b) | (refine goA (k := ?_); intro ao cap))
        apply Cod.draw 10 ([blk fb (fcells cb ab (up m q) r z) 93]) (by kernel_rfl) 11 rfl
        refine RunT.takeR_ 0 (h := ?_)
        refine RunT.takeR_ 1 (h := ?_)
        refine RunT.takeR_ 2 (h := ?_)
        refine RunT.takeR_ 3 (h := ?_)
        refine RunT.takeR_ 4 (h := ?_)
        refine RunT.takeR_ 5 (h := ?_)
        refine RunT.takeR_ 6 (h := ?_)
        refine RunT.takeR_ 7 (h := ?_)
        refine RunT.takeR_ 8 (h := ?_)
        (refine RunT.one_ 9 (h := ?_); refine OpT.call0_ (spec := copied_is ⟨z.st, z.so, z.sc, r.has, r.ho, r.hc⟩ (by show z.st.length ≤ 1000000; omega) (by show r.has.length ≤ 1000000; omega)) (k := ?_); intro s hs; refine And.intro gud ?_; (try conv => rhs; simp only [List.cons_append, List.nil_append]))
        (refine RunT.one_ 10 (h := ?_); refine OpT.mapUpdate_ (a := s) (k := ?_); refine And.intro gud ?_; (try conv => rhs; simp only [List.cons_append, List.nil_append]))
        (apply RunT.done; kernel_rfl)
        repeat (first | refine go (k := ?_) | (refine goB (k := ?_); intro b) | (refine goA (k := ?_); intro ao cap))
        obtain ⟨hs1, hs2⟩ := hs
        simp only at hs1 hs2
        apply End.bagNew (inner_new r.ents p s hm) tk tks (by simp [arr_excl])
        (refine End.done0_ (({ r with ents := mput r.ents p s, todo := r.todo ++ [p], to_ := ao, tc := cap }, z)) (ht := by (repeat (first | exact Takes.nil | exact Take.head | (refine Take.blkEq ?_; (focus (first | rfl | (simp; done) | (simp; omega) | omega | (simp [*]; done)))) | (refine Take.arrEq ?_ ?_; (focus (first | rfl | (simp; done) | (simp; omega) | omega | (simp [*]; done))); (focus (first | rfl | (simp; done) | (simp; omega) | omega | (simp [*]; done)))) | apply Take.tail | apply Takes.cons))) (hp := ?_))
        have hmp := mput_new p s r.ents hm
        rw [hF]
        simp [flow, FR.at_, hmp, hs1, hs2]
      | some x =>
        rw [hm] at hF
        simp only [Option.map_some] at hF
        obtain ⟨hx1, hx2⟩ := hent x hm
        have hmem := inner_mem r.ents p x hm
        have hm1 : arr x.so x.st.length x.sc 3 i64c x.st ∈ inner r.ents := hmem _ (by simp)
        repeat (first | refine go (k := ?_) | (refine goB (k := ?_); intro b) | (refine goA (k := ?_); intro ao cap))
        (apply Run.op; exact rfl; refine OpT.call0_ (spec := equal_is x.so z.so _ _ _ _ x.st z.st rfl rfl (by omega) (by omega)) (k := ?_); intro s hs; (try conv => rhs; simp only [List.cons_append, List.nil_append]))
        by_cases hst : x.st = z.st
        · have hd : decide (x.st = z.st) = true := decide_eq_true hst
          rw [if_neg (show ¬ x.st ≠ (flow r z).stack from fun h => h hst)] at hF
          have hpm := inner_put r.ents p x x hm
          rw [mput_same r.ents p x hm] at hpm
          repeat (first | refine go (k := ?_) | (refine goB (k := ?_); intro b) | (refine goA (k := ?_); intro ao cap))
          apply Cod.bagOut hpm tk
          apply Cod.loop (σ := Nat × List Bool × Bool) (MeetOk x.hs r.has) (fun s => [(0, ptr fb), (1, .int .i64 p), (4, ptr b), (6, .bool s.2.2), (69, .int .i64 (x.hs.length : Int)), (70, .int .i64 (s.1 : Int))]) (fun s => [old w S, md m, blk fb (fcells cb ab (up m q) r z) 93, arr z.so z.st.length z.sc 3 i64c z.st, arr r.to_ r.todo.length r.tc 3 i64c r.todo, arr r.ho r.has.length r.hc 4 boolc r.has, mp ab shV r.ents, bag (inner (mdel r.ents p)), arr x.so x.st.length x.sc 3 i64c x.st, arr x.ho x.hs.length x.hc 4 boolc s.2.1, blk b [.slice x.so x.st.length x.sc, .slice x.ho x.hs.length x.hc] 91]) (fun s => x.hs.length - s.1) (0, x.hs, false)
          rotate_left
          exact sb
          exact tks
          intro s hs KM hKM
          (try conv => rhs; simp only [List.cons_append, List.nil_append])
          rotate_left
          · exact MeetOk.start _ _
          obtain ⟨k, l, t⟩ := s
          have hle := hs.le
          simp only at hle hKM ⊢
          by_cases hk : k < x.hs.length
          · by_cases hb : l.getD k default = true ∧ r.has.getD k default = false
            · obtain ⟨hb1, hb2⟩ := hb
              repeat (first | refine go (k := ?_) | (refine goB (k := ?_); intro b) | (refine goA (k := ?_); intro ao cap))
              apply Run.op (by exact rfl)
              refine OpT.storeE_ (a' := false) (k := ?_)
              repeat (first | refine go (k := ?_) | (refine goB (k := ?_); intro b) | (refine goA (k := ?_); intro ao cap))
              refine End.round0_ hKM (k + 1, l.set k false, true) ?_ ?_
              · exact hs.set hk hb1 hb2
              · simp only; omega
            · cases hb1 : l.getD k default with
              | false =>
                repeat (first | refine go (k := ?_) | (refine goB (k := ?_); intro b) | (refine goA (k := ?_); intro ao cap))
                refine End.round0_ hKM (k + 1, l, t) ?_ ?_
                · exact hs.skip hk hb
                · simp only; omega
              | true =>
                have hb2 : r.has.getD k default = true := by cases h : r.has.getD k default <;> simp_all
                repeat (first | refine go (k := ?_) | (refine goB (k := ?_); intro b) | (refine goA (k := ?_); intro ao cap))
                refine End.round0_ hKM (k + 1, l, t) ?_ ?_
                · exact hs.skip hk hb
                · simp only; omega
          · have hfin := hs.fin hk hx2
            have hless := hs.less
            simp only at hless
            rw [show Ver.meet x.hs (flow r z).has = l from hfin.symm] at hF
            clear hs
            rcases hless with ⟨rfl, rfl⟩ | ⟨rfl, hne⟩
            · rw [if_pos rfl] at hF
              repeat (first | refine go (k := ?_) | (refine goB (k := ?_); intro b) | (refine goA (k := ?_); intro ao cap))
              apply End.bagBack hpm tk tks (by simp [arr_excl])
              (refine End.done0'_ ((r, z)) (hp := ?_))
              rw [hF]
            · rw [if_neg hne] at hF
              have hll : l.length = x.hs.length := by rw [hfin]; exact meet_len _ _ hx2
              have hpy := inner_put r.ents p ⟨x.st, x.so, x.sc, l, x.ho, x.hc⟩ x hm
              have hsv : shV ⟨x.st, x.so, x.sc, l, x.ho, x.hc⟩ = shV x := by unfold shV; simp only [hll]
              have hmv := mput_val r.ents p x ⟨x.st, x.so, x.sc, l, x.ho, x.hc⟩ hm hsv
              repeat (first | refine go (k := ?_) | (refine goB (k := ?_); intro b) | (refine goA (k := ?_); intro ao cap))
              apply End.imp (fun w hm' => mp_congr hm' tk hmv)
              apply End.bagBack hpy tk (by (repeat (first | exact Takes.nil | exact Take.head | (refine Take.blkEq ?_; (focus (first | rfl | (simp; done) | (simp; omega) | omega | (simp [*]; done)))) | (refine Take.arrEq ?_ ?_; (focus (first | rfl | (simp; done) | (simp; omega) | omega | (simp [*]; done))); (focus (first | rfl | (simp; done) | (simp; omega) | omega | (simp [*]; done)))) | apply Take.tail | apply Takes.cons))) (by simp [arr_excl])
              (refine End.done0'_ (({ r with ents := mput r.ents p ⟨x.st, x.so, x.sc, l, x.ho, x.hc⟩, todo := r.todo ++ [p], to_ := ao, tc := cap }, z)) (ht := by (repeat (first | exact Takes.nil | exact Take.head | (refine Take.blkEq ?_; (focus (first | rfl | (simp; done) | (simp; omega) | omega | (simp [*]; done)))) | (refine Take.arrEq ?_ ?_; (focus (first | rfl | (simp; done) | (simp; omega) | omega | (simp [*]; done))); (focus (first | rfl | (simp; done) | (simp; omega) | omega | (simp [*]; done)))) | apply Take.tail | apply Takes.cons))) (hp := ?_))
              rw [hF]
              simp only [flow, FR.at_, mput_at]
        · have hd : decide (x.st = z.st) = false := decide_eq_false hst
          rw [if_pos (show x.st ≠ (flow r z).stack from hst)] at hF
          repeat (first | refine go (k := ?_) | (refine goB (k := ?_); intro b) | (refine goA (k := ?_); intro ao cap))
          ((first | (apply Run.op; exact rfl) | refine Run.yes_ (h := ?_)); refine OpT.call0_ (spec := fail_is fb cb ab (up m q) r z 8) (t := by (repeat (first | exact Takes.nil | exact Take.head | (refine Take.blkEq ?_; (focus (first | rfl | (simp; done) | (simp; omega) | omega | (simp [*]; done)))) | (refine Take.arrEq ?_ ?_; (focus (first | rfl | (simp; done) | (simp; omega) | omega | (simp [*]; done))); (focus (first | rfl | (simp; done) | (simp; omega) | omega | (simp [*]; done)))) | apply Take.tail | apply Takes.cons))) (k := ?_); intro s hs; (try conv => rhs; simp only [List.cons_append, List.nil_append]))
          repeat (first | refine go (k := ?_) | (refine goB (k := ?_); intro b) | (refine goA (k := ?_); intro ao cap))
          (refine End.done0_ ((r, failE 8 z)) (hp := ?_))
          rw [hF]
          exact flow_fail r z 8
  · rw [if_pos (show (flow r z).err ≠ 0 from he)] at hF
    repeat (first | refine go (k := ?_) | (refine goB (k := ?_); intro b) | (refine goA (k := ?_); intro ao cap))
    (refine End.done0_ ((r, z)) (hp := ?_))
    rw [hF]
end Go.Proofs.Ytfeajpghabjaaaa.Vw
