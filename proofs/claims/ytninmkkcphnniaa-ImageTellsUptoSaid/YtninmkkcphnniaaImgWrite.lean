/- image.Bytes: the walks of the writer. -/
import Derived.Test.YtninmkkcphnniaaImgSum
import Derived.Test.YtninmkkcphnniaaSame
namespace Go.Proofs.Ytninmkkcphnniaa.Img
open Go.RowKit
set_option linter.unusedVariables false

theorem wrap_u64 (n : Int) : IntKind.u64.wrap n = n % 18446744073709551616 := by simp [IntKind.wrap, IntKind.bits, IntKind.signed]
theorem wrap_u8 (n : Int) : IntKind.u8.wrap n = n % 256 := by simp [IntKind.wrap, IntKind.bits, IntKind.signed]
theorem u64_toNat (n : Int) : ((BitVec.ofInt 64 n).toNat : Int) = n % 18446744073709551616 := by
  rw [BitVec.toNat_ofInt]
  have : (0 : Int) ≤ n % 18446744073709551616 := Int.emod_nonneg _ (by decide)
  simp
  omega

theorem xor64 (a b : Int) : bits BinOp.xor IntKind.u64 a b = ((BitVec.ofInt 64 a ^^^ BitVec.ofInt 64 b).toNat : Int) := by
  have h : (BitVec.ofInt 64 a ^^^ BitVec.ofInt 64 b).toNat < 18446744073709551616 := BitVec.isLt _
  simp only [bits]
  rw [wrap_u64]
  show (((BitVec.ofInt 64 a ^^^ BitVec.ofInt 64 b).toNat : Nat) : Int) % 18446744073709551616 = _
  omega

theorem zig_bits (z : Int) (h : ImgM.In64 z) : bits BinOp.xor IntKind.u64 (IntKind.u64.wrap (wrap64 (z * 2))) (IntKind.u64.wrap (z / 9223372036854775808)) = ((ImgM.zig z : Nat) : Int) := by
  obtain ⟨h1, h2⟩ := h
  have e : IntKind.u64.wrap (wrap64 (z * 2)) = (z * 2) % 18446744073709551616 := by
    rw [wrap_u64]; unfold wrap64; omega
  rw [e, xor64]
  by_cases hz : z < 0
  · have e2 : z / 9223372036854775808 = -1 := by omega
    rw [e2]
    have e3 : BitVec.ofInt 64 (IntKind.u64.wrap (-1)) = BitVec.allOnes 64 := by rw [wrap_u64]; rfl
    rw [e3, BitVec.xor_allOnes, BitVec.toNat_not]
    have h3 := u64_toNat (z * 2 % 18446744073709551616)
    have h4 := (BitVec.ofInt 64 (z * 2 % 18446744073709551616)).isLt
    unfold ImgM.zig
    rw [if_pos hz]
    generalize (BitVec.ofInt 64 (z * 2 % 18446744073709551616)).toNat = y at *
    simp only [Nat.reducePow] at *
    omega
  · have e2 : z / 9223372036854775808 = 0 := by omega
    rw [e2]
    have e3 : BitVec.ofInt 64 (IntKind.u64.wrap 0) = 0#64 := by rw [wrap_u64]; rfl
    rw [e3, BitVec.xor_zero, u64_toNat]
    unfold ImgM.zig
    rw [if_neg hz]
    omega

theorem or128 (y : Nat) : bits BinOp.or IntKind.u8 (IntKind.u8.wrap (y : Int)) 128 = ((y % 128 + 128 : Nat) : Int) := by
  have e : IntKind.u8.wrap (y : Int) = ((y % 256 : Nat) : Int) := by rw [wrap_u8]; omega
  rw [e]
  have := (bits_nat .u8 8 (by decide) wraps_u8 (y % 256) 128 (by omega) (by decide)).2
  refine this.trans ?_
  have key : ∀ a : Fin 256, a.val ||| 128 = a.val % 128 + 128 := by decide +kernel
  have := key ⟨y % 256, by omega⟩
  simp only at this
  rw [this]
  omega

theorem u8s_append (a b : List Nat) : u8s (a ++ b) = u8s a ++ u8s b := by simp [u8s]
theorem u8s_len (a : List Nat) : (u8s a).length = a.length := by simp [u8s]

/-- 'append(v, x, y)': what is appended lies in block B -/
theorem ownB {P : Program} {ops : Array Oper} {rest : List Oper} {o : Oper} {a : Act} {w : World} {Q : Exit → Act → World → Prop} (hgd : o.guard = none) (s x : Operand) (t : TypeId)
    (ho : o.op = .call { callee := .builtin .append, args := #[s, x], argTypes := #[t, t] })
    (base : Nat) (e : TypeId) (z : Value) (size bytes : Nat) (ht : P.underlying t = some (.slice e)) (hi : (P.info? e).map (fun i => (i.zero, i.size, i.bytes)) = some (some z, size, bytes))
    (hzs : z.cells.size = size) (hsz : 0 < size) (v : Value) (n m : Nat) (xs : List Value) (hs : a.eval s = v) (hown : Own w base e size v n xs)
    (B c : Nat) (news : List Value) (hx : a.eval x = .slice (some ⟨B, 0, none⟩) m c) (hb : Blk w B news.toArray e) (hl : news.length = m * size) (h1 : ∀ u ∈ news, u.oneCell' = true)
    (h63 : n + m ≤ maxLen) (hbytes : (n + m) * bytes ≤ 140737488355328) (hbase : base ≤ w.heap.size)
    (h : ∀ v' w', Own w' base e size v' (n + m) (xs ++ news) → Keeps (fun i => v.ownBlock = some i) w w' → (v'.ownBlock = v.ownBlock ∨ ∀ b, v'.ownBlock = some b → w.heap.size ≤ b) → wpList P ops Q rest (a.put o.dst v') w') : wpList P ops Q (o :: rest) a w :=
  wpList_plain hgd fun _ hK => wp_own_append s x t ho base e z size bytes ht hi hzs hsz v n xs hs hown ⟨B, 0, none⟩ m c news hx hl (news_blk hb) h1 h63 hbytes hbase fun v' w' h2 h3 h4 => hK _ _ (h v' w' h2 h3 h4)

theorem _root_.Go.Proofs.Ytninmkkcphnniaa.Row.keep' {w w' : World} {v : Value} {size n : Nat} {cs : List Value} (h : Row w v size n cs) {S : Nat → Prop} (k : Keeps S w w') (hs : 0 < n → ∀ b, v.ownBlock = some b → ¬ S b) : Row w' v size n cs := by
  by_cases hn : 0 < n
  · exact h.keep k (hs hn)
  · obtain ⟨h1, h2, ao, cap, rfl, h3, h4⟩ := h
    exact ⟨h1, h2, ao, cap, rfl, h3, fun h => absurd h hn⟩
theorem _root_.Go.Proofs.Ytninmkkcphnniaa.Row.lt {w : World} {v : Value} {size n : Nat} {cs : List Value} (h : Row w v size n cs) (hz : 0 < size) (hn : 0 < n) : ∀ b, v.ownBlock = some b → b < w.heap.size := by
  obtain ⟨h1, h2, ao, cap, rfl, h3, h4⟩ := h
  intro b hb
  obtain ⟨b', off, rfl, hc⟩ := h4 hn
  simp [Value.ownBlock] at hb
  subst hb
  have hp : 0 < n * size := Nat.mul_pos hn hz
  exact World.block_lt_of_cell? w _ ((hc 0 hp).trans (List.getElem?_eq_getElem (by omega)))

/-- a writer at p: what it has is its own -/
structure Wr (w : World) (p : Nat) (v : Value) (bs : List Nat) : Prop where
  box : Blk w p #[v] 80
  own : Own w (p + 1) 5 1 v bs.length (u8s bs)

theorem Wr.ne {w : World} {p : Nat} {v : Value} {bs : List Nat} (h : Wr w p v bs) : ¬ v.ownBlock = some p := fun e => by have := (h.own.lt p e).1; omega
theorem Wr.alloc {w : World} {p : Nat} {v : Value} {bs : List Nat} (h : Wr w p v bs) (o : Obj) : Wr (w.alloc o) p v bs := ⟨h.box.alloc o, h.own.alloc o⟩
theorem Wr.keep {w w' : World} {p : Nat} {v : Value} {bs : List Nat} (h : Wr w p v bs) {S : Nat → Prop} (k : Keeps S w w') (h1 : ¬ S p) (h2 : ∀ b, v.ownBlock = some b → ¬ S b) : Wr w' p v bs := ⟨h.box.keep k h1, h.own.keep k h2⟩

/-- what a writer's work leaves as it was -/
structure Fr (p : Nat) (v v' : Value) (w w' : World) : Prop where
  keeps : Keeps (fun i => i = p ∨ v.ownBlock = some i) w w'
  lies : v'.ownBlock = v.ownBlock ∨ ∀ b, v'.ownBlock = some b → w.heap.size ≤ b

theorem Fr.refl (p : Nat) (v : Value) (w : World) : Fr p v v w w := ⟨Keeps.refl _ _, .inl rfl⟩
theorem Fr.trans {p : Nat} {v v' v'' : Value} {w w' w'' : World} (h : Fr p v v' w w') (k : Fr p v' v'' w' w'') : Fr p v v'' w w'' := by
  refine ⟨h.keeps.trans k.keeps (fun i hi hs => ?_), ?_⟩
  · rcases hs with rfl | hs
    · exact .inl rfl
    · rcases h.lies with h1 | h1
      · exact .inr (by rw [← h1]; exact hs)
      · have := h1 i hs; omega
  · rcases k.lies with k1 | k1
    · rw [k1]; exact h.lies
    · exact .inr fun b hb => Nat.le_trans h.keeps.size (k1 b hb)
theorem Fr.alloc {p : Nat} {v v' : Value} {w w' : World} (h : Fr p v v' w w') (o : Obj) : Fr p v v' w (w'.alloc o) := ⟨h.keeps.alloc o, h.lies⟩
theorem Fr.drewN {p : Nat} {v v' : Value} {w w' : World} (h : Fr p v v' w w') (n : Nat) : Fr p v v' w (w'.drewN n) := ⟨h.keeps.drewN n, h.lies⟩
/-- a block that is neither the writer's nor its row's stays so -/
theorem Fr.apart {p : Nat} {v v' : Value} {w w' : World} (h : Fr p v v' w w') {b : Nat} (hb : b < w.heap.size) (hv : v.ownBlock ≠ some b) : v'.ownBlock ≠ some b := by
  intro e
  rcases h.lies with h1 | h1
  · exact hv (by rw [← h1]; exact e)
  · have := h1 b e; omega
/-- all that was there when the writer came is as it was -/
theorem Fr.nil {p : Nat} {v v' : Value} {w w' : World} {W : World} (h : Fr p v v' w w') (k : Keeps Nil W w) (hp : W.heap.size ≤ p) (hv : ∀ b, v.ownBlock = some b → p < b) : Keeps Nil W w' :=
  k.trans h.keeps (fun i hi hs => by rcases hs with rfl | hs; (omega); (have := hv i hs; omega))

/-- 'w.b = append(w.b, ..)' -/
theorem Wr.put {wr w1 w3 : World} {p : Nat} {v v1 : Value} {bs cs : List Nat} {n : Nat} (h : Wr wr p v bs) (hk1 : Keeps Nil wr w1) (ho : Own w3 (p + 1) 5 1 v1 n (u8s bs ++ u8s cs)) (hn : n = bs.length + cs.length)
    (hk : Keeps (fun i => v.ownBlock = some i) w1 w3) (ha : v1.ownBlock = v.ownBlock ∨ ∀ b, v1.ownBlock = some b → w1.heap.size ≤ b) :
    Wr (w3.setCell ⟨p, 0, none⟩ v1) p v1 (bs ++ cs) ∧ Fr p v v1 wr (w3.setCell ⟨p, 0, none⟩ v1) := by
  have hb3 := (h.box.keep hk1 (fun h => h)).keep hk h.ne
  refine ⟨⟨?_, ?_⟩, ⟨?_, ?_⟩⟩
  · exact (hb3.set 0 v1).to rfl (by simp)
  · rw [u8s_append, List.length_append, ← hn]
    exact ho.keep (S := fun i => i = p) (Keeps.setCell (S := fun i => i = p) (Keeps.refl _ _) (fun _ => rfl) _) (fun b hb e => by have := (ho.lt b hb).1; omega)
  · exact Keeps.setCell (S := fun i => i = p ∨ v.ownBlock = some i) ((hk1.mono (fun _ _ h => h.elim)).trans hk (fun i _ h => .inr h)) (fun _ => .inl rfl) _
  · rcases ha with ha | ha
    · exact .inl ha
    · exact .inr fun b hb => Nat.le_trans hk1.size (ha b hb)

set_option maxRecDepth 100000 in
set_option maxHeartbeats 1000000 in
theorem num_any (p : Nat) (v0 l : Value) (bs : List Nat) (n : Nat) (zs : List Int) (w : World) (hw : Wr w p v0 bs) (hl : Row w l 1 n (zs.map (Value.int .i64))) (hz : ∀ z ∈ zs, ImgM.In64 z)
    (hsep : 0 < n → ∀ b, l.ownBlock = some b → b ≠ p ∧ v0.ownBlock ≠ some b) (hb : bs.length + 10 * n ≤ 140737488355328) :
    Calls Try.prog 45 #[.pointer (some ⟨p, 0, none⟩), l] w fun e w' => e = .returned (.tuple #[]) ∧ ∃ v', Wr w' p v' (bs ++ ImgM.nums zs) ∧ Fr p v0 v' w w' := by
  obtain ⟨ai, ci, rfl, hci, hni⟩ := hl.shape
  have hlen : zs.length = n := by simpa using hl.1
  have HL := Lib.hid hlen
  have HS := Lib.hid hsep
  have HZ := Lib.hid hz
  clear hlen hsep hz
  go_enter Try.func45, Try.ntmps45
  go_wp2
  go_loopw [5, 6, 9] (fun _ _ i wr => ∃ (k : Nat) (v : Value), k ≤ n ∧ i = .int .i64 k ∧ Wr wr p v (bs ++ ImgM.nums (zs.take k)) ∧ Fr p v0 v w wr) (fun _ _ i _ => n - (intOf i).toNat)
  case atStart => exact ⟨0, v0, Nat.zero_le _, rfl, by simpa [ImgM.nums] using hw, Fr.refl _ _ _⟩
  case round =>
    obtain ⟨k, v, hk, rfl, hwr, hfr⟩ := hrel
    by_cases hkn : k < n
    · obtain ⟨b, o, rfl⟩ := hl.form (by omega)
      have hkz : k < zs.length := by have := HL.out; omega
      have c1 := row_ints (hl.keep hfr.keeps (fun b' hb' => by rintro (h | h); exact (HS.out (by omega) b' hb').1 h; exact (HS.out (by omega) b' hb').2 h)) k hkn
      have hzk : ImgM.In64 (zs.getD k 0) := HZ.out _ (by simp [List.getD_eq_getElem?_getD, hkz])
      have hzb := zig_bits _ hzk
      have hnt := ImgM.nums_take zs k hkz
      have hlt := ImgM.zig_lt hzk
      have hpl : (ImgM.nums (zs.take k)).length ≤ 10 * k := by
        have := ImgM.nums_len (l := zs.take k) (fun z hz => HZ.out z (List.mem_of_mem_take hz))
        have h2 : (zs.take k).length ≤ k := List.length_take_le _ _
        omega
      have hpz := ImgM.num_len hzk
      have HPZ := Lib.hid hpz
      have HNT := Lib.hid hnt
      obtain ⟨wo, rfl⟩ : ∃ wo : World, wo = wr := ⟨_, rfl⟩
      generalize zs.getD k 0 = z at *
      have HH : Hid (ImgM.num z = ImgM.leb (ImgM.zig z)) := Lib.hid rfl
      generalize ImgM.zig z = x0 at *
      generalize hpre : bs ++ ImgM.nums (zs.take k) = pre at *
      have hprel : pre.length + 10 ≤ bs.length + 10 * n := by rw [← hpre, List.length_append]; omega
      have HP := Lib.hid hpre
      clear hpre hnt hzk hpz hpl hw
      go_wp2
      clear hzb c1
      go_loopw [6] (fun x wi => ∃ (y : Nat) (q : List Nat) (v1 : Value), x = .int .u64 y ∧ y < 18446744073709551616 ∧ Hid (q ++ ImgM.leb y = ImgM.num z) ∧ Wr wi p v1 (pre ++ q) ∧ Fr p v v1 wo wi) (fun x _ => (intOf x).toNat)
      case atStart => exact ⟨x0, [], v, rfl, hlt, Lib.hid (by rw [HH.out]; rfl), by simpa using hwr, Fr.refl _ _ _⟩
      case round =>
        obtain ⟨y, q, v1, rfl, hy, hq, hwi, hfi⟩ := hrel
        have hql : q.length + 1 ≤ 10 := by
          have h1 := congrArg List.length hq.out
          have h2 := ImgM.leb_pos y
          have h3 := HPZ.out
          rw [List.length_append] at h1
          omega
        have b1 := hwi.box
        have p0 := b1.cell 0
        have p1 := b1.free 0
        have p2 := b1.lt
        have hl1 : (pre ++ q).length ≤ pre.length + 9 := by rw [List.length_append]; omega
        generalize hpq : pre ++ q = pq at *
        have HPQ := Lib.hid hpq
        clear hpq hql
        simp at p0
        by_cases hy8 : y < 128
        · have d1 : decide (128 ≤ y) = false := by simpa using hy8
          have d2 : decide ((128 : Int) ≤ (y : Int)) = false := by simp; omega
          have hlast : q ++ [y] = ImgM.num z := by rw [← hq.out, ImgM.leb_lt hy8]
          have HLA := Lib.hid hlast
          clear hlast hwr
          go_wp2_with (at_builtin; refine own1 rfl _ _ 52 rfl (p + 1) 5 (.int .u8 0) 1 1 Try.underlying52 (by kernel_rfl) rfl (by decide) v1 pq.length (u8s pq) rfl (hwi.own.alloc _) _ _ _ rfl (Blk.new' (by simp)) rfl (by simp [Value.oneCell']) (by unfold maxLen; omega) (by omega) (by simp; omega) ?_; intro v3 w3 hown3 hk3 hat3; obtain ⟨a3, k3, rfl, -⟩ := (hown3.row (by omega)).shape; have b3 := (b1.alloc (.cells #[.int .u8 (y : Int)] 5)).keep hk3 hwi.ne; have q0 := b3.cell 0; have q1 := b3.free 0; have q2 := b3.lt; simp at q0)
          go_roundw
          case rel =>
            obtain ⟨g1, g2⟩ := hwi.put (cs := [y]) ((Keeps.refl _ _).alloc _) hown3 rfl hk3 hat3
            refine ⟨k + 1, _, by omega, by go_num, ?_, hfr.trans (hfi.trans g2)⟩
            rw [HNT.out, ← List.append_assoc, HP.out, ← HLA.out, ← List.append_assoc, HPQ.out]
            exact g1
          case measure => simp [intOf]; omega
        · have d1 : decide (128 ≤ y) = true := by simp; omega
          have d2 : decide ((128 : Int) ≤ (y : Int)) = true := by simp; omega
          have hnext : (q ++ [y % 128 + 128]) ++ ImgM.leb (y / 128) = ImgM.num z := by rw [← hq.out, ImgM.leb_ge hy8]; simp
          have HNX := Lib.hid hnext
          have hor := or128 y
          rw [show IntKind.u8.wrap (y : Int) = (y : Int) % 256 from wrap_u8 _] at hor
          generalize hC : y % 128 + 128 = C at *
          have HC := Lib.hid hC
          clear hnext hwr hC
          go_wp2_with (at_builtin; refine own1 rfl _ _ 52 rfl (p + 1) 5 (.int .u8 0) 1 1 Try.underlying52 (by kernel_rfl) rfl (by decide) v1 pq.length (u8s pq) rfl (hwi.own.alloc _) _ _ _ rfl (Blk.new' (by simp)) rfl (by simp [Value.oneCell']) (by unfold maxLen; omega) (by omega) (by simp; omega) ?_; intro v3 w3 hown3 hk3 hat3; obtain ⟨a3, k3, rfl, -⟩ := (hown3.row (by omega)).shape; have b3 := (b1.alloc (.cells #[.int .u8 (C : Int)] 5)).keep hk3 hwi.ne; have q0 := b3.cell 0; have q1 := b3.free 0; have q2 := b3.lt; simp at q0)
          clear hor
          go_roundw
          case rel =>
            obtain ⟨g1, g2⟩ := hwi.put (cs := [C]) ((Keeps.refl _ _).alloc _) hown3 rfl hk3 hat3
            exact ⟨y / 128, q ++ [C], _, by simp, by omega, HNX, by rw [← List.append_assoc, HPQ.out]; exact g1, hfi.trans g2⟩
          case measure => simp [intOf]; omega
    · obtain rfl : k = n := by omega
      have e : zs.take k = zs := List.take_of_length_le (by have := HL.out; omega)
      rw [e] at hwr
      clear e
      go_wp2
      go_end0
      exact ⟨rfl, v, hwr, hfr⟩
end Go.Proofs.Ytninmkkcphnniaa.Img
