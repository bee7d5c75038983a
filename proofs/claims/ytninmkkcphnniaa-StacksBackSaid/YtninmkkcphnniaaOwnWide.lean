/- 'append' to what is the call's own, with the model's own bound on its size (2^48 bytes, as it grows). Nothing of the program stands here. -/
import Derived.Test.YtninmkkcphnniaaOwn
import Derived.Deep.DeepAppendWide
namespace Go.Proofs.Ytninmkkcphnniaa
open Go.RowKit
set_option linter.unusedVariables false

/-- where there is no room -/
theorem run_append_arg_grows_wide {P : Program} (w : World) (t ty e : TypeId) (i : TypeInfo) (z : Value) (size bytes : Nat) (ht : P.underlying t = some (.slice e)) (hi : P.info? e = some i) (hz : i.zero = some z)
    (hsize : i.size = size) (hby : i.bytes = bytes) (hzs : z.cells.size = size) (hsz : 0 < size)
    (b : Addr) (n cap : Nat) (olds : List Value) (hlo : olds.length = n * size) (holds : ∀ j u, olds[j]? = some u → w.cell? (b.add j) = some u)
    (a : Addr) (m c : Nat) (news : List Value) (hl : news.length = m * size) (hnews : ∀ j u, news[j]? = some u → w.cell? (a.add j) = some u)
    (hg : cap < n + m) (h63 : n + m ≤ maxLen) (hbytes : ((n + m) + (n + m) / 4 + 192) * bytes ≤ 281474976710656) :
    ∃ v' w', (Builtin.append_ #[t, t] ty #[.slice (some b) n cap, .slice (some a) m c]).run P w = .ok v' w' ∧ w'.ownsRow w.heap.size e size v' (n + m) (olds ++ news) ∧ w.grownBy w' none := by
  subst hsize
  subst hby
  have hsmall : n + m ≤ 9223372036854775807 := by simp only [maxLen] at h63; omega
  have hlen : (olds ++ news).length = (n + m) * i.size := by rw [List.length_append, hlo, hl, Nat.add_mul]
  have hge := grownCap_ge w (n + m) cap e
  have hcm : grownCap w (n + m) cap e ≤ maxLen := grownCap_le_maxLen w (n + m) cap e h63
  have hr := run_append_grow (P := P) w t ty e i z ht hi hz b n cap olds hlo holds a m c news hl hnews hg (by omega) (growslice_fits_wide hg hbytes)
  refine ⟨_, _, hr, ⟨hlen, .inr ⟨w.heap.size, _, _, rfl, Nat.le_refl _, heap_alloc_new w.drew _, hge, hcm, ?_, ?_⟩⟩, ⟨rfl, rfl, rfl, by simp, fun k hk _ => heap_alloc_old w.drew _ hk⟩⟩
  · simp only [Array.size_append, List.size_toArray, size_zeroCells, hzs, hlo, hl, ← Nat.add_mul]
    congr 1
    omega
  · simp only [Array.toList_append, List.append_assoc]
    rw [← List.append_assoc, ← hlen]
    exact List.take_left

/-- 'append(v, x..)', v the call's own, m elements more: some value, in some world -/
theorem run_own_append_w {P : Program} {w : World} (base : Nat) (t ty e : TypeId) (z : Value) (size bytes : Nat) (ht : P.underlying t = some (.slice e)) (hi : (P.info? e).map (fun i => (i.zero, i.size, i.bytes)) = some (some z, size, bytes))
    (hzs : z.cells.size = size) (hsz : 0 < size) (v : Value) (n : Nat) (xs : List Value) (hown : Own w base e size v n xs)
    (ad : Addr) (m c : Nat) (news : List Value) (hl : news.length = m * size) (hnews : ∀ j u, news[j]? = some u → w.cell? (ad.add j) = some u) (h1 : ∀ u ∈ news, u.oneCell' = true)
    (h63 : n + m ≤ maxLen) (hbytes : ((n + m) + (n + m) / 4 + 192) * bytes ≤ 281474976710656) (hbase : base ≤ w.heap.size) :
    ∃ v' w', (Builtin.append_ #[t, t] ty #[v, .slice (some ad) m c]).run P w = .ok v' w' ∧ Own w' base e size v' (n + m) (xs ++ news) ∧ Keeps (fun i => v.ownBlock = some i) w w' ∧ (v'.ownBlock = v.ownBlock ∨ ∀ b, v'.ownBlock = some b → w.heap.size ≤ b) := by
  obtain ⟨i, hi0, hi1, hi2, hi3⟩ := info_parts hi
  obtain ⟨g1, ao, cap, rfl, g2, g3, g4, g5⟩ := hown
  have fresh : ∀ v' w', w'.ownsRow w.heap.size e size v' (n + m) (xs ++ news) → w.grownBy w' none →
      Own w' base e size v' (n + m) (xs ++ news) ∧ Keeps (fun i => (Value.slice ao n cap).ownBlock = some i) w w' ∧ (v'.ownBlock = (Value.slice ao n cap).ownBlock ∨ ∀ b, v'.ownBlock = some b → w.heap.size ≤ b) := by
    intro v' w' h2 h3
    refine ⟨(Own.of_row h2).mono hbase, (Keeps.of_grown h3).mono (fun i _ h => by cases h), .inr fun b hb => (h2.lt b hb).1⟩
  cases ao with
  | none =>
    obtain rfl := g4 rfl
    obtain rfl : n = 0 := by omega
    obtain rfl : xs = [] := List.eq_nil_of_length_eq_zero (by simpa using g1)
    obtain ⟨v', w', hr, h2, h3, _⟩ := run_append_own_wide (P := P) w w.heap.size t ty e i z size bytes ht hi0 hi1 hi2 hi3 hzs hsz (.slice none 0 0) 0 [] (World.ownsRow_nil w _ e size) ad m c news hl hnews h1 h63 hbytes (Nat.le_refl _)
    exact ⟨v', w', hr, fresh v' w' h2 h3⟩
  | some a0 =>
    obtain ⟨g6, g7, cur, g8, g9, g10⟩ := g5 a0 rfl
    obtain ⟨b, off, spot⟩ := a0
    simp only at g6; subst g6
    have g8' : Blk w b cur e := g8
    simp only at g9 g10
    have holds : ∀ j u, xs[j]? = some u → w.cell? ((⟨b, off, none⟩ : Addr).add j) = some u := by
      intro j u hj
      have hjl : j < xs.length := (List.getElem?_eq_some_iff.1 hj).1
      rw [Addr.add_lit, g8'.cell]
      rw [← g10, List.getElem?_take, if_pos (by omega), List.getElem?_drop] at hj
      simpa using hj
    by_cases hroom : n + m ≤ cap
    · subst hi2
      have hmul : (n + m) * i.size ≤ cap * i.size := Nat.mul_le_mul_right _ hroom
      rw [Nat.add_mul] at hmul
      have hr := run_append_room_cells (P := P) w t ty e i ht hi0 b off n cap ad m c news hl hnews h1 hroom
        (fun j hj => by rw [g8'.cell]; simp; omega) (fun j hj => g8'.free _)
      refine ⟨_, _, hr, ⟨by rw [List.length_append, g1, hl, Nat.add_mul], some ⟨b, off, none⟩, cap, rfl, hroom, g3, (fun h => by cases h), ?_⟩, Keeps.setCells _ _ (Keeps.refl _ _) (fun _ => rfl), .inl rfl⟩
      intro ad' had'
      cases had'
      have hs := Blk.setCells news (off + n * i.size) g8' (by omega)
      refine ⟨rfl, g7, _, hs, ?_, ?_⟩
      · simp only [List.size_toArray, List.length_append, List.length_take, List.length_drop, Array.length_toList]; omega
      · have hx : (cur.toList.take (off + n * i.size)).drop off = xs := by
          rw [← g10, List.take_drop, Nat.add_comm]
        have hxl : (cur.toList.take (off + n * i.size)).length = off + n * i.size := by simp; omega
        simp only [List.append_assoc]
        rw [List.drop_append_of_le_length (by omega), hx, ← List.append_assoc]
        rw [List.take_append_of_le_length (by simp only [List.length_append, g1, hl, Nat.add_mul]; omega)]
        exact List.take_of_length_le (by simp only [List.length_append, g1, hl, Nat.add_mul]; omega)
    · obtain ⟨v', w', hr, h2, h3⟩ := run_append_arg_grows_wide (P := P) w t ty e i z size bytes ht hi0 hi1 hi2 hi3 hzs hsz ⟨b, off, none⟩ n cap xs g1 holds ad m c news hl hnews (by omega) h63 hbytes
      exact ⟨v', w', hr, fresh v' w' h2 h3⟩

theorem wp_own_append_w {P : Program} {o : Oper} {a : Act} {w : World} {K : Act → World → Prop} {Q : Exit → Act → World → Prop} (s x : Operand) (t : TypeId)
    (ho : o.op = .call { callee := .builtin .append, args := #[s, x], argTypes := #[t, t] })
    (base : Nat) (e : TypeId) (z : Value) (size bytes : Nat) (ht : P.underlying t = some (.slice e)) (hi : (P.info? e).map (fun i => (i.zero, i.size, i.bytes)) = some (some z, size, bytes))
    (hzs : z.cells.size = size) (hsz : 0 < size) (v : Value) (n : Nat) (xs : List Value) (hs : a.eval s = v) (hown : Own w base e size v n xs)
    (ad : Addr) (m c : Nat) (news : List Value) (hx : a.eval x = .slice (some ad) m c) (hl : news.length = m * size) (hnews : ∀ j u, news[j]? = some u → w.cell? (ad.add j) = some u) (h1 : ∀ u ∈ news, u.oneCell' = true)
    (h63 : n + m ≤ maxLen) (hbytes : ((n + m) + (n + m) / 4 + 192) * bytes ≤ 281474976710656) (hbase : base ≤ w.heap.size)
    (h : ∀ v' w', Own w' base e size v' (n + m) (xs ++ news) → Keeps (fun i => v.ownBlock = some i) w w' → (v'.ownBlock = v.ownBlock ∨ ∀ b, v'.ownBlock = some b → w.heap.size ≤ b) → K (a.put o.dst v') w') : o.wp P a w K Q := by
  obtain ⟨v', w', hr, h2, h3, h4⟩ := run_own_append_w (P := P) (w := w) base t o.type e z size bytes ht hi hzs hsz v n xs hown ad m c news hl hnews h1 h63 hbytes hbase
  unfold Oper.wp execOp
  simp only [ho, resolve, invoke, builtin, Sem.run_bind, Sem.run_pure, Result.andThen_ok, List.map_toArray, List.map_cons, List.map_nil, hs, hx, hr]
  exact h v' w' h2 h3 h4

/-- 'v = append(v, x)' for the walk: x lies in block B (that 'buildSlice' has laid) -/
theorem own1w {P : Program} {ops : Array Oper} {rest : List Oper} {o : Oper} {a : Act} {w : World} {Q : Exit → Act → World → Prop} (hgd : o.guard = none) (s x : Operand) (t : TypeId)
    (ho : o.op = .call { callee := .builtin .append, args := #[s, x], argTypes := #[t, t] })
    (base : Nat) (e : TypeId) (z : Value) (size bytes : Nat) (ht : P.underlying t = some (.slice e)) (hi : (P.info? e).map (fun i => (i.zero, i.size, i.bytes)) = some (some z, size, bytes))
    (hzs : z.cells.size = size) (hsz : 0 < size) (v : Value) (n : Nat) (xs : List Value) (hs : a.eval s = v) (hown : Own w base e size v n xs)
    (B c : Nat) (news : List Value) (hx : a.eval x = .slice (some ⟨B, 0, none⟩) 1 c) (hb : Blk w B news.toArray e) (hl : news.length = size) (h1 : ∀ u ∈ news, u.oneCell' = true)
    (h63 : n + 1 ≤ maxLen) (hbytes : ((n + 1) + (n + 1) / 4 + 192) * bytes ≤ 281474976710656) (hbase : base ≤ w.heap.size)
    (h : ∀ v' w', Own w' base e size v' (n + 1) (xs ++ news) → Keeps (fun i => v.ownBlock = some i) w w' → (v'.ownBlock = v.ownBlock ∨ ∀ b, v'.ownBlock = some b → w.heap.size ≤ b) → wpList P ops Q rest (a.put o.dst v') w') : wpList P ops Q (o :: rest) a w :=
  wpList_plain hgd fun _ hK => wp_own_append_w s x t ho base e z size bytes ht hi hzs hsz v n xs hs hown ⟨B, 0, none⟩ 1 c news hx (by rw [hl]; omega) (news_blk hb) h1 h63 hbytes hbase fun v' w' h2 h3 h4 => hK _ _ (h v' w' h2 h3 h4)

end Go.Proofs.Ytninmkkcphnniaa
