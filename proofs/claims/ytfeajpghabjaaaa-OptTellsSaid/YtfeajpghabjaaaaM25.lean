/- yieldref14's Once, walked. -/
import Derived.Test.YtfeajpghabjaaaaM24
import Derived.Laws.IdiomStrings
import Derived.Laws.Strings3
import Derived.Laws.Concat
import Derived.Laws.StructEq
namespace Go.Proofs.Ytfeajpghabjaaaa.Vw
open Go.RowKit Go.Proofs.Ytfeajpghabjaaaa.Img
set_option linter.unusedVariables false
set_option linter.unusedSimpArgs false
attribute [local irreducible] Run Cod End OpT Still RunQ RunS RunT Fn PutOk
theorem pstep_em (l : List ImgM.Ins) (s : Opt.PS) : (Opt.pstep l s).p = Opt.nx l s.p ∧ (Opt.pstep l s).out = s.out ++ Opt.em l s.p ∧ (Opt.pstep l s).did = (s.did || decide ((Opt.shorter l s.p).2 ≠ 0)) := ⟨Opt.pstep_p l s, Opt.pstep_out l s, Opt.pstep_did l s⟩
set_option maxRecDepth 100000 in
set_option maxHeartbeats 2000000 in
theorem once14_is (lo : Option Addr) (n lc : Nat) (l : List ImgM.Ins) (hn : l.length = n) (hm : n ≤ 100000) (hl : In64s l) (hj : Jumps l) (hb : Bits l) :
    Fn Try.prog 20 #[.slice lo n lc] [rd lo n lc insC l] [] (σ := Option Addr × Nat) (fun _ => True) (fun s => .tuple #[.slice s.1 (Opt.pass l).1.length s.2, .bool (Opt.pass l).2]) (fun s => [arr s.1 (Opt.pass l).1.length s.2 57 insC (Opt.pass l).1]) := by
  refine Fn.enter (args := [.slice lo n lc]) Try.func20 rfl _ Try.ntmps20 rfl (by simp [rd_excl, md_excl]) (fun w S => ?_)
  (try conv => rhs; simp only [List.cons_append, List.nil_append])
  subst hn
  repeat (first | refine go (k := ?_) | (refine goB (k := ?_); intro b) | (refine goA (k := ?_); intro ao cap))
  apply Cod.imp (fun w hm => (hm.nilArr 57 insC).toArr (.tail .head) ([] : List Nat) (f := natC) rfl rfl (by unfold maxLen; simp))
  obtain ⟨ob, rfl⟩ : ∃ x, x = b := ⟨_, rfl⟩
  refine Cod.only ((fun s : Opt.PS × Option Addr × Nat × List Nat × Option Addr × Nat => [old w S, rd lo l.length lc insC l, arr s.2.1 s.1.out.length s.2.2.1 57 insC s.1.out, arr s.2.2.2.2.1 s.1.out.length s.2.2.2.2.2 3 natC s.2.2.2.1]) ((⟨0, [], List.replicate (l.length + 1) 0, false⟩ : Opt.PS), none, 0, [], some ⟨ob, 0, none⟩, 0)) (by (repeat (first | exact Takes.nil | exact Take.head | apply Take.tail | apply Takes.cons))) ?_
  apply Cod.loop (σ := Opt.PS × Option Addr × Nat × List Nat × Option Addr × Nat) (fun s => OInv l s.1 s.2.2.2.1) (fun s => [(0, .slice lo l.length lc), (4, .slice s.2.1 s.1.out.length s.2.2.1), (5, .slice s.2.2.2.2.1 s.1.out.length s.2.2.2.2.2), (6, .bool s.1.did), (7, .int .i64 (s.1.p : Int))]) (fun s : Opt.PS × Option Addr × Nat × List Nat × Option Addr × Nat => [old w S, rd lo l.length lc insC l, arr s.2.1 s.1.out.length s.2.2.1 57 insC s.1.out, arr s.2.2.2.2.1 s.1.out.length s.2.2.2.2.2 3 natC s.2.2.2.1]) (fun s => l.length - s.1.p) ((⟨0, [], List.replicate (l.length + 1) 0, false⟩ : Opt.PS), none, 0, [], some ⟨ob, 0, none⟩, 0)
  rotate_left
  exact sb
  exact tks
  intro z hz K1 hK1
  (try conv => rhs; simp only [List.cons_append, List.nil_append])
  rotate_left
  · exact OInv.zero l
  obtain ⟨z, oo, oc, src, so, sc⟩ := z
  simp only at hz hK1 ⊢
  have hzp := hz.inv.p
  have hzo := hz.inv.out
  have hsl := hz.len
  by_cases hpn : z.p < l.length
  · have hst := hz.step hj hpn
    have hgt := Opt.nx_gt l z.p
    have hle := Opt.nx_le hpn
    have hel := Opt.em_len l z.p
    obtain ⟨t1, t2, t3⟩ := pstep_em l z
    repeat (first | refine go (k := ?_) | (refine goB (k := ?_); intro b) | (refine goA (k := ?_); intro ao cap))
    (apply Run.op; exact rfl; refine OpT.call0_ (spec := rule_is lo l.length lc l rfl (by omega) hl hb z.p hpn) (k := ?_); intro s hs; (try conv => rhs; simp only [List.cons_append, List.nil_append]))
    obtain ⟨ro, rc⟩ := s
    dsimp only [shV5]
    repeat (first | refine go (k := ?_) | (refine goB (k := ?_); intro b) | (refine goA (k := ?_); intro ao cap))
    refine cutN0 (σ := Option Addr × Nat) (fun _ => True) (fun s => [(0, .slice lo l.length lc), (4, .slice oo z.out.length oc), (5, .slice so z.out.length sc), (6, .bool (z.did || decide ((Opt.shorter l z.p).2 ≠ 0))), (7, .int .i64 (z.p : Int)), (8, .slice s.1 (Opt.em l z.p).length s.2), (9, .int .i64 ((Opt.nx l z.p - z.p : Nat) : Int))]) (fun s => [old w S, rd lo l.length lc insC l, arr oo z.out.length oc 57 insC z.out, arr so z.out.length sc 3 natC src, arr s.1 (Opt.em l z.p).length s.2 57 insC (Opt.em l z.p)]) ?_ ?_
    · rintro ⟨eo, ec⟩ -
      generalize hE : Opt.em l z.p = E at *
      generalize hD : (z.did || decide ((Opt.shorter l z.p).2 ≠ 0)) = D at *
      have hq : ((z.p : Int) + ((Opt.nx l z.p - z.p : Nat) : Int)) = (Opt.nx l z.p : Int) := by omega
      have hq1 : 1 ≤ Opt.nx l z.p - z.p := by omega
      have hq2 : Opt.nx l z.p - z.p ≤ 100000 := by omega
      generalize hQ : Opt.nx l z.p - z.p = q at *
      have hA : arr oo z.out.length oc 57 insC z.out = arr oo (z.out.length + 0) oc 57 insC (z.out ++ E.take 0) := by simp
      have hB : arr so z.out.length sc 3 natC src = arr so (z.out.length + 0) sc 3 natC (src ++ List.replicate 0 z.p) := by simp
      repeat (first | refine go (k := ?_) | (refine goB (k := ?_); intro b) | (refine goA (k := ?_); intro ao cap))
      rw [hA, hB]
      refine Cod.only ((fun k : Nat × Option Addr × Nat × Option Addr × Nat => [old w S, rd lo l.length lc insC l, arr eo E.length ec 57 insC E, arr k.2.1 (z.out.length + k.1) k.2.2.1 57 insC (z.out ++ E.take k.1), arr k.2.2.2.1 (z.out.length + k.1) k.2.2.2.2 3 natC (src ++ List.replicate k.1 z.p)]) (0, oo, oc, so, sc)) (by (repeat (first | exact Takes.nil | exact Take.head | apply Take.tail | apply Takes.cons))) ?_
      apply Cod.loop (σ := Nat × Option Addr × Nat × Option Addr × Nat) (fun k => k.1 ≤ E.length) (fun k => [(0, .slice lo l.length lc), (4, .slice k.2.1 (z.out.length + k.1) k.2.2.1), (5, .slice k.2.2.2.1 (z.out.length + k.1) k.2.2.2.2), (6, .bool D), (7, .int .i64 (z.p : Int)), (9, .int .i64 (q : Int)), (32, .slice eo E.length ec), (33, .int .i64 (E.length : Int)), (34, .int .i64 (k.1 : Int))]) (fun k : Nat × Option Addr × Nat × Option Addr × Nat => [old w S, rd lo l.length lc insC l, arr eo E.length ec 57 insC E, arr k.2.1 (z.out.length + k.1) k.2.2.1 57 insC (z.out ++ E.take k.1), arr k.2.2.2.1 (z.out.length + k.1) k.2.2.2.2 3 natC (src ++ List.replicate k.1 z.p)]) (fun k => E.length - k.1) (0, oo, oc, so, sc)
      rotate_left
      exact sb
      exact tks
      intro k hk K2 hK2
      (try conv => rhs; simp only [List.cons_append, List.nil_append])
      rotate_left
      · exact Nat.zero_le _
      obtain ⟨k, oo1, oc1, so1, sc1⟩ := k
      simp only at hk hK2 ⊢
      by_cases hkE : k < E.length
      · repeat (first | refine go (k := ?_) | (refine goB (k := ?_); intro b) | (refine goA (k := ?_); intro ao cap))
        rename_i ao1 cap1
        have e1 : z.out ++ E.take k ++ [E.getD k default] = z.out ++ E.take (k + 1) := by rw [take_snoc hkE, List.append_assoc]
        have e2 : src ++ List.replicate k z.p ++ [z.p] = src ++ List.replicate (k + 1) z.p := by rw [List.replicate_succ', List.append_assoc]
        rw [e1, e2]
        refine End.round0_ hK2 (k + 1, ao1, cap1, ao, cap) ?_ ?_
        · simp only; omega
        · simp only; omega
      · obtain rfl : k = E.length := by omega
        rw [List.take_length]
        repeat (first | refine go (k := ?_) | (refine goB (k := ?_); intro b) | (refine goA (k := ?_); intro ao cap))
        have e1 : z.out.length + E.length = (Opt.pstep l z).out.length := by rw [t2, List.length_append]
        rw [e1, ← t2, ← t3, hq, ← t1]
        refine End.round0_ hK1 (Opt.pstep l z, oo1, oc1, src ++ List.replicate E.length z.p, so1, sc1) ?_ ?_
        · exact hst
        · simp only; omega
    · intro K hK
      by_cases hn0 : (Opt.shorter l z.p).2 = 0
      · have e1 : Opt.em l z.p = [l.getD z.p default] := by unfold Opt.em; rw [if_pos hn0]; rfl
        have e2 : Opt.nx l z.p - z.p = 1 := by unfold Opt.nx; rw [if_pos hn0]; omega
        have e3 : (z.did || decide ((Opt.shorter l z.p).2 ≠ 0)) = z.did := by rw [hn0]; simp
        rw [e1, e2, e3] at hK
        repeat (first | refine go (k := ?_) | (refine goB (k := ?_); intro b) | (refine goA (k := ?_); intro ao cap))
        obtain ⟨db, rfl⟩ : ∃ x, x = b := ⟨_, rfl⟩
        apply End.imp (fun w hm => Mem.toArr (b := db) (f := insC) (n := 1) hm (by (repeat (first | exact Take.head | apply Take.tail))) [l.getD z.p default] rfl rfl (by unfold maxLen; simp))
        refine End.some_ hK (some ⟨db, 0, none⟩, 1) ?_
        trivial
      · have e1 : Opt.em l z.p = (Opt.shorter l z.p).1 := by unfold Opt.em; rw [if_neg hn0]
        have e2 : Opt.nx l z.p - z.p = (Opt.shorter l z.p).2 := by unfold Opt.nx; rw [if_neg hn0]; omega
        have e3 : (z.did || decide ((Opt.shorter l z.p).2 ≠ 0)) = true := by simp [hn0]
        rw [e1, e2, e3] at hK
        repeat (first | refine go (k := ?_) | (refine goB (k := ?_); intro b) | (refine goA (k := ?_); intro ao cap))
        refine End.some_ hK (ro, rc) ?_
        trivial
  · have hsrc := hz.fin hpn
    have hfin := hz.inv.run
    rw [prun_end hpn] at hfin
    have hp1 : (Opt.pass l).1 = relTo z.wh z.out z.out.length := by rw [relTo_all, hfin]; rfl
    have hp2 : (Opt.pass l).2 = z.did := by rw [hfin]; rfl
    have htg := hz.tg
    have hold : ∀ j ∈ z.out, Opt.isJ j = true → 0 ≤ j.a ∧ ∃ K : Nat, z.wh.getD j.a.toNat 0 = (K : Int) ∧ K ≤ src.length ∧ (∀ t, t < K → (src.getD t default : Int) < j.a) ∧ (∀ t, K ≤ t → t < src.length → ¬ (src.getD t default : Int) < j.a) := by
      intro j hjm hJ
      have ht := htg j hjm hJ
      obtain ⟨r1, r2⟩ := tgt_range hj ht
      obtain ⟨K, k1, k2, k3, k4⟩ := Opt.old_at (l := l) (a := j.a.toNat) (by omega) (by rw [Int.toNat_of_nonneg r1]; exact ht)
      rw [hsrc] at k2 k3 k4
      rw [← hfin] at k1
      refine ⟨r1, K, k1, k2, fun t h => ?_, fun t h1 h2 => ?_⟩
      · have := k3 t h; show ((src.getD t 0 : Nat) : Int) < _; omega
      · have := k4 t h1 h2; show ¬ ((src.getD t 0 : Nat) : Int) < _; omega
    clear hfin hK1 hz htg
    rw [hp1, hp2, relTo_len]
    repeat (first | refine go (k := ?_) | (refine goB (k := ?_); intro b) | (refine goA (k := ?_); intro ao cap))
    refine Cod.only ((fun k => [old w S, arr oo z.out.length oc 57 insC (relTo z.wh z.out k), arr so z.out.length sc 3 natC src]) 0) (by (repeat (first | exact Takes.nil | exact Take.head | apply Take.tail | apply Takes.cons))) ?_
    apply Cod.loop (σ := Nat) (fun k => k ≤ z.out.length) (fun k => [(4, .slice oo z.out.length oc), (5, .slice so z.out.length sc), (6, .bool z.did), (51, .int .i64 (z.out.length : Int)), (52, .int .i64 (k : Int))]) (fun k => [old w S, arr oo z.out.length oc 57 insC (relTo z.wh z.out k), arr so z.out.length sc 3 natC src]) (fun k => z.out.length - k) 0
    rotate_left
    exact sb
    exact tks
    intro k hk K2 hK2
    (try conv => rhs; simp only [List.cons_append, List.nil_append])
    rotate_left
    · exact Nat.zero_le _
    by_cases hkn : k < z.out.length
    · have hat := relTo_at (wh := z.wh) hkn
      by_cases hJ : Opt.isJ (z.out.getD k default) = true
      · obtain ⟨ha, K, k1, k2, k3, k4⟩ := hold _ (getD_mem hkn) hJ
        have hrl : Opt.reloc z.wh (z.out.getD k default) = ⟨(z.out.getD k default).op, (K : Int), (z.out.getD k default).n⟩ := by unfold Opt.reloc; rw [if_pos hJ, k1]
        have hset := relTo_set (wh := z.wh) hkn
        rw [hrl] at hset
        rw [Opt.isJ_iff] at hJ
        rw [← hat] at hJ hset k3 k4
        rcases hJ with hJ | hJ
        · skip
          repeat (first | refine go (k := ?_) | (refine goB (k := ?_); intro b) | (refine goA (k := ?_); intro ao cap))
          refine Cod.only ((fun t => [old w S, arr oo z.out.length oc 57 insC (relTo z.wh z.out k), arr so z.out.length sc 3 natC src]) 0) (by (repeat (first | exact Takes.nil | exact Take.head | apply Take.tail | apply Takes.cons))) ?_
          apply Cod.loop (σ := Nat) (fun t => t ≤ K) (fun t => [(4, .slice oo z.out.length oc), (5, .slice so z.out.length sc), (6, .bool z.did), (51, .int .i64 (z.out.length : Int)), (52, .int .i64 (k : Int)), (12, .int .i64 (k : Int)), (13, .int .i64 (t : Int))]) (fun t => [old w S, arr oo z.out.length oc 57 insC (relTo z.wh z.out k), arr so z.out.length sc 3 natC src]) (fun t => K - t) 0
          rotate_left
          exact sb
          exact tks
          intro t ht K3 hK3
          (try conv => rhs; simp only [List.cons_append, List.nil_append])
          rotate_left
          · exact Nat.zero_le _
          by_cases htK : t < K
          · have g := k3 t htK
            have htl : t < z.out.length := by omega
            repeat (first | refine go (k := ?_) | (refine goB (k := ?_); intro b) | (refine goA (k := ?_); intro ao cap))
            refine End.round0_ hK3 (t + 1) ?_ ?_
            · omega
            · omega
          · obtain rfl : t = K := by omega
            clear hK3
            by_cases htl : t < z.out.length
            · have g := k4 t (Nat.le_refl _) (by omega)
              repeat (first | refine go (k := ?_) | (refine goB (k := ?_); intro b) | (refine goA (k := ?_); intro ao cap))
              (apply Run.op; exact rfl; refine OpT.storeE_ (f := insC) (l := relTo z.wh z.out k) (i := k) (off := 0 + 1) (vs := [.int .i64 (t : Int)]) (a' := ⟨((relTo z.wh z.out k).getD k default).op, (t : Int), ((relTo z.wh z.out k).getD k default).n⟩) (hp := (show Put (insC ((relTo z.wh z.out k).getD k default)) 1 _ _ by (repeat (first | exact Put.done | apply Put.take | apply Put.skip)))) (k := ?_))
              rw [hset]
              repeat (first | refine go (k := ?_) | (refine goB (k := ?_); intro b) | (refine goA (k := ?_); intro ao cap))
              refine End.round0_ hK2 (k + 1) ?_ ?_
              · omega
              · omega
            · repeat (first | refine go (k := ?_) | (refine goB (k := ?_); intro b) | (refine goA (k := ?_); intro ao cap))
              (apply Run.op; exact rfl; refine OpT.storeE_ (f := insC) (l := relTo z.wh z.out k) (i := k) (off := 0 + 1) (vs := [.int .i64 (t : Int)]) (a' := ⟨((relTo z.wh z.out k).getD k default).op, (t : Int), ((relTo z.wh z.out k).getD k default).n⟩) (hp := (show Put (insC ((relTo z.wh z.out k).getD k default)) 1 _ _ by (repeat (first | exact Put.done | apply Put.take | apply Put.skip)))) (k := ?_))
              rw [hset]
              repeat (first | refine go (k := ?_) | (refine goB (k := ?_); intro b) | (refine goA (k := ?_); intro ao cap))
              refine End.round0_ hK2 (k + 1) ?_ ?_
              · omega
              · omega
        · skip
          repeat (first | refine go (k := ?_) | (refine goB (k := ?_); intro b) | (refine goA (k := ?_); intro ao cap))
          refine Cod.only ((fun t => [old w S, arr oo z.out.length oc 57 insC (relTo z.wh z.out k), arr so z.out.length sc 3 natC src]) 0) (by (repeat (first | exact Takes.nil | exact Take.head | apply Take.tail | apply Takes.cons))) ?_
          apply Cod.loop (σ := Nat) (fun t => t ≤ K) (fun t => [(4, .slice oo z.out.length oc), (5, .slice so z.out.length sc), (6, .bool z.did), (51, .int .i64 (z.out.length : Int)), (52, .int .i64 (k : Int)), (12, .int .i64 (k : Int)), (13, .int .i64 (t : Int))]) (fun t => [old w S, arr oo z.out.length oc 57 insC (relTo z.wh z.out k), arr so z.out.length sc 3 natC src]) (fun t => K - t) 0
          rotate_left
          exact sb
          exact tks
          intro t ht K3 hK3
          (try conv => rhs; simp only [List.cons_append, List.nil_append])
          rotate_left
          · exact Nat.zero_le _
          by_cases htK : t < K
          · have g := k3 t htK
            have htl : t < z.out.length := by omega
            repeat (first | refine go (k := ?_) | (refine goB (k := ?_); intro b) | (refine goA (k := ?_); intro ao cap))
            refine End.round0_ hK3 (t + 1) ?_ ?_
            · omega
            · omega
          · obtain rfl : t = K := by omega
            clear hK3
            by_cases htl : t < z.out.length
            · have g := k4 t (Nat.le_refl _) (by omega)
              repeat (first | refine go (k := ?_) | (refine goB (k := ?_); intro b) | (refine goA (k := ?_); intro ao cap))
              (apply Run.op; exact rfl; refine OpT.storeE_ (f := insC) (l := relTo z.wh z.out k) (i := k) (off := 0 + 1) (vs := [.int .i64 (t : Int)]) (a' := ⟨((relTo z.wh z.out k).getD k default).op, (t : Int), ((relTo z.wh z.out k).getD k default).n⟩) (hp := (show Put (insC ((relTo z.wh z.out k).getD k default)) 1 _ _ by (repeat (first | exact Put.done | apply Put.take | apply Put.skip)))) (k := ?_))
              rw [hset]
              repeat (first | refine go (k := ?_) | (refine goB (k := ?_); intro b) | (refine goA (k := ?_); intro ao cap))
              refine End.round0_ hK2 (k + 1) ?_ ?_
              · omega
              · omega
            · repeat (first | refine go (k := ?_) | (refine goB (k := ?_); intro b) | (refine goA (k := ?_); intro ao cap))
              (apply Run.op; exact rfl; refine OpT.storeE_ (f := insC) (l := relTo z.wh z.out k) (i := k) (off := 0 + 1) (vs := [.int .i64 (t : Int)]) (a' := ⟨((relTo z.wh z.out k).getD k default).op, (t : Int), ((relTo z.wh z.out k).getD k default).n⟩) (hp := (show Put (insC ((relTo z.wh z.out k).getD k default)) 1 _ _ by (repeat (first | exact Put.done | apply Put.take | apply Put.skip)))) (k := ?_))
              rw [hset]
              repeat (first | refine go (k := ?_) | (refine goB (k := ?_); intro b) | (refine goA (k := ?_); intro ao cap))
              refine End.round0_ hK2 (k + 1) ?_ ?_
              · omega
              · omega
      · have hJ' : Opt.isJ (z.out.getD k default) = false := by simpa using hJ
        rw [Opt.isJ_iff] at hJ
        have hsk := relTo_skip (wh := z.wh) hkn hJ'
        rw [← hat] at hJ
        repeat' (first | refine go (k := ?_) | (refine goB (k := ?_); intro b) | (refine goA (k := ?_); intro ao cap) | refine goQ (k := fun h => ?_) (k' := fun h => ?_) | fail)
        all_goals try (exfalso; omega)
        rw [hsk]
        refine End.round0_ hK2 (k + 1) ?_ ?_
        · omega
        · omega
    · obtain rfl : k = z.out.length := by omega
      repeat (first | refine go (k := ?_) | (refine goB (k := ?_); intro b) | (refine goA (k := ?_); intro ao cap))
      refine End.done2_ (oo, oc) (he := rfl) (hp := trivial)
end Go.Proofs.Ytfeajpghabjaaaa.Vw

/- Strings, as lists of bytes. Of whatever program. -/
namespace Go.Proofs.Ytfeajpghabjaaaa
open Go Go.RowKit
set_option linter.unusedVariables false
set_option linter.unusedSimpArgs false
set_option linter.unusedSectionVars false
abbrev sv (l : List UInt8) : Value := .string ⟨l.toArray⟩
/-- a byte -/
def byC (x : UInt8) : List Value := [.int .u8 (x.toNat : Int)]
instance : Enc byC := ⟨fun _ => rfl, by decide, fun a u hu => by simp [byC] at hu; subst hu; rfl⟩
theorem sv_size (l : List UInt8) : (⟨l.toArray⟩ : ByteArray).size = l.length := by simp [ByteArray.size]
section
variable {P : Program} [Tabbed P] {Q : Exit → Act → World → Prop} {N : Nat} {E : Env} {L L' : List Chunk}
variable {dst : Option Tmp} {ty : TypeId} {pos : String} {aft : Array Edge} {g : Option (Nat × Bool)}
variable {xT yT : TypeId} {x y : Operand} {a b : List UInt8}
theorem Still.sAdd (hx : ev E x = some (sv a)) (hy : ev E y = some (sv b)) (ha : a.length ≤ 8388608) (hb : b.length ≤ 8388608) : Still P N ⟨dst, .binOp .add xT x y yT, ty, pos, aft, g⟩ E L (sv (a ++ b)) := fun A w hs _ => by
  have h := run_string_add_lists (P := P) w a b (by omega) (by omega)
  simp only [execOp, hs.ev hx, hs.ev hy, eqGuard, binOp]
  simp [h]
theorem Still.sEql (hx : ev E x = some (sv a)) (hy : ev E y = some (sv b)) : Still P N ⟨dst, .binOp .eql xT x y yT, ty, pos, aft, g⟩ E L (.bool (decide (a = b))) := fun A w hs _ => by
  have e : (a == b) = decide (a = b) := by rw [Bool.eq_iff_iff]; simp
  simp [execOp, hs.ev hx, hs.ev hy, eqGuard, binOp, Op.stringOp, e]
theorem Still.sNeq (hx : ev E x = some (sv a)) (hy : ev E y = some (sv b)) : Still P N ⟨dst, .binOp .neq xT x y yT, ty, pos, aft, g⟩ E L (.bool (!decide (a = b))) := fun A w hs _ => by
  have e : (a == b) = decide (a = b) := by rw [Bool.eq_iff_iff]; simp
  simp [execOp, hs.ev hx, hs.ev hy, eqGuard, binOp, Op.stringOp, e]
theorem Still.sLen {t : TypeId} {s' b' : Nat} {z' : List Value} (hx : ev E x = some (sv a)) (ht : tyOf P t = some ⟨.string, s', b', z'⟩) : Still P N ⟨dst, .call ⟨.builtin .len, #[x], #[t]⟩, ty, pos, aft, g⟩ E L (.int .i64 (a.length : Int)) := fun A w hs _ => by
  have h := run_len_string (P := P) w t ty ⟨a.toArray⟩ (tyOk ht).string
  rw [sv_size] at h
  simp only [execOp, resolve, invoke, builtin, Sem.run_bind, Sem.run_pure, Result.andThen_ok, List.map_toArray, List.map_cons, List.map_nil, hs.ev hx, h]
  rfl
theorem Still.sAt {s' b' i : Nat} {z' : List Value} {k : IntKind} {j : Int} (hx : ev E x = some (sv a)) (hy : ev E y = some (.int k j)) (ht : tyOf P xT = some ⟨.string, s', b', z'⟩) (hj : j = (i : Int)) (hi : i < a.length) : Still P N ⟨dst, .index xT x y, ty, pos, aft, g⟩ E L (.int .u8 ((a.getD i 0).toNat : Int)) := fun A w hs _ => by
  subst hj
  have h := run_index_string (P := P) w xT ⟨a.toArray⟩ k (i : Int) (tyOk ht).string
  rw [dif_pos ⟨by omega, by rw [sv_size]; omega⟩] at h
  have e : ((⟨a.toArray⟩ : ByteArray)[((i : Int)).toNat]'(by rw [sv_size]; omega)) = a.getD i 0 := by
    rw [List.getD_eq_getElem?_getD, List.getElem?_eq_getElem hi]
    rfl
  rw [e] at h
  simp only [execOp, hs.ev hx, hs.ev hy, Sem.run_bind, h, Result.andThen_ok, Sem.run_pure]
theorem Still.sTo {s' b' i : Nat} {z' : List Value} {k : IntKind} {j : Int} (hx : ev E x = some (sv a)) (hy : ev E y = some (.int k j)) (ht : tyOf P xT = some ⟨.string, s', b', z'⟩) (hj : j = (i : Int)) (hi : i ≤ a.length) : Still P N ⟨dst, .slice xT x none (some y) none, ty, pos, aft, g⟩ E L (sv (a.take i)) := fun A w hs _ => by
  subst hj
  have h := run_slice_string_h (P := P) w xT ⟨a.toArray⟩ (tyOk ht).string k (i : Int) (by omega) (by rw [sv_size]; omega)
  rw [ByteArray.extract_mk, Int.toNat_natCast, Nat.sub_zero, List.drop_zero] at h
  have h2 := run_sliceAt_string (P := P) w xT (sv a) none (some (.int k (i : Int))) none (tyOk ht).string
  rw [h] at h2
  simp only [execOp, hs.ev hx, hs.ev hy, Option.map_none, Option.map_some, Sem.run_bind, h2, Result.andThen_ok, Sem.run_pure]
/-- bytes to a string -/
theorem Still.sOf {src d e : TypeId} {s1 b1 s2 b2 s3 b3 c n : Nat} {z1 z2 z3 : List Value} {ao : Option Addr} (hx : ev E x = some (.slice ao n c)) (hr : Rdb L ao n c byC a) (hs : tyOf P src = some ⟨.slice e, s1, b1, z1⟩) (he : tyOf P e = some ⟨.int .u8, s2, b2, z2⟩) (hd : tyOf P d = some ⟨.string, s3, b3, z3⟩) (h0 : 0 < n) : Still P N ⟨dst, .convert src d x, ty, pos, aft, g⟩ E L (sv a) := fun A w hS hM => by
  obtain ⟨b, o, rfl, -⟩ := hr.cell hM (i := 0) h0
  have hlen : a.length = n := (hr w hM).2
  have key : ∀ j (hj : j < a.length), w.cell? ((⟨b, o, none⟩ : Addr).add j) = some (.int .u8 (a[j].toNat : Int)) := fun j hj => by
    obtain ⟨b', o', e, hc⟩ := hr.cell hM (i := j) (by omega)
    cases e
    have h1 := hc 0 (.int .u8 ((a.getD j default).toNat : Int)) rfl
    have h2 : a.getD j default = a[j] := by rw [List.getD_eq_getElem?_getD, List.getElem?_eq_getElem hj]; rfl
    rw [h2, show sz byC = 1 from rfl, Nat.mul_one, Nat.add_zero] at h1
    rw [Addr.add_lit']
    exact h1
  subst hlen
  have h := run_convert_bytes_back (P := P) w src d e ⟨b, o, none⟩ c a (tyOk hs).slice (tyOk he).int (tyOk hd).string key
  simp only [execOp, hS.ev hx, Sem.run_bind, h, Result.andThen_ok, Sem.run_pure]
end
end Go.Proofs.Ytfeajpghabjaaaa

/- What a typing says of an instruction that goes well: the stack ahead of it, and behind it. Plain Lean. -/
namespace Go.Proofs.Ytfeajpghabjaaaa.Vm
set_option linter.unusedVariables false
set_option linter.unusedSimpArgs false
open ImgM Ver Opt

theorem fail_ne {e : Int} (he : e ≠ 0) {f : Flow} : (fail e f).err ≠ 0 := by
  unfold Ver.fail
  split
  · exact he
  · assumption
theorem push_inv {t : Int} {f : Flow} (h : (Ver.push t f).err = 0) : f.err = 0 ∧ Ver.push t f = { f with stack := f.stack ++ [t] } ∧ f.stack.length + 1 ≤ 300 := by
  unfold Ver.push at h ⊢
  split
  · rename_i h3
    rw [if_pos h3] at h
    exact absurd h (fail_ne (by decide))
  · rename_i h3
    rw [if_neg h3] at h
    exact ⟨h, rfl, by omega⟩
theorem snoc_of {α : Type} [Inhabited α] {l : List α} (h : ¬ l.length = 0) : l = l.take (l.length - 1) ++ [l.getD (l.length - 1) default] := by
  have : l.length - 1 + 1 = l.length := by omega
  conv => lhs; rw [← List.take_length (l := l), ← this, List.take_succ_eq_append_getElem (show l.length - 1 < l.length by omega)]
  rw [List.getD_eq_getElem?_getD, List.getElem?_eq_getElem (show l.length - 1 < l.length by omega)]
  rfl
theorem pop_inv {f : Flow} (h : (pop f).2.err = 0) : f.err = 0 ∧ ∃ st t, f.stack = st ++ [t] ∧ (pop f).1 = t ∧ (pop f).2 = { f with stack := st } := by
  unfold pop at h ⊢
  split
  · rename_i h0
    rw [if_pos h0] at h
    exact absurd h (fail_ne (by decide))
  · rename_i h0
    rw [if_neg h0] at h
    exact ⟨h, _, _, snoc_of h0, rfl, rfl⟩
theorem want1_inv {t : Int} {f : Flow} (h : (want1 t f).err = 0) : f.err = 0 ∧ ∃ st, f.stack = st ++ [t] ∧ want1 t f = { f with stack := st } := by
  unfold want1 at h ⊢
  split
  · rename_i hn
    rw [if_pos hn] at h
    exact absurd h (fail_ne (by decide))
  · rename_i hn
    rw [if_neg hn] at h
    obtain ⟨h1, st, t', h2, h3, h4⟩ := pop_inv h
    have : t' = t := Classical.byContradiction fun hx => hn (by rw [h3]; exact hx)
    subst this
    exact ⟨h1, st, h2, h4⟩
theorem want_inv : ∀ (l : List Int) {f : Flow}, (want l f).err = 0 → f.err = 0 ∧ ∃ st, f.stack = st ++ l ∧ want l f = { f with stack := st }
  | [], f, h => ⟨h, f.stack, by simp, rfl⟩
  | t :: r, f, h => by
    have hh : want (t :: r) f = want1 t (want r f) := rfl
    rw [hh] at h ⊢
    obtain ⟨h1, st, h2, h3⟩ := want1_inv h
    obtain ⟨g1, st', g2, g3⟩ := want_inv r h1
    rw [g3] at h2 h3
    simp only at h2
    exact ⟨g1, st, by rw [g2, h2]; simp, by rw [g3]; exact h3⟩
theorem fail_inv {e : Int} (he : e ≠ 0) {c : Prop} [Decidable c] {f : Flow} (h : (if c then fail e f else f).err = 0) : ¬ c ∧ f.err = 0 := by
  by_cases hc : c
  · rw [if_pos hc] at h; exact absurd h (fail_ne he)
  · rw [if_neg hc] at h; exact ⟨hc, h⟩
theorem fail_inv' {e : Int} (he : e ≠ 0) {c : Prop} [Decidable c] {f : Flow} (h : (if c then f else fail e f).err = 0) : c ∧ f.err = 0 := by
  by_cases hc : c
  · rw [if_pos hc] at h; exact ⟨hc, h⟩
  · rw [if_neg hc] at h; exact absurd h (fail_ne he)
theorem done_inv {f : Flow} (h : (done f).err = 0) : f.err = 0 ∧ f.stack = [] ∧ done f = f := by
  unfold done at h ⊢
  split
  · rename_i h0; rw [if_pos h0] at h; exact ⟨h, List.eq_nil_of_length_eq_zero h0, rfl⟩
  · rename_i h0; rw [if_neg h0] at h; exact absurd h (fail_ne (by decide))
/-- what an instruction does to the stack's types, and asks of them -/
inductive Does (M : Mdl) (u : Unt) (i : Ins) : List Int → List Bool → List Int → List Bool → Prop
  | const (st h) (hi : i.op = 1 ∨ i.op = 2) : Does M u i st h (st ++ [i.op]) h
  | load (st h) (hi : i.op = 3) (hh : h.getD i.a.toNat false = true) : Does M u i st h (st ++ [u.locals.getD i.a.toNat 0]) h
  | store (st h) (hi : i.op = 4) : Does M u i (st ++ [u.locals.getD i.a.toNat 0]) h st (h.set i.a.toNat true)
  | drop (st h t) (hi : i.op = 5) : Does M u i (st ++ [t]) h st h
  | neg (st h) (hi : i.op = 6) : Does M u i (st ++ [1]) h (st ++ [1]) h
  | not (st h) (hi : i.op = 7) : Does M u i (st ++ [2]) h (st ++ [2]) h
  | arith (st h) (hi : 8 ≤ i.op ∧ i.op ≤ 12) : Does M u i (st ++ [1, 1]) h (st ++ [1]) h
  | eq (st h t) (hi : i.op = 13 ∨ i.op = 14) (ht : t = 1 ∨ t = 2) : Does M u i (st ++ [t, t]) h (st ++ [2]) h
  | cmp (st h) (hi : 15 ≤ i.op ∧ i.op ≤ 18) : Does M u i (st ++ [1, 1]) h (st ++ [2]) h
  | logic (st h) (hi : i.op = 19 ∨ i.op = 20) : Does M u i (st ++ [2, 2]) h (st ++ [2]) h
  | jump (st h) (hi : i.op = 21) : Does M u i st h st h
  | els (st h) (hi : i.op = 22) : Does M u i (st ++ [2]) h st h
  | call (st h) (hi : i.op = 23) : Does M u i (st ++ (M.units.getD i.a.toNat default).locals.take (M.units.getD i.a.toNat default).params.toNat) h (st ++ [(M.units.getD i.a.toNat default).result]) h
  | ret (h) (hi : i.op = 24) (hk : u.kind = 2) : Does M u i [u.result] h [] h
  | end_ (h) (hi : i.op = 25) (hk : u.kind ≠ 2) : Does M u i [] h [] h
  | send (st h) (hi : i.op = 26) : Does M u i (st ++ [(M.boxes.getD i.a.toNat default).1]) h st h
  | recv (st h) (hi : i.op = 27) : Does M u i st h (st ++ [(M.boxes.getD i.a.toNat default).1]) h
  | out (st h t) (hi : i.op = 28) : Does M u i (st ++ [t]) h st h
  | start (st h) (hi : i.op = 29) : Does M u i (st ++ (M.units.getD i.a.toNat default).locals.take (M.units.getD i.a.toNat default).params.toNat) h (st ++ [10 + i.a]) h
  | resume (st h k) (hi : i.op = 30) (hk : handle M (10 + k) = true) : Does M u i (st ++ [10 + k, (M.units.getD k.toNat default).takes]) h (st ++ [(M.units.getD k.toNat default).result]) h
  | yield (st h) (hi : i.op = 31) (hk : u.kind = 3) : Does M u i (st ++ [u.result]) h (st ++ [u.takes]) h
  | alive (st h k) (hi : i.op = 32) (hk : handle M (10 + k) = true) : Does M u i (st ++ [10 + k]) h (st ++ [2]) h
theorem app2 {α : Type} (s : List α) (a b : α) : s ++ [a] ++ [b] = s ++ [a, b] := by simp
theorem gen_inv {M : Mdl} {f : Flow} (h : (gen M f).2.err = 0) : f.err = 0 ∧ ∃ st k, f.stack = st ++ [10 + k] ∧ handle M (10 + k) = true ∧ gen M f = (some k, { f with stack := st }) := by
  unfold gen at h ⊢
  by_cases h1 : (pop f).2.err ≠ 0
  · rw [if_pos h1] at h; exact absurd h h1
  rw [if_neg h1] at h ⊢
  by_cases h2 : handle M (pop f).1 = false
  · rw [if_pos h2] at h; exact absurd h (fail_ne (by decide))
  rw [if_neg h2] at h ⊢
  obtain ⟨g1, st, t, g2, g3, g4⟩ := pop_inv h
  rw [g3] at h2 ⊢
  refine ⟨g1, st, t - 10, by rw [g2]; congr 2; omega, ?_, ?_⟩
  · rw [show (10 : Int) + (t - 10) = t by omega]; simpa using h2
  · rw [g4]
theorem sem_does {M : Mdl} {u : Unt} {i : Ins} {st : List Int} {h : List Bool} (ho : 1 ≤ i.op ∧ i.op ≤ 32) (he : (sem M u i (st, h)).err = 0) :
    Does M u i st h (sem M u i (st, h)).stack (sem M u i (st, h)).has := by
  unfold sem core at he ⊢
  by_cases h21 : i.op = 21
  · rw [if_pos h21]; exact .jump _ _ h21
  rw [if_neg h21] at he ⊢
  by_cases h22 : i.op = 22
  · rw [if_pos h22] at he ⊢
    obtain ⟨-, s, g2, g3⟩ := want_inv _ he
    simp only at g2
    rw [g3]; subst g2
    exact .els _ _ h22
  rw [if_neg h22] at he ⊢
  unfold Ver.step at he ⊢
  by_cases h1 : i.op = 1
  · rw [if_pos h1] at he ⊢
    obtain ⟨-, g2, -⟩ := push_inv he
    simp only
    rw [g2]
    have := Does.const (M := M) (u := u) (i := i) st h (.inl h1)
    rw [h1] at this; exact this
  rw [if_neg h1] at he ⊢
  by_cases h2 : i.op = 2
  · rw [if_pos h2] at he ⊢
    obtain ⟨-, g2, -⟩ := push_inv he
    simp only
    rw [g2]
    have := Does.const (M := M) (u := u) (i := i) st h (.inr h2)
    rw [h2] at this; exact this
  rw [if_neg h2] at he ⊢
  by_cases h3 : i.op = 3
  · rw [if_pos h3] at he ⊢
    obtain ⟨g1, g2, -⟩ := push_inv he
    obtain ⟨k1, k2⟩ := fail_inv' (by decide) g1
    simp only at k1 ⊢
    rw [g2, if_pos k1]
    exact .load _ _ h3 k1
  rw [if_neg h3] at he ⊢
  by_cases h4 : i.op = 4
  · rw [if_pos h4] at he ⊢
    obtain ⟨-, s, g2, g3⟩ := want_inv _ (show (want [u.locals.getD i.a.toNat 0] ⟨[], [], st, h, 0⟩).err = 0 from he)
    simp only at g2 ⊢
    rw [g3]; subst g2
    exact .store _ _ h4
  rw [if_neg h4] at he ⊢
  by_cases h5 : i.op = 5
  · rw [if_pos h5] at he ⊢
    obtain ⟨-, s, t, g2, g3, g4⟩ := pop_inv he
    simp only at g2 ⊢
    rw [g4]; subst g2
    exact .drop _ _ _ h5
  rw [if_neg h5] at he ⊢
  by_cases h6 : i.op = 6
  · rw [if_pos h6] at he ⊢
    obtain ⟨g1, g2, -⟩ := push_inv he
    obtain ⟨-, s, k2, k3⟩ := want_inv _ g1
    simp only at k2 ⊢
    rw [g2, k3]; subst k2
    exact .neg _ _ h6
  rw [if_neg h6] at he ⊢
  by_cases h7 : i.op = 7
  · rw [if_pos h7] at he ⊢
    obtain ⟨g1, g2, -⟩ := push_inv he
    obtain ⟨-, s, k2, k3⟩ := want_inv _ g1
    simp only at k2 ⊢
    rw [g2, k3]; subst k2
    exact .not _ _ h7
  rw [if_neg h7] at he ⊢
  by_cases h8 : 8 ≤ i.op ∧ i.op ≤ 12
  · rw [if_pos h8] at he ⊢
    obtain ⟨g1, g2, -⟩ := push_inv he
    obtain ⟨-, s, k2, k3⟩ := want_inv _ g1
    simp only at k2 ⊢
    rw [g2, k3]; subst k2
    exact .arith _ _ h8
  rw [if_neg h8] at he ⊢
  by_cases h9 : i.op = 13 ∨ i.op = 14
  · rw [if_pos h9] at he ⊢
    obtain ⟨g1, g2, -⟩ := push_inv he
    obtain ⟨g3, s, k2, k3⟩ := want_inv _ g1
    obtain ⟨q1, q2⟩ := fail_inv (by decide) g3
    obtain ⟨-, s', t, p2, p3, p4⟩ := pop_inv q2
    rw [if_neg q1] at k2 k3 g2 ⊢
    rw [g2, k3]
    rw [p4] at k2 ⊢
    rw [p3] at q1 k2
    simp only at k2 p2 ⊢
    subst k2 p2
    rw [app2]
    refine .eq _ _ _ h9 ?_
    omega
  rw [if_neg h9] at he ⊢
  by_cases h10 : 15 ≤ i.op ∧ i.op ≤ 18
  · rw [if_pos h10] at he ⊢
    obtain ⟨g1, g2, -⟩ := push_inv he
    obtain ⟨-, s, k2, k3⟩ := want_inv _ g1
    simp only at k2 ⊢
    rw [g2, k3]; subst k2
    exact .cmp _ _ h10
  rw [if_neg h10] at he ⊢
  by_cases h11 : i.op = 19 ∨ i.op = 20
  · rw [if_pos h11] at he ⊢
    obtain ⟨g1, g2, -⟩ := push_inv he
    obtain ⟨-, s, k2, k3⟩ := want_inv _ g1
    simp only at k2 ⊢
    rw [g2, k3]; subst k2
    exact .logic _ _ h11
  rw [if_neg h11, if_neg h21, if_neg h22] at he ⊢
  unfold special at he ⊢
  by_cases h23 : i.op = 23
  · rw [if_pos h23] at he ⊢
    obtain ⟨g1, g2, -⟩ := push_inv he
    obtain ⟨-, s, k2, k3⟩ := want_inv _ (show (want _ _).err = 0 from g1)
    simp only at k2 ⊢
    rw [g2]
    unfold args
    rw [k3]; subst k2
    exact .call _ _ h23
  rw [if_neg h23] at he ⊢
  by_cases h29 : i.op = 29
  · rw [if_pos h29] at he ⊢
    obtain ⟨g1, g2, -⟩ := push_inv he
    obtain ⟨-, s, k2, k3⟩ := want_inv _ (show (want _ _).err = 0 from g1)
    simp only at k2 ⊢
    rw [g2]
    unfold args
    rw [k3]; subst k2
    exact .start _ _ h29
  rw [if_neg h29] at he ⊢
  by_cases h24 : i.op = 24
  · rw [if_pos h24] at he ⊢
    obtain ⟨g1, g2, g3⟩ := done_inv he
    obtain ⟨k1, s, k2, k3⟩ := want_inv _ g1
    obtain ⟨q1, q2⟩ := fail_inv (by decide) k1
    rw [if_neg q1] at k2 k3 g2
    simp only at k2 ⊢
    rw [g3, if_neg q1, k3]
    rw [k3] at g2
    simp only at g2
    subst g2 k2
    exact .ret _ h24 (Classical.byContradiction q1)
  rw [if_neg h24] at he ⊢
  by_cases h25 : i.op = 25
  · rw [if_pos h25] at he ⊢
    obtain ⟨g1, g2, g3⟩ := done_inv he
    obtain ⟨q1, q2⟩ := fail_inv (by decide) g1
    rw [if_neg q1] at g2
    simp only at g2 ⊢
    rw [g3, if_neg q1]
    subst g2
    exact .end_ _ h25 q1
  rw [if_neg h25] at he ⊢
  by_cases h26 : i.op = 26
  · rw [if_pos h26] at he ⊢
    obtain ⟨-, s, g2, g3⟩ := want_inv _ he
    simp only at g2 ⊢
    rw [g3]; subst g2
    exact .send _ _ h26
  rw [if_neg h26] at he ⊢
  by_cases h27 : i.op = 27
  · rw [if_pos h27] at he ⊢
    obtain ⟨-, g2, -⟩ := push_inv he
    simp only
    rw [g2]
    exact .recv _ _ h27
  rw [if_neg h27] at he ⊢
  by_cases h28 : i.op = 28
  · rw [if_pos h28] at he ⊢
    obtain ⟨q1, q2⟩ := fail_inv (by decide) (show (if (pop ⟨[], [], st, h, 0⟩).2.err = 0 ∧ plain (pop ⟨[], [], st, h, 0⟩).1 = false then fail 9 (pop ⟨[], [], st, h, 0⟩).2 else (pop ⟨[], [], st, h, 0⟩).2).err = 0 from he)
    obtain ⟨-, s, t, g2, g3, g4⟩ := pop_inv q2
    simp only at g2 ⊢
    rw [if_neg q1, g4]; subst g2
    exact .out _ _ _ h28
  rw [if_neg h28] at he ⊢
  by_cases h30 : i.op = 30
  · rw [if_pos h30] at he ⊢
    have hg : (gen M (pop ⟨[], [], st, h, 0⟩).2).2.err = 0 ∧ ∀ k g, gen M (pop ⟨[], [], st, h, 0⟩).2 = (some k, g) → (pop ⟨[], [], st, h, 0⟩).1 = (M.units.getD k.toNat default).takes := by
      revert he
      generalize gen M (pop ⟨[], [], st, h, 0⟩).2 = G
      obtain ⟨o, g⟩ := G
      cases o with
      | none => intro he; exact ⟨he, fun k g h => by cases h⟩
      | some k =>
        intro he
        obtain ⟨g1, -, -⟩ := push_inv (show (Ver.push _ _).err = 0 from he)
        obtain ⟨q1, q2⟩ := fail_inv (by decide) g1
        refine ⟨q2, fun k' g' h => ?_⟩
        simp only [Prod.mk.injEq, Option.some.injEq] at h
        obtain ⟨rfl, rfl⟩ := h
        exact Classical.byContradiction q1
    obtain ⟨hg1, hg2⟩ := hg
    obtain ⟨g1, s, k, g2, g3, g4⟩ := gen_inv hg1
    obtain ⟨-, s', t, p2, p3, p4⟩ := pop_inv g1
    have ht := hg2 _ _ g4
    rw [g4] at he ⊢
    obtain ⟨-, r2, -⟩ := push_inv (show (Ver.push _ _).err = 0 from he)
    simp only at r2 ⊢
    rw [r2, if_neg (fun hx => hx ht)]
    rw [p4] at g2 ⊢
    simp only at g2 p2 ⊢
    rw [p3] at ht
    subst g2 p2 ht
    rw [app2]
    exact .resume _ _ _ h30 g3
  rw [if_neg h30] at he ⊢
  by_cases h31 : i.op = 31
  · rw [if_pos h31] at he ⊢
    obtain ⟨g1, g2, -⟩ := push_inv he
    obtain ⟨k1, s, k2, k3⟩ := want_inv _ g1
    obtain ⟨q1, q2⟩ := fail_inv (by decide) k1
    rw [if_neg q1] at k2 k3
    simp only at k2 ⊢
    rw [g2, if_neg q1, k3]
    subst k2
    exact .yield _ _ h31 (Classical.byContradiction q1)
  rw [if_neg h31] at he ⊢
  have h32 : i.op = 32 := by omega
  rw [if_pos h32] at he ⊢
  obtain ⟨g1, g2, -⟩ := push_inv he
  obtain ⟨-, s, k, k2, k3, k4⟩ := gen_inv g1
  simp only at k2 ⊢
  rw [g2, k4]
  subst k2
  exact .alive _ _ _ h32 k3
end Go.Proofs.Ytfeajpghabjaaaa.Vm
