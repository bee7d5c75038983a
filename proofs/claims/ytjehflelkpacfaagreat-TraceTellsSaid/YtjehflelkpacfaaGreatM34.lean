/- yieldref7.Form, walked. -/
import Derived.Test.YtjehflelkpacfaaGreatM33
set_option linter.unusedVariables false
set_option linter.unusedSimpArgs false
set_option linter.unusedSectionVars false
set_option maxRecDepth 100000
namespace Go.Proofs.YtjehflelkpacfaaGreat.Vw
open Go.RowKit Go.Proofs.YtjehflelkpacfaaGreat.Img
attribute [local irreducible] Run Cod End OpT Still RunQ RunS RunT Fn PutOk
set_option maxHeartbeats 2000000 in
theorem form7_is(m:ML)(hwf:m.Wf):Fn Tryz.prog 51 #[m.val] [md m] [] (σ:=Unit) (fun _=>True) (fun _=>whereV (Ver.form m.mdl)) (fun _=>[]):=by
 refine JE [m.val] Tryz.func51 Tryz.ntmps51 fun w S=>?_
 (refine Jn ?_);apply Cod.fact m.Small (fun w hm=>(md_holds.1 (hm.has tk)).small);intro hsm;have hs1:=hsm.bx;have hs2:=hsm.us;have hnu:m.mdl.units.length=m.us.length:=by simp
 by_cases hm1:30<m.bx.length
 ·have hf:Ver.form m.mdl=⟨5,0,0⟩:=Ver.form_1 (by rw[hnu];exact .inl hm1)
  repeat(refine Jy ?_;try first|intro ao cap|intro b)
  (refine End.doneC1_ (()) (he:=by exact where_eq hf) (hp:=?_));trivial
 by_cases hm2:30<m.us.length
 ·have hf:Ver.form m.mdl=⟨5,0,0⟩:=Ver.form_1 (by rw[hnu];exact .inr hm2)
  repeat(refine Jy ?_;try first|intro ao cap|intro b)
  (refine End.doneC1_ (()) (he:=by exact where_eq hf) (hp:=?_));trivial
 have hmany':¬(30<m.mdl.boxes.length∨30<m.mdl.units.length):=by rw[hnu];exact fun h=>h.elim hm1 hm2
 repeat(refine Jy ?_;try first|intro ao cap|intro b)
 obtain⟨b0,rfl⟩:∃x,x=b:=⟨_,rfl⟩;obtain⟨mb,rfl⟩:∃x,x=b:=⟨_,rfl⟩;refine Cod.only ((fun _=>[old w S,md m,blk b0 [.int .i64 0, .int .i64 0, .int .i64 0] 87,blk mb [.slice m.bo m.bx.length m.bc, .slice m.uo m.us.length m.uc] 25]) 0) (tks) ?_;apply Cod.loop (σ:=Nat) (fun k=>k≤m.bx.length∧Ver.boxes 0 m.bx=Ver.boxes k (m.bx.drop k)) (fun k=>[(1,ptr mb),(2,ptr b0),(24, .slice m.bo m.bx.length m.bc),(25, .int .i64 (m.bx.length:Int)),(26, .int .i64 (k:Int))]) (fun _=>[old w S,md m,blk b0 [.int .i64 0, .int .i64 0, .int .i64 0] 87,blk mb [.slice m.bo m.bx.length m.bc, .slice m.uo m.us.length m.uc] 25]) (fun k=>m.bx.length-k) 0
 rotate_left
 exact sb;exact tks;intro k hk K1 hK1;(refine Jn ?_)
 rotate_left
 ·exact⟨by omega,by simp⟩
 obtain⟨hk,hbx⟩:=hk
 by_cases h:k<m.bx.length
 ·rw[drop_cons h]at hbx;have hw:=hwf.bx _ (getD_mem h);unfold ImgM.In64 at hw
  by_cases c1:Ver.plain (m.bx.getD k default).1=false
  ·have c1':(!(Ver.plain (m.bx.getD k default).1))=true:=by rw[c1];rfl
   repeat(refine Jy ?_;try first|intro ao cap|intro b)
   refine Jc ?_;refine OpT.call0_ (spec:=plain7_is _) (k:=?_);intro s hs;(refine Jn ?_)
   repeat(refine Jy ?_;try first|intro ao cap|intro b)
   (refine End.doneC1_ (()) (he:=by exact where_eq (Ver.form_2 hmany' (hbx.trans (Ver.boxes_1 c1)) (by simp))) (hp:=?_));trivial
  have c1t:Ver.plain (m.bx.getD k default).1=true:=by simpa using c1
  have c1':(!(Ver.plain (m.bx.getD k default).1))=false:=by rw[c1t];rfl
  by_cases c2:(m.bx.getD k default).2<1
  ·repeat(refine Jy ?_;try first|intro ao cap|intro b)
   refine Jc ?_;refine OpT.call0_ (spec:=plain7_is _) (k:=?_);intro s hs;(refine Jn ?_)
   repeat(refine Jy ?_;try first|intro ao cap|intro b)
   (refine End.doneC1_ (()) (he:=by exact where_eq (Ver.form_2 hmany' (hbx.trans (Ver.boxes_2 c1t (.inl c2))) (by simp))) (hp:=?_));trivial
  by_cases c3:20<(m.bx.getD k default).2
  ·repeat(refine Jy ?_;try first|intro ao cap|intro b)
   refine Jc ?_;refine OpT.call0_ (spec:=plain7_is _) (k:=?_);intro s hs;(refine Jn ?_)
   repeat(refine Jy ?_;try first|intro ao cap|intro b)
   (refine End.doneC1_ (()) (he:=by exact where_eq (Ver.form_2 hmany' (hbx.trans (Ver.boxes_2 c1t (.inr c3))) (by simp))) (hp:=?_));trivial
  repeat(refine Jy ?_;try first|intro ao cap|intro b)
  refine Jc ?_;refine OpT.call0_ (spec:=plain7_is _) (k:=?_);intro s hs;(refine Jn ?_)
  repeat(refine Jy ?_;try first|intro ao cap|intro b)
  refine End.round0_ hK1 (k+1) ?_ ?_
  ·exact⟨by omega,hbx.trans (Ver.boxes_3 c1t (by omega))⟩
  ·omega
 rw[List.drop_of_length_le (by omega)]at hbx;have hb0:(Ver.boxes 0 m.mdl.boxes).err=0:=by rw[show Ver.boxes 0 m.mdl.boxes=_ from hbx];rfl
 clear hbx hK1
 repeat(refine Jy ?_;try first|intro ao cap|intro b)
 refine Cod.only ((fun _=>[old w S,md m,blk b0 [.int .i64 0, .int .i64 0, .int .i64 0] 87,blk mb [.slice m.bo m.bx.length m.bc, .slice m.uo m.us.length m.uc] 25]) (0,true)) (tks) ?_;apply Cod.loop (σ:=Nat×Bool) (fun s=>s.1≤m.us.length∧Ver.units m.mdl 0 m.mdl.units=Ver.units m.mdl s.1 (m.mdl.units.drop s.1)∧s.2=decide (((m.mdl.units.take s.1).filter (fun u=>decide (u.kind=4))).length=0)) (fun s=>[(1,ptr mb),(2,ptr b0),(5, .bool s.2),(49, .slice m.uo m.us.length m.uc),(50, .int .i64 (m.us.length:Int)),(51, .int .i64 (s.1:Int))]) (fun _=>[old w S,md m,blk b0 [.int .i64 0, .int .i64 0, .int .i64 0] 87,blk mb [.slice m.bo m.bx.length m.bc, .slice m.uo m.us.length m.uc] 25]) (fun s=>m.us.length-s.1) (0,true)
 rotate_left
 exact sb;exact tks;intro s hs K2 hK2;(refine Jn ?_)
 rotate_left
 ·exact⟨by simp only;omega,by simp,by simp⟩
 obtain⟨k2,t⟩:=s;obtain⟨hk2,hun,ht⟩:=hs;simp only at hk2 hun ht hK2⊢
 by_cases hku:k2<m.us.length
 ·have hd:=drop_cons (show k2<m.mdl.units.length by omega);have htk:=take_snoc (show k2<m.mdl.units.length by omega);rw[ML.unit_at]at hd htk;rw[hd]at hun;obtain⟨T,hT⟩:∃T,T=((m.mdl.units.take k2).filter (fun u=>decide (u.kind=4))).length:=⟨_,rfl⟩;rw[←hT]at ht;have hts:=Ver.tasks_snoc (u:=(m.us.getD k2 default).u) hT;rw[←htk]at hts;have hwu:=hwf.us _ (ML.uat_mem hku);clear hT hd htk
  repeat(refine Jy ?_;try first|intro ao cap|intro b)
  refine JQ (head7_is m k2 hku hwu.locals (hsm.lo k2 hku) (hsm.co k2 hku)) ?_;intro s hs;(refine Jn ?_)
  by_cases hh0:¬Ver.head m.mdl (m.us.getD k2 default).u=0
  ·have hu1:=Ver.unit_1 (M:=m.mdl) (k:=k2) hh0
   repeat(refine Jy ?_;try first|intro ao cap|intro b)
   (refine End.doneC1_ (()) (he:=by exact where_eq (Ver.form_3 hmany' hb0 (hun.trans ((Ver.units_1 (by rw[hu1];exact hh0)).trans hu1)) hh0)) (hp:=?_));trivial
  have hh0:=Classical.not_not.1 hh0;have hu2:=Ver.unit_2 (M:=m.mdl) (k:=k2) hh0;have hlc:=hsm.co k2 hku
  repeat(refine Jy ?_;try first|intro ao cap|intro b)
  obtain⟨ub,rfl⟩:∃x,x=b:=⟨_,rfl⟩;refine Cod.only ((fun _=>[old w S,md m,blk b0 [.int .i64 0, .int .i64 0, .int .i64 0] 87,blk mb [.slice m.bo m.bx.length m.bc, .slice m.uo m.us.length m.uc] 25,blk ub (ucell (m.us.getD k2 default)) 115]) 0) (tks) ?_;apply Cod.loop (σ:=Nat) (fun j=>j≤(m.us.getD k2 default).u.code.length∧Ver.instrs m.mdl (m.us.getD k2 default).u k2 0 (m.us.getD k2 default).u.code=Ver.instrs m.mdl (m.us.getD k2 default).u k2 j ((m.us.getD k2 default).u.code.drop j)) (fun j=>[(1,ptr mb),(2,ptr b0),(5, .bool t),(6, .int .i64 (k2:Int)),(7,ptr ub),(49, .slice m.uo m.us.length m.uc),(50, .int .i64 (m.us.length:Int)),(51, .int .i64 (k2:Int)),(65, .slice (m.us.getD k2 default).co (m.us.getD k2 default).u.code.length (m.us.getD k2 default).cc),(66, .int .i64 ((m.us.getD k2 default).u.code.length:Int)),(67, .int .i64 (j:Int))]) (fun _=>[old w S,md m,blk b0 [.int .i64 0, .int .i64 0, .int .i64 0] 87,blk mb [.slice m.bo m.bx.length m.bc, .slice m.uo m.us.length m.uc] 25,blk ub (ucell (m.us.getD k2 default)) 115]) (fun j=>(m.us.getD k2 default).u.code.length-j) 0
  rotate_left
  exact sb;exact tks;intro j hj K3 hK3;(refine Jn ?_)
  rotate_left
  ·exact⟨by omega,by simp⟩
  obtain⟨hj1,hj2⟩:=hj
  by_cases hjl:j<(m.us.getD k2 default).u.code.length
  ·rw[drop_cons hjl]at hj2;have hi0:(m.us.getD k2 default).u.code.getD j default∈(m.us.getD k2 default).u.code:=getD_mem hjl;have hq:Fn Tryz.prog 84 #[m.val, .agg (ucell (m.us.getD k2 default)).toArray,insV ((m.us.getD k2 default).u.code.getD j default)] [md m] [] (σ:=Unit) (fun _=>True) (fun _=> .int .i64 (Ver.instr m.mdl (m.us.getD k2 default).u ((m.us.getD k2 default).u.code.getD j default))) (fun _=>[]):=instr7_is m k2 hku _ _ _ (hsm.lo k2 hku) (hsm.co k2 hku) hs1
   repeat(refine Jy ?_;try first|intro ao cap|intro b)
   refine JQ (hq) ?_;intro s hs;(refine Jn ?_)
   by_cases hi:¬Ver.instr m.mdl (m.us.getD k2 default).u ((m.us.getD k2 default).u.code.getD j default)=0
   ·have hi1:=Ver.instrs_1 (M:=m.mdl) (i:=(m.us.getD k2 default).u.code.getD j default) (u:=(m.us.getD k2 default).u) (k:=k2) (j:=j) (r:=(m.us.getD k2 default).u.code.drop (j+1)) hi;have hu3:=hu2.trans (hj2.trans hi1)
    repeat(refine Jy ?_;try first|intro ao cap|intro b)
    (refine End.doneC1_ (()) (he:=by exact where_eq (Ver.form_3 hmany' hb0 (hun.trans ((Ver.units_1 (by rw[hu3];exact hi)).trans hu3)) hi)) (hp:=?_));trivial
   ·have hi:=Classical.not_not.1 hi
    repeat(refine Jy ?_;try first|intro ao cap|intro b)
    refine End.round0_ hK3 (j+1) ?_ ?_
    ·exact⟨by omega,hj2.trans (Ver.instrs_2 hi)⟩
    ·omega
  ·have hu3:(Ver.unit m.mdl k2 (m.us.getD k2 default).u).err=0:=by
    rw[hu2,hj2,List.drop_of_length_le (by omega)];rfl
   have hb4:t=true→(!decide ((m.us.getD k2 default).u.kind=4))=decide (((m.mdl.units.take (k2+1)).filter (fun u=>decide (u.kind=4))).length=0):=fun h=>by
    rw[hts];have:T=0:=by rw[h]at ht;exact of_decide_eq_true ht.symm
    by_cases h4:(m.us.getD k2 default).u.kind=4
    ·rw[if_pos h4,decide_eq_true h4,decide_eq_false (by omega)];rfl
    ·rw[if_neg h4,decide_eq_false h4,decide_eq_true (by omega)];rfl
   have hb5:t=false→false=decide (((m.mdl.units.take (k2+1)).filter (fun u=>decide (u.kind=4))).length=0):=fun h=>by
    rw[hts];have:¬T=0:=by rw[h]at ht;exact of_decide_eq_false ht.symm
    by_cases h4:(m.us.getD k2 default).u.kind=4
    ·rw[if_pos h4,decide_eq_false (by omega)]
    ·rw[if_neg h4,decide_eq_false (by omega)]
   cases t
   ·repeat(refine Jy ?_;try first|intro ao cap|intro b)
    refine End.round0_ hK2 (k2+1,false) ?_ ?_
    ·exact⟨by simp only;omega,hun.trans (Ver.units_2 hu3),hb5 rfl⟩
    ·simp only;omega
   ·repeat(refine Jy ?_;try first|intro ao cap|intro b)
    refine End.round0_ hK2 (k2+1,!decide ((m.us.getD k2 default).u.kind=4)) ?_ ?_
    ·exact⟨by simp only;omega,hun.trans (Ver.units_2 hu3),hb4 rfl⟩
    ·simp only;omega
 ·rw[List.drop_of_length_le (by rw[hnu];omega)]at hun;rw[List.take_of_length_le (by rw[hnu];omega)]at ht;have hu0:(Ver.units m.mdl 0 m.mdl.units).err=0:=by rw[hun];rfl
  cases t
  ·repeat(refine Jy ?_;try first|intro ao cap|intro b)
   (refine End.doneC1_ (()) (he:=by exact where_eq (Ver.form_5 hmany' hb0 hu0 (of_decide_eq_false ht.symm))) (hp:=?_));trivial
  ·repeat(refine Jy ?_;try first|intro ao cap|intro b)
   (refine End.doneC1_ (()) (he:=by exact where_eq (Ver.form_4 hmany' hb0 hu0 (of_decide_eq_true ht.symm))) (hp:=?_));trivial
end Go.Proofs.YtjehflelkpacfaaGreat.Vw
