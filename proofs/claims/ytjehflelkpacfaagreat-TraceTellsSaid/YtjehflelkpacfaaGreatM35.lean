/- yieldref7.take, walked. -/
import Derived.Test.YtjehflelkpacfaaGreatM34
set_option linter.unusedVariables false
set_option linter.unusedSimpArgs false
set_option linter.unusedSectionVars false
set_option maxRecDepth 100000
namespace Go.Proofs.YtjehflelkpacfaaGreat.Vw
open Go.RowKit Go.Proofs.YtjehflelkpacfaaGreat.Img
section
theorem u8_eq{x y:UInt8}:((x.toNat:Int)=(y.toNat:Int))↔x=y:=⟨fun h=>UInt8.toNat_inj.1 (by omega),fun h=>by rw[h]⟩
attribute [local irreducible] Run Cod End OpT Still RunQ RunS RunT Fn PutOk
set_option maxHeartbeats 1000000 in
theorem take7_is(st want:List UInt8)(h1:st.length≤1000)(h2:want.length≤1000):Fn Tryz.prog 88 #[sv st,sv want] [] [] (σ:=Unit) (fun _=>True) (fun _=> .tuple #[sv (Rf7.take7 st want).1, .int .i64 (Rf7.take7 st want).2]) (fun _=>[]):=by
 refine JE [sv st,sv want] Tryz.func88 Tryz.ntmps88 fun w S=>?_
 (refine Jn ?_);obtain⟨R,hR⟩:∃R,R=Rf7.take7 st want:=⟨_,rfl⟩;rw[←hR];have hR0:R=Rf7.tk7 (want.take want.length).reverse 0 st:=by rw[hR,List.take_length];rfl
 clear hR
 repeat(first|refine Jg ?_|refine Jo ?_|(refine JB ?_;intro b)|(refine JA ?_;intro ao cap))
 refine Cod.only ((fun z=>[old w S]) (want.length,st,0)) (tks) ?_;apply Cod.loop (σ:=Nat×List UInt8×UInt8) (fun z=>z.1≤want.length∧z.2.1.length≤1000∧R=Rf7.tk7 (want.take z.1).reverse z.2.2 z.2.1) (fun z=>[(0,sv z.2.1),(1,sv want),(6, .int .u8 (z.2.2.toNat:Int)),(7, .int .i64 ((z.1:Int)-1))]) (fun z=>[old w S]) (fun z=>z.1) (want.length,st,0)
 rotate_left
 exact sb;exact tks;intro z hz K1 hK1;(refine Jn ?_)
 rotate_left
 ·exact⟨Nat.le_refl _,h1,hR0⟩
 obtain⟨j,s,last⟩:=z;obtain⟨z1,z2,z3⟩:=hz;dsimp only at z1 z2 z3 hK1⊢
 cases j with
 |zero=>
  have e:R=(s,0):=z3;subst e
  repeat(first|refine Jg ?_|refine Jo ?_|(refine JB ?_;intro b)|(refine JA ?_;intro ao cap))
  (refine End.done2_ (()) (he:=Jv) (hp:=?_));trivial
 |succ j=>
  have ht:(want.take (j+1)).reverse=want.getD j 0::(want.take j).reverse:=by
   rw[Jp (show j<want.length by omega),List.reverse_append,Jd,Je (show j<want.length by omega)];rfl
  rw[ht]at z3;unfold Rf7.tk7 at z3
  by_cases h0:s=[]
  ·subst h0;rw[if_pos (show([]:List UInt8).length=0 from rfl)]at z3;subst z3
   repeat(first|refine Jg ?_|refine Jo ?_|(refine JB ?_;intro b)|(refine JA ?_;intro ao cap))
   (refine End.done2_ (()) (he:=Jv) (hp:=?_));trivial
  have h0':s.length≠0:=fun h=>h0 (List.eq_nil_of_length_eq_zero h)
  rw[if_neg h0']at z3;have s1:s.length-1<s.length:=by omega
  repeat(first|refine Jg ?_|refine Jo ?_|(refine JB ?_;intro b)|(refine JA ?_;intro ao cap))
  (apply Run.op;exact rfl;refine OpT.val_ (h:=by exact Still.sAt (i:=s.length-1) rfl rfl rfl (by omega) s1) (k:=?_))
  repeat(first|refine Jg ?_|refine Jo ?_|(refine JB ?_;intro b)|(refine JA ?_;intro ao cap))
  (apply Run.op;exact rfl;refine OpT.val_ (h:=by exact Still.sTo (i:=s.length-1) rfl rfl rfl (by omega) (by omega)) (k:=?_))
  repeat(first|refine Jg ?_|refine Jo ?_|(refine JB ?_;intro b)|(refine JA ?_;intro ao cap))
  (apply Run.op;exact rfl;refine OpT.val_ (h:=by exact Still.sAt (i:=j) rfl rfl rfl (by omega) (by omega)) (k:=?_))
  repeat(first|refine Jg ?_|refine Jo ?_|(refine JB ?_;intro b)|(refine JA ?_;intro ao cap))
  have hti:(s.take (s.length-1)).length≤1000:=by rw[List.length_take];omega
  obtain⟨top,hto⟩:∃x,x=s.getD (s.length-1) 0:=⟨_,rfl⟩;obtain⟨x,hx⟩:∃x,x=want.getD j 0:=⟨_,rfl⟩;rw[←hto,←hx]at z3⊢;have k42:((x.toNat:Int)=42)↔x=42:=u8_eq (y:=42);have k63:((x.toNat:Int)=63)↔x=63:=u8_eq (y:=63);have k110:((top.toNat:Int)=110)↔top=110:=u8_eq (y:=110);have k98:((top.toNat:Int)=98)↔top=98:=u8_eq (y:=98);have k0:((last.toNat:Int)=0)↔last=0:=u8_eq (y:=0);have kx:((top.toNat:Int)=(x.toNat:Int))↔top=x:=u8_eq;have kl:((last.toNat:Int)=(top.toNat:Int))↔last=top:=u8_eq;have hxx:(want.getD j 0)=x:=hx.symm
  by_cases c42:x=42
  ·have d42:=k42.2 c42;rw[if_pos c42]at z3;clear k42 k63 k110 k98 k0 kx kl
   repeat(first|refine Jg ?_|refine Jo ?_|(refine JB ?_;intro b)|(refine JA ?_;intro ao cap))
   refine End.round0_ hK1 (j,s.take (s.length-1),last) ?_ ?_
   ·exact⟨by omega,hti,z3⟩
   ·dsimp only;omega
  have d42:¬(x.toNat:Int)=42:=fun h=>c42 (k42.1 h)
  rw[if_neg c42]at z3
  by_cases c63:x=63
  ·have d63:=k63.2 c63;rw[if_pos c63]at z3
   by_cases cA:top≠110∧top≠98
   ·have dA:¬(top.toNat:Int)=110:=fun h=>cA.1 (k110.1 h)
    have dB:¬(top.toNat:Int)=98:=fun h=>cA.2 (k98.1 h)
    rw[if_pos (.inl cA)]at z3;subst z3;clear k42 k63 k110 k98 k0 kx kl
    repeat(first|refine Jg ?_|refine Jo ?_|(refine JB ?_;intro b)|(refine JA ?_;intro ao cap))
    (refine End.done2_ (()) (he:=Jv) (hp:=?_));trivial
   by_cases c0:last=0
   ·have d0:=k0.2 c0;rw[if_neg (fun h=>h.elim cA fun h=>h.1 c0)]at z3;rcases(show top=110∨top=98 from Classical.byContradiction fun h=>cA ⟨fun a=>h (.inl a),fun a=>h (.inr a)⟩)with cB|cB
    ·have dA:=k110.2 cB;clear k42 k63 k110 k98 k0 kx kl
     repeat(first|refine Jg ?_|refine Jo ?_|(refine JB ?_;intro b)|(refine JA ?_;intro ao cap))
     refine End.round0_ hK1 (j,s.take (s.length-1),top) ?_ ?_
     ·exact⟨by omega,hti,z3⟩
     ·dsimp only;omega
    ·have dA:=k98.2 cB;clear k42 k63 k110 k98 k0 kx kl
     repeat(first|refine Jg ?_|refine Jo ?_|(refine JB ?_;intro b)|(refine JA ?_;intro ao cap))
     refine End.round0_ hK1 (j,s.take (s.length-1),top) ?_ ?_
     ·exact⟨by omega,hti,z3⟩
     ·dsimp only;omega
   have d0:¬(last.toNat:Int)=0:=fun h=>c0 (k0.1 h)
   by_cases c1:last=top
   ·have d1:=kl.2 c1;rw[if_neg (fun h=>h.elim cA fun h=>h.2 c1)]at z3;rcases(show top=110∨top=98 from Classical.byContradiction fun h=>cA ⟨fun a=>h (.inl a),fun a=>h (.inr a)⟩)with cB|cB
    ·have dA:=k110.2 cB;clear k42 k63 k110 k98 k0 kx kl
     repeat(first|refine Jg ?_|refine Jo ?_|(refine JB ?_;intro b)|(refine JA ?_;intro ao cap))
     refine End.round0_ hK1 (j,s.take (s.length-1),top) ?_ ?_
     ·exact⟨by omega,hti,z3⟩
     ·dsimp only;omega
    ·have dA:=k98.2 cB;clear k42 k63 k110 k98 k0 kx kl
     repeat(first|refine Jg ?_|refine Jo ?_|(refine JB ?_;intro b)|(refine JA ?_;intro ao cap))
     refine End.round0_ hK1 (j,s.take (s.length-1),top) ?_ ?_
     ·exact⟨by omega,hti,z3⟩
     ·dsimp only;omega
   have d1:¬(last.toNat:Int)=(top.toNat:Int):=fun h=>c1 (kl.1 h)
   rw[if_pos (.inr ⟨c0,c1⟩)]at z3;subst z3;rcases(show top=110∨top=98 from Classical.byContradiction fun h=>cA ⟨fun a=>h (.inl a),fun a=>h (.inr a)⟩)with cB|cB
   ·have dA:=k110.2 cB;clear k42 k63 k110 k98 k0 kx kl
    repeat(first|refine Jg ?_|refine Jo ?_|(refine JB ?_;intro b)|(refine JA ?_;intro ao cap))
    (refine End.done2_ (()) (he:=Jv) (hp:=?_));trivial
   ·have dA:=k98.2 cB;clear k42 k63 k110 k98 k0 kx kl
    repeat(first|refine Jg ?_|refine Jo ?_|(refine JB ?_;intro b)|(refine JA ?_;intro ao cap))
    (refine End.done2_ (()) (he:=Jv) (hp:=?_));trivial
  have d63:¬(x.toNat:Int)=63:=fun h=>c63 (k63.1 h)
  rw[if_neg c63]at z3
  by_cases ce:top=x
  ·have de:=kx.2 ce;rw[if_neg (fun h=>h ce)]at z3;clear k42 k63 k110 k98 k0 kx kl
   repeat(first|refine Jg ?_|refine Jo ?_|(refine JB ?_;intro b)|(refine JA ?_;intro ao cap))
   (apply Run.op;exact rfl;refine OpT.val_ (h:=by exact Still.sAt (i:=j) rfl rfl rfl (by omega) (by omega)) (k:=?_));rw[hxx]
   repeat(first|refine Jg ?_|refine Jo ?_|(refine JB ?_;intro b)|(refine JA ?_;intro ao cap))
   refine End.round0_ hK1 (j,s.take (s.length-1),last) ?_ ?_
   ·exact⟨by omega,hti,z3⟩
   ·dsimp only;omega
  ·have de:¬(top.toNat:Int)=(x.toNat:Int):=fun h=>ce (kx.1 h)
   rw[if_pos ce]at z3;subst z3;clear k42 k63 k110 k98 k0 kx kl
   repeat(first|refine Jg ?_|refine Jo ?_|(refine JB ?_;intro b)|(refine JA ?_;intro ao cap))
   (apply Run.op;exact rfl;refine OpT.val_ (h:=by exact Still.sAt (i:=j) rfl rfl rfl (by omega) (by omega)) (k:=?_));rw[hxx]
   repeat(first|refine Jg ?_|refine Jo ?_|(refine JB ?_;intro b)|(refine JA ?_;intro ao cap))
   (refine End.done2_ (()) (he:=Jv) (hp:=?_));trivial
end
attribute [local irreducible] Run Cod End OpT Still RunQ RunS RunT Fn PutOk
theorem take_getD7{l:List Int}{P j:Nat}(h:j<P):(l.take P).getD j default=l.getD j default:=by
 rw[Jd,List.getElem?_take,if_pos h,Jd]
theorem map_snoc7{l:List Int}{j:Nat}(h:j<l.length):(l.take (j+1)).map Rf7.lt1=(l.take j).map Rf7.lt1 ++[Rf7.lt1 (l.getD j default)]:=by
 rw[Jp h,Jq,Jd,Je h];rfl
set_option maxHeartbeats 1000000 in
theorem params7_is(mb:Nat)(m:ML)(k:Nat)(hk:k<m.us.length)(P:Nat)(hP:(m.us.getD k default).u.params=(P:Int))(hl:P≤(m.us.getD k default).u.locals.length)(hl2:(m.us.getD k default).u.locals.length≤200)(hv:∀t∈(m.us.getD k default).u.locals,t=1∨t=2∨(10≤t∧t<40)):Fn Tryz.prog 106 #[.int .i64 (k:Int),ptr mb] [md m] [blk mb [.slice m.bo m.bx.length m.bc, .slice m.uo m.us.length m.uc] 25] (σ:=Unit) (fun _=>True) (fun _=>sv (((m.us.getD k default).u.locals.take P).map Rf7.lt1)) (fun _=>[blk mb [.slice m.bo m.bx.length m.bc, .slice m.uo m.us.length m.uc] 25]):=by
 refine JE [.int .i64 (k:Int),ptr mb] Tryz.func106 Tryz.ntmps106 fun w S=>?_
 (refine Jn ?_)
 repeat(first|refine Jg ?_|refine Jo ?_|(refine JB ?_;intro b)|(refine JA ?_;intro ao cap))
 apply Cod.draw 99 ([md m,blk mb [.slice m.bo m.bx.length m.bc, .slice m.uo m.us.length m.uc] 25]) (by kernel_rfl) 15 rfl;refine JN 0 ?_;refine JN 1 ?_;refine JN 2 ?_;refine JN 3 ?_;refine JN 4 ?_;refine JN 5 ?_;refine JN 6 ?_;refine JN 7 ?_;refine JN 8 ?_;refine JN 9 ?_;refine JN 10 ?_;refine JN 11 ?_;refine JN 14 ?_;rw[hP];(refine JT 12 ?_;refine OpT.cutMdL_ (m:=m) (k:=k) (kk:=?_);intro ao cap;refine JG ?_;(refine Jn ?_));refine JN 13 ?_;(apply RunT.done;kernel_rfl)
 repeat(first|refine Jg ?_|refine Jo ?_|(refine JB ?_;intro b)|(refine JA ?_;intro ao cap))
 refine Cod.only ((fun j=>[old w S,md m,blk mb [.slice m.bo m.bx.length m.bc, .slice m.uo m.us.length m.uc] 25,rd ao P cap i64c ((m.us.getD k default).u.locals.take P)]) 0) (tks) ?_;apply Cod.loop (σ:=Nat) (fun j=>j≤P) (fun j=>[(4,sv (((m.us.getD k default).u.locals.take j).map Rf7.lt1)),(19, .slice ao P cap),(20, .int .i64 (P:Int)),(21, .int .i64 (j:Int))]) (fun j=>[old w S,md m,blk mb [.slice m.bo m.bx.length m.bc, .slice m.uo m.us.length m.uc] 25,rd ao P cap i64c ((m.us.getD k default).u.locals.take P)]) (fun j=>P-j) 0
 rotate_left
 exact sb;exact tks;intro j hj K1 hK1;(refine Jn ?_)
 rotate_left
 ·exact Nat.zero_le _
 have hjl:(((m.us.getD k default).u.locals.take j).map Rf7.lt1).length≤1000:=by rw[Jf,List.length_take];omega
 by_cases hjn:j<P
 ·have hT:=take_getD7 (l:=(m.us.getD k default).u.locals) hjn;have hv2:=hv _ (getD_mem (l:=(m.us.getD k default).u.locals) (k:=j) (by omega));have hsn:=map_snoc7 (l:=(m.us.getD k default).u.locals) (j:=j) (by omega)
  repeat(first|refine Jg ?_|refine Jo ?_|(refine JB ?_;intro b)|(refine JA ?_;intro ao cap))
  rw[hT];refine Jc ?_;refine OpT.call0_ (spec:=letter_is _ hv2) (k:=?_);intro s hs;(refine Jn ?_);have h1:([Rf7.lt1 ((m.us.getD k default).u.locals.getD j default)]:List UInt8).length≤1000:=by simp
  (apply Run.op;exact rfl;refine OpT.val_ (h:=by exact Still.sAdd rfl rfl (by omega) (by omega)) (k:=?_));rw[←hsn]
  repeat(first|refine Jg ?_|refine Jo ?_|(refine JB ?_;intro b)|(refine JA ?_;intro ao cap))
  refine End.round0_ hK1 (j+1) ?_ ?_
  ·omega
  ·omega
 ·obtain rfl:j=P:=by omega
  clear hK1
  repeat(first|refine Jg ?_|refine Jo ?_|(refine JB ?_;intro b)|(refine JA ?_;intro ao cap))
  (refine End.done1_ (()) (he:=Jv) (hp:=?_));trivial
end Go.Proofs.YtjehflelkpacfaaGreat.Vw
