/- Steps of what package verify computes, one by one: plain Lean. -/
import Derived.Test.YtofckcabpchcmaaGreatDoorM13
set_option linter.unusedVariables false
set_option linter.unusedSimpArgs false
set_option linter.unusedSectionVars false
set_option maxRecDepth 100000
namespace Go.Proofs.YtofckcabpchcmaaGreatDoor
namespace Ver
open ImgM
theorem QE{i:Nat}{b:Int×Int}{r}(h:plain b.1=false):boxes i (b::r)=⟨9,0,i⟩:=by unfold boxes;rw[if_pos h]
theorem IC{i:Nat}{b:Int×Int}{r}(h:plain b.1=true)(h2:b.2<1∨20<b.2):boxes i (b::r)=⟨3,0,i⟩:=by unfold boxes;rw[if_neg (by rw[h];decide),if_pos h2]
theorem QF{i:Nat}{b:Int×Int}{r}(h:plain b.1=true)(h2:¬(b.2<1∨20<b.2)):boxes i (b::r)=boxes (i+1) r:=by
 conv=>lhs;unfold boxes
 rw[if_neg (by rw[h];decide),if_neg h2]
theorem S3{M:aL}{u:bM}{k j:Nat}{i:aT}{r}(h:¬eV M u i=0):qN M u k j (i::r)=⟨eV M u i,k,j⟩:=by unfold qN;rw[if_pos h]
theorem S4{M:aL}{u:bM}{k j:Nat}{i:aT}{r}(h:eV M u i=0):qN M u k j (i::r)=qN M u k (j+1) r:=by
 conv=>lhs;unfold qN
 rw[if_neg (fun h'=>h' h)]
theorem YC{M:aL}{k:Nat}{u:bM}(h:¬head M u=0):unit M k u=⟨head M u,k,0⟩:=by unfold unit;rw[if_pos h]
theorem YD{M:aL}{k:Nat}{u:bM}(h:head M u=0):unit M k u=qN M u k 0 u.code:=by unfold unit;rw[if_neg (fun h'=>h' h)]
theorem OB{M:aL}{k:Nat}{u:bM}{r}(h:¬(unit M k u).err=0):aJ M k (u::r)=unit M k u:=by unfold aJ;rw[if_pos h]
theorem OC{M:aL}{k:Nat}{u:bM}{r}(h:(unit M k u).err=0):aJ M k (u::r)=aJ M (k+1) r:=by
 conv=>lhs;unfold aJ
 rw[if_neg (fun h'=>h' h)]
theorem R5{M:aL}(h:30<M.boxes.length∨30<M.aJ.length):form M=⟨5,0,0⟩:=by unfold form;rw[if_pos h]
theorem E8{M:aL}{w:kA}(h:¬(30<M.boxes.length∨30<M.aJ.length))(hb:boxes 0 M.boxes=w)(he:¬w.err=0):form M=w:=by unfold form;rw[if_neg h,hb,if_pos he]
theorem KF{M:aL}{w:kA}(h:¬(30<M.boxes.length∨30<M.aJ.length))(hb:(boxes 0 M.boxes).err=0)(hu:aJ M 0 M.aJ=w)(he:¬w.err=0):form M=w:=by
 unfold form;rw[if_neg h,if_neg (fun h'=>h' hb),hu,if_pos he]
theorem R6{M:aL}(h:¬(30<M.boxes.length∨30<M.aJ.length))(hb:(boxes 0 M.boxes).err=0)(hu:(aJ M 0 M.aJ).err=0)(ht:(M.aJ.filter (fun u=>decide (u.kind=4))).length=0):form M=⟨6,0,0⟩:=by
 unfold form;rw[if_neg h,if_neg (fun h'=>h' hb),if_neg (fun h'=>h' hu),if_pos ht]
theorem R7{M:aL}(h:¬(30<M.boxes.length∨30<M.aJ.length))(hb:(boxes 0 M.boxes).err=0)(hu:(aJ M 0 M.aJ).err=0)(ht:¬(M.aJ.filter (fun u=>decide (u.kind=4))).length=0):form M=⟨0,0,0⟩:=by
 unfold form;rw[if_neg h,if_neg (fun h'=>h' hb),if_neg (fun h'=>h' hu),if_neg ht];rfl
theorem aHW{l:List bM}{u:bM}{t:Nat}(ht:t=(l.filter (fun u=>decide (u.kind=4))).length):((l ++[u]).filter (fun u=>decide (u.kind=4))).length=if u.kind=4 then t+1 else t:=by
 rw[qD,Jl,←ht]
 by_cases h:u.kind=4<;>simp[h]
end Ver
namespace Vw
open Go.RowKit Img
section
attribute [local irreducible] aE aG End aB Still aN aU RunT Fn aS
def HN(w:Ver.kA):List Value:=[.int .i64 w.err, .int .i64 w.unit, .int .i64 w.at_]
abbrev s8(w:Ver.kA):Value:= .agg (HN w).toArray
theorem nO{a b c:Int}{w:Ver.kA}(h:w=⟨a,b,c⟩):s8 w= .agg [Value.int .i64 a,Value.int .i64 b,Value.int .i64 c].toArray:=by subst h;rfl
set_option maxHeartbeats 1000000 in
theorem aBu(cb mb:Nat)(m:ML)(hwf:m.Wf):Fn Tryz.prog 45 #[ptr cb] [md m] (ck cb mb m) (σ:=Unit) (fun _=>True) (fun _=>s8 (Ver.form m.aC)) (fun _=>ck cb mb m):=by
 refine JE [ptr cb] Tryz.func45 Tryz.ntmps45 fun w S=>?_;refine Jn ?_;apply aG.fact m.Small (fun w hm=>(nI.1 (hm.has tk)).small);intro hsm;have hs1:=hsm.bx;have hs2:=hsm.us;have hnu:m.aC.aJ.length=m.us.length:=aW
 by_cases hmany:30<m.bx.length∨30<m.us.length
 ·have hf:Ver.form m.aC=⟨5,0,0⟩:=Ver.R5 (by rw[hnu];exact hmany)
  repeat' (first|refine Jo ?_|(refine JB ?_;intro b)|(refine JA ?_;intro ao cap)|refine gQ (k:=fun h=>?_) (k':=fun h=>?_)|fail)
  all_goals ((refine End.fX (()) (he:=by exact nO hf) (hp:=?_));trivial)
 have hmany':¬(30<m.aC.boxes.length∨30<m.aC.aJ.length):=by rw[hnu];exact hmany
 repeat(refine Jy ?_;try intro b)
 rename Nat=>b0
 refine kS (σ:=Nat) (fun k=>k≤m.bx.length∧Ver.boxes 0 m.bx=Ver.boxes k (m.bx.drop k)) (fun k=>[(0,ptr cb),(2,ptr b0),(39, .slice m.bo m.bx.length m.bc),(40, .int .i64 m.bx.length),(41, .int .i64 k)]) (fun _=>aO w S::md m::aF b0 [.int .i64 0, .int .i64 0, .int .i64 0] 51::ck cb mb m) (fun k=>m.bx.length-k) 0 ?_ fun s hs K hK=>?_
 ·exact⟨aA,aW⟩
 refine Jn ?_
 rename Nat=>k
 obtain⟨hk,hbx⟩:=hs
 by_cases h:k<m.bx.length
 ·rw[drop_cons h]at hbx;have hw:=hwf.bx _ (dW h);unfold ImgM.In64 at hw
  repeat' (first|(refine Jc ?_;refine aB.bA (spec:=DB _) (k:=?_);intro s hs;refine Jn ?_)|refine Jo ?_|(refine JB ?_;intro b)|(refine JA ?_;intro ao cap)|refine gQ (k:=fun h=>?_) (k':=fun h=>?_)|fail)
  ·(refine End.fX (()) (he:=by exact nO (Ver.E8 hmany' (hbx.trans (Ver.QE (by assumption))) aW)) (hp:=?_));trivial
  ·(refine End.fX (()) (he:=by exact nO (Ver.E8 hmany' (hbx.trans (Ver.IC (by assumption) aA)) aW)) (hp:=?_));trivial
  ·(refine End.fX (()) (he:=by exact nO (Ver.E8 hmany' (hbx.trans (Ver.IC (by assumption) aA)) aW)) (hp:=?_));trivial
  ·refine End.bK hK (k+1) ?_ ?_
   ·exact⟨aA,hbx.trans (Ver.QF (by assumption) aA)⟩
   ·omega
 rw[iS aA]at hbx;have hb0:(Ver.boxes 0 m.aC.boxes).err=0:=by rw[show Ver.boxes 0 m.aC.boxes=_ from hbx];rfl
 clear hbx hK;refine aD ?_;refine kS (σ:=Nat×Nat) (fun s=>s.1≤m.us.length∧Ver.aJ m.aC 0 m.aC.aJ=Ver.aJ m.aC s.1 (m.aC.aJ.drop s.1)∧s.2=((m.aC.aJ.take s.1).filter (fun u=>decide (u.kind=4))).length) (fun s=>[(0,ptr cb),(2,ptr b0),(5, .int .i64 s.2),(70, .int .i64 m.us.length),(71, .int .i64 s.1)]) (fun _=>aO w S::md m::aF b0 [.int .i64 0, .int .i64 0, .int .i64 0] 51::ck cb mb m) (fun s=>m.us.length-s.1) (0,0) ?_ fun s hs K hK=>?_
 ·exact⟨by simp only;omega,aW,aW⟩
 refine Jn ?_;obtain⟨k,t⟩:=s;obtain⟨hk,hun,ht⟩:=hs;simp only at hk hun ht hK⊢
 by_cases hku:k<m.us.length
 ·have hd:=drop_cons (show k<m.aC.aJ.length by omega);have htk:=mM (show k<m.aC.aJ.length by omega);rw[ML.jK]at hd htk;rw[hd]at hun;have hts:=Ver.aHW (u:=(m.us.getD k default).u) ht;rw[←htk]at hts;have hwu:=hwf.us _ (ML.lW hku);have ht2:t≤k:=by rw[ht];exact dP (nS _ _) (List.length_take_le _ _)
  clear ht hd htk
  repeat' (first|(refine dV (aCR cb mb m k hku hwu.locals (hsm.lo k hku)) fun s hs=>?_)|refine Jo ?_|(refine JB ?_;intro b)|(refine JA ?_;intro ao cap)|refine gQ (k:=fun h=>?_) (k':=fun h=>?_)|fail)
  ·have hu1:=Ver.YC (M:=m.aC) (k:=k) (by assumption);(refine End.fX (()) (he:=by exact nO (Ver.KF hmany' hb0 (hun.trans ((Ver.OB (by rw[hu1];assumption)).trans hu1)) (by assumption))) (hp:=?_));trivial
  ·have hh0:Ver.head m.aC (m.us.getD k default).u=0:=by assumption
   have hu2:=Ver.YD (M:=m.aC) (k:=k) hh0;have hlc:=hsm.co k hku;have hlen:(m.us.getD k default).u.code.length=(m.us.getD k default).u.code.length:=rfl;refine kS (σ:=Nat) (fun j=>j≤(m.us.getD k default).u.code.length∧Ver.qN m.aC (m.us.getD k default).u k 0 (m.us.getD k default).u.code=Ver.qN m.aC (m.us.getD k default).u k j ((m.us.getD k default).u.code.drop j)) (fun j=>[(0,ptr cb),(2,ptr b0),(5, .int .i64 t),(6, .int .i64 k),(7,up m k),(70, .int .i64 m.us.length),(71, .int .i64 k),(94, .slice (m.us.getD k default).co (m.us.getD k default).u.code.length (m.us.getD k default).cc),(95, .int .i64 ((m.us.getD k default).u.code.length:Int)),(96, .int .i64 j)]) (fun _=>aO w S::md m::aF b0 [.int .i64 0, .int .i64 0, .int .i64 0] 51::ck cb mb m) (fun j=>(m.us.getD k default).u.code.length-j) 0 ?_ fun j hj KJ hKJ=>?_
   ·exact⟨aA,aW⟩
   refine Jn ?_;obtain⟨hj1,hj2⟩:=hj
   by_cases hjl:j<(m.us.getD k default).u.code.length
   ·rw[drop_cons hjl]at hj2;have hi0:(m.us.getD k default).u.code.getD j default∈(m.us.getD k default).u.code:=dW hjl
    repeat' (first|(refine Jc ?_;refine aB.bA (spec:=aC3 cb mb m k hku _) (k:=?_);intro s hs;refine Jn ?_)|refine Jo ?_|(refine JB ?_;intro b)|(refine JA ?_;intro ao cap)|refine gQ (k:=fun h=>?_) (k':=fun h=>?_)|fail)
    ·have hi1:=Ver.S3 (M:=m.aC) (i:=(m.us.getD k default).u.code.getD j default) (u:=(m.us.getD k default).u) (k:=k) (j:=j) (r:=(m.us.getD k default).u.code.drop (j+1)) (by assumption);have hu3:=hu2.trans (hj2.trans hi1);(refine End.fX (()) (he:=by exact nO (Ver.KF hmany' hb0 (hun.trans ((Ver.OB (by rw[hu3];assumption)).trans hu3)) (by assumption))) (hp:=?_));trivial
    ·refine End.bK hKJ (j+1) ?_ ?_
     ·exact⟨aA,hj2.trans (Ver.S4 (by assumption))⟩
     ·omega
   ·have hu3:(Ver.unit m.aC k (m.us.getD k default).u).err=0:=by
     rw[hu2,hj2,iS aA];rfl
    repeat' (first|refine Jo ?_|(refine JB ?_;intro b)|(refine JA ?_;intro ao cap)|refine gQ (k:=fun h=>?_) (k':=fun h=>?_)|fail)
    ·refine End.bK hK (k+1,t+1) ?_ ?_
     ·refine⟨by simp only;omega,hun.trans (Ver.OC hu3),?_⟩;rw[hts,if_pos (by assumption)]
     ·simp only;omega
    ·refine End.bK hK (k+1,t) ?_ ?_
     ·refine⟨by simp only;omega,hun.trans (Ver.OC hu3),?_⟩;rw[hts,if_neg (by assumption)]
     ·simp only;omega
 ·rw[iS (by rw[hnu];omega)]at hun;rw[kN (by rw[hnu];omega)]at ht;have hu0:(Ver.aJ m.aC 0 m.aC.aJ).err=0:=by rw[hun];rfl
  repeat' (first|refine Jo ?_|(refine JB ?_;intro b)|(refine JA ?_;intro ao cap)|refine gQ (k:=fun h=>?_) (k':=fun h=>?_)|fail)
  ·(refine End.fX (()) (he:=by exact nO (Ver.R6 hmany' hb0 hu0 (by rw[←ht];omega))) (hp:=?_));trivial
  ·(refine End.fX (()) (he:=by exact nO (Ver.R7 hmany' hb0 hu0 (by rw[←ht];omega))) (hp:=?_));trivial
end
end Vw
namespace Ver
open ImgM
structure Same(f g:aZ):Prop where
 at_:g.at_=f.at_
 todo:g.todo=f.todo
 has:g.has=f.has
theorem Same.refl(f:aZ):Same f f:=⟨rfl,rfl,rfl⟩
theorem Same.trans{f g h:aZ}(a:Same f g)(b:Same g h):Same f h:=⟨b.at_.trans a.at_,b.todo.trans a.todo,b.has.trans a.has⟩
structure Kept(N:Nat)(f g:aZ):Prop where
 same:Same f g
 len:g.stack.length≤N
 ty:(∀t∈f.stack,In64 t)→∀t∈g.stack,In64 t
 err:¬f.err=0→g.err=f.err
theorem xO(e:Int)(f:aZ):Kept f.stack.length f (fail e f):=by
 unfold fail
 split
 ·exact⟨⟨rfl,rfl,rfl⟩,bS _,fun h=>h,fun h=>absurd ‹f.err=0› h⟩
 ·exact⟨⟨rfl,rfl,rfl⟩,bS _,fun h=>h,fun _=>rfl⟩
theorem CD(e:Int)(he:¬e=0)(f:aZ):¬(fail e f).err=0:=by
 unfold fail
 split
 ·exact he
 ·assumption
theorem Kept.refl(f:aZ):Kept f.stack.length f f:=⟨Same.refl f,bS _,fun h=>h,fun _=>rfl⟩
theorem Kept.le{N M:Nat}{f g:aZ}(h:Kept N f g)(hm:N≤M):Kept M f g:=⟨h.same,dP h.len hm,h.ty,h.err⟩
theorem Kept.trans{N M:Nat}{f g h:aZ}(a:Kept N f g)(b:Kept M g h):Kept M f h:=
 ⟨a.same.trans b.same,b.len,fun t=>b.ty (a.ty t),fun e=>(b.err (by rw[a.err e];exact e)).trans (a.err e)⟩
theorem uH(f:aZ):Kept f.stack.length f (pop f).2:=by
 unfold pop
 split
 ·exact xO _ _
 ·exact⟨⟨rfl,rfl,rfl⟩,aW,fun h t ht=>h t (List.mem_of_mem_take ht),fun _=>rfl⟩
theorem aIO(t:Int)(f:aZ):Kept f.stack.length f (lX t f):=by
 have h:=uH f;unfold lX
 split
 ·exact(h.trans (xO 9 _)).le h.len
 ·exact h
theorem wQ(l:List Int)(f:aZ):Kept f.stack.length f (want l f):=by
 induction l with
 |nil=>exact Kept.refl f
 |cons t r ih=>exact(ih.trans (aIO t _)).le ih.len
theorem aEl(t:Int)(f:aZ)(ht:In64 t):Kept (f.stack.length+1) f (push t f):=by
 unfold push
 split
 ·have h:=xO 4 {f with stack:=f.stack ++[t]};refine⟨⟨h.same.at_,h.same.todo,h.same.has⟩,by have:=h.len;simpa using this,fun hf=>h.ty (fun u hu=>?_),h.err⟩;rcases dF.1 hu with hu|hu
  ·exact hf u hu
  ·simp at hu;rw[hu];exact ht
 ·refine⟨⟨rfl,rfl,rfl⟩,aW,fun hf u hu=>?_,fun _=>rfl⟩;rcases dF.1 hu with hu|hu
  ·exact hf u hu
  ·simp at hu;rw[hu];exact ht
theorem aEm(t:Int)(f:aZ)(h:(push t f).err=0):(push t f).stack.length≤300:=by
 unfold push at h⊢
 split
 ·rename_i h1
  rw[if_pos h1]at h;exact absurd h (CD 4 aK _)
 ·simp;omega
theorem PR(M:aL)(k:Int)(f:aZ):Kept f.stack.length f (args M k f):=wQ _ _
theorem SI(M:aL)(f:aZ):Kept f.stack.length f (gen M f).2:=by
 have h:=uH f;unfold gen
 split
 ·exact h
 split
 ·exact(h.trans (xO 9 _)).le h.len
 ·exact h
theorem aBP(f:aZ):Kept f.stack.length f (done f):=by
 unfold done
 split
 ·exact Kept.refl f
 ·exact xO _ _
structure Good(M:aL)(u:bM):Prop where
 aJ:∀k,k<M.aJ.length→In64 (M.aJ.getD k default).result∧In64 (M.aJ.getD k default).aP
 boxes:∀k,k<M.boxes.length→In64 (M.boxes.getD k default).1
 locals:∀t∈u.locals,In64 t
 result:In64 u.result
 aP:In64 u.aP
 eL:M.aJ.length≤30
 code:∀i∈u.code,eV M u i=0
theorem A0{b:Bool}(h:kG b=0):b=true:=by
 unfold kG at h
 split at h
 ·assumption
 ·cases h
theorem unit_eq{M:aL}{i kind:Int}(h:isUnit M i kind=true):0≤i∧i<(M.aJ.length:Int)∧(M.aJ.getD i.toNat default).kind=kind:=by
 simp only[isUnit,JX,JV]at h;exact⟨h.1.1,h.1.2,h.2⟩
structure uX(M:aL)(u:bM)(i:aT):Prop where
 op:1≤i.op∧i.op≤32
 loc:i.op=3∨i.op=4→0≤i.a∧i.a<(u.locals.length:Int)
 jump:i.op=21∨i.op=22→0≤i.a∧i.a<(u.code.length:Int)
 call:i.op=23→isUnit M i.a 2=true
 start:i.op=29→isUnit M i.a 3=true
 box:i.op=26∨i.op=27→0≤i.a∧i.a<(M.boxes.length:Int)
theorem CJ{M:aL}{u:bM}{i:aT}(h:eV M u i=0):uX M u i:=by
 unfold eV at h
 by_cases h1:i.op=2
 ·exact⟨aA,aA,aA,aA,aA,aA⟩
 rw[if_neg h1]at h
 by_cases h2:i.op=3∨i.op=4
 ·rw[if_pos h2]at h;have:=A0 h;simp only[JX,JV]at this;exact⟨aA,fun _=>this,aA,aA,aA,aA⟩
 rw[if_neg h2]at h
 by_cases h3:i.op=21∨i.op=22
 ·rw[if_pos h3]at h;have:=A0 h;simp only[JX,JV]at this;exact⟨aA,aA,fun _=>this,aA,aA,aA⟩
 rw[if_neg h3]at h
 by_cases h4:i.op=23
 ·rw[if_pos h4]at h;exact⟨aA,aA,aA,fun _=>A0 h,aA,aA⟩
 rw[if_neg h4]at h
 by_cases h5:i.op=29
 ·rw[if_pos h5]at h;exact⟨aA,aA,aA,aA,fun _=>A0 h,aA⟩
 rw[if_neg h5]at h
 by_cases h6:i.op=26∨i.op=27
 ·rw[if_pos h6]at h;have:=A0 h;simp only[JX,JV]at this;exact⟨aA,aA,aA,aA,aA,fun _=>this⟩
 rw[if_neg h6]at h
 by_cases h7:i.op<1∨32<i.op
 ·rw[if_pos h7]at h;cases h
 ·exact⟨aA,aA,aA,aA,aA,aA⟩
theorem getD_in{l:List Int}{k:Nat}(h:∀t∈l,In64 t):In64 (l.getD k 0):=by
 rw[Jd];rcases Nat.lt_or_ge k l.length with hk|hk
 ·rw[Je hk];exact h _ (hZ _)
 ·rw[yZ hk];unfold In64;simp
theorem KX:In64 1:=by unfold In64;omega
theorem zX:In64 2:=by unfold In64;omega
structure iA(f g:aZ):Prop where
 kept:Kept (f.stack.length+1) f g
 ok:g.err=0→f.stack.length≤300→g.stack.length≤300
theorem iA.of{f g:aZ}(h:Kept f.stack.length f g):iA f g:=⟨h.le (sE _),fun _ hl=>dP h.len hl⟩
theorem iA.push{f g:aZ}(h:Kept f.stack.length f g)(t:Int)(ht:In64 t):iA f (push t g):=
 ⟨(h.trans (aEl t g ht)).le (Nat.succ_le_succ h.len),fun he _=>aEm t g he⟩
theorem Kept.fail{f g:aZ}(h:Kept f.stack.length f g)(e:Int):Kept f.stack.length f (fail e g):=(h.trans (xO e g)).le h.len
theorem Kept.ite{f:aZ}{c:Prop} [Decidable c]{a b:aZ}(ha:Kept f.stack.length f a)(hb:Kept f.stack.length f b):Kept f.stack.length f (if c then a else b):=by split<;>assumption
theorem Kept.want{f g:aZ}(h:Kept f.stack.length f g)(l:List Int):Kept f.stack.length f (want l g):=(h.trans (wQ l g)).le h.len
theorem Kept.done{f g:aZ}(h:Kept f.stack.length f g):Kept f.stack.length f (done g):=(h.trans (aBP g)).le h.len
theorem aG9{M:aL}{u:bM}(hg:Good M u){i:aT}(hi:uX M u i)(f:aZ):iA f (eP M u i f).2:=by
 unfold eP
 by_cases h1:i.op=23
 ·rw[if_pos h1];obtain⟨g1,g2,g3⟩:=unit_eq (hi.call h1);exact iA.push (PR M _ f) _ (hg.aJ i.a.toNat aA).1
 rw[if_neg h1]
 by_cases h2:i.op=29
 ·rw[if_pos h2];obtain⟨g1,g2,g3⟩:=unit_eq (hi.start h2);have:=hg.eL;exact iA.push (PR M _ f) _ (by unfold In64;omega)
 rw[if_neg h2]
 by_cases h3:i.op=24
 ·rw[if_pos h3];exact iA.of (((Kept.refl f).fail 8|>.ite (Kept.refl f)).want _|>.done)
 rw[if_neg h3]
 by_cases h4:i.op=25
 ·rw[if_pos h4];exact iA.of (((Kept.refl f).fail 8|>.ite (Kept.refl f)).done)
 rw[if_neg h4]
 by_cases h5:i.op=26
 ·rw[if_pos h5];exact iA.of ((Kept.refl f).want _)
 rw[if_neg h5]
 by_cases h6:i.op=27
 ·rw[if_pos h6];have:=hi.box (.inr h6);exact iA.push (Kept.refl f) _ (hg.boxes i.a.toNat aA)
 rw[if_neg h6]
 by_cases h7:i.op=28
 ·rw[if_pos h7];exact iA.of ((uH f).fail 9|>.ite (uH f))
 rw[if_neg h7]
 by_cases h8:i.op=30
 ·rw[if_pos h8];have hk:=(uH f).trans (SI M (pop f).2);have hk':=hk.le (uH f).len;have hu:∀k,(gen M (pop f).2).1=some k→0≤k∧k<(M.aJ.length:Int):=by
   unfold gen
   split
   ·intro k h;cases h
   split
   ·intro k h;cases h
   ·intro k h
    rename_i h2
    simp only[tE]at h;subst h;have h3:handle M (pop (pop f).2).1=true:=by simpa using h2
    simp only[handle,JX]at h3;obtain⟨q1,q2, -⟩:=unit_eq h3.2;exact⟨q1,q2⟩
  generalize gen M (pop f).2=G at *;obtain⟨o,g⟩:=G
  cases o with
  |none=>exact iA.of hk'
  |some k=>
   have:=hu k rfl;exact iA.push ((hk'.fail 9).ite hk') _ (hg.aJ k.toNat aA).1
 rw[if_neg h8]
 by_cases h9:i.op=31
 ·rw[if_pos h9];exact iA.push (((Kept.refl f).fail 8|>.ite (Kept.refl f)).want _) _ hg.aP
 rw[if_neg h9]
 by_cases h10:i.op=32
 ·rw[if_pos h10];exact iA.push (SI M f) _ zX
 rw[if_neg h10];exact iA.of (Kept.refl f)
inductive B6(M:aL)(u:bM)(i:aT)(f:aZ):Bool×aZ→Prop
 |plain {b:Bool} {g:aZ}:i.op≠4→i.op≠21→i.op≠22→iA f g→B6 M u i f (b,g)
 |store {g:aZ}:i.op=4→Kept f.stack.length f g→B6 M u i f (true,{g with has:=g.has.set i.a.toNat true})
 |jump:i.op=21→B6 M u i f (false,to u.code.length i.a f)
 |fJ:i.op=22→B6 M u i f (true,to u.code.length i.a (want [2] f))
theorem aHD{M:aL}{u:bM}(hg:Good M u){i:aT}(hi:uX M u i)(f:aZ):B6 M u i f (step M u i f):=by
 unfold step
 by_cases h1:i.op=1
 ·rw[if_pos h1];exact .plain aA aA aA (iA.push (Kept.refl f) _ KX)
 rw[if_neg h1]
 by_cases h2:i.op=2
 ·rw[if_pos h2];exact .plain aA aA aA (iA.push (Kept.refl f) _ zX)
 rw[if_neg h2]
 by_cases h3:i.op=3
 ·rw[if_pos h3];exact .plain aA aA aA (iA.push (by split;exact Kept.refl f;exact(Kept.refl f).fail 11) _ (getD_in hg.locals))
 rw[if_neg h3]
 by_cases h4:i.op=4
 ·rw[if_pos h4];exact .store h4 ((Kept.refl f).want _)
 rw[if_neg h4]
 by_cases h5:i.op=5
 ·rw[if_pos h5];exact .plain aA aA aA (iA.of (uH f))
 rw[if_neg h5]
 by_cases h6:i.op=6
 ·rw[if_pos h6];exact .plain aA aA aA (iA.push ((Kept.refl f).want _) _ KX)
 rw[if_neg h6]
 by_cases h7:i.op=7
 ·rw[if_pos h7];exact .plain aA aA aA (iA.push ((Kept.refl f).want _) _ zX)
 rw[if_neg h7]
 by_cases h8:8≤i.op∧i.op≤12
 ·rw[if_pos h8];exact .plain aA aA aA (iA.push ((Kept.refl f).want _) _ KX)
 rw[if_neg h8]
 by_cases h9:i.op=13∨i.op=14
 ·rw[if_pos h9];exact .plain aA aA aA (iA.push (((uH f).fail 9|>.ite (uH f)).want _) _ zX)
 rw[if_neg h9]
 by_cases h10:15≤i.op∧i.op≤18
 ·rw[if_pos h10];exact .plain aA aA aA (iA.push ((Kept.refl f).want _) _ zX)
 rw[if_neg h10]
 by_cases h11:i.op=19∨i.op=20
 ·rw[if_pos h11];exact .plain aA aA aA (iA.push ((Kept.refl f).want _) _ zX)
 rw[if_neg h11]
 by_cases h12:i.op=21
 ·rw[if_pos h12];exact .jump h12
 rw[if_neg h12]
 by_cases h13:i.op=22
 ·rw[if_pos h13];exact .fJ h13
 rw[if_neg h13];have:=aG9 hg hi f;generalize eP M u i f=G at *;obtain⟨b,g⟩:=G;exact .plain h4 h12 h13 this
theorem RY(k:Int):find [] k=none:=rfl
theorem tR(p:Int×Shape)(l:List (Int×Shape))(k:Int):find (p::l) k=if p.1=k then some p.2 else find l k:=by
 unfold find
 by_cases h:p.1=k<;>simp[h]
theorem I6(l:List (Int×Shape))(p q:Int)(s:Shape)(h:find l p=none):find (l ++[(p,s)]) q=if p=q then some s else find l q:=by
 induction l with
 |nil=>simp[tR,RY]
 |cons a l ih=>
  rw[tR]at h
  by_cases ha:a.1=p
  ·rw[if_pos ha]at h;cases h
  ·rw[if_neg ha]at h;rw[w9,tR,tR,ih h]
   by_cases haq:a.1=q
   ·have:¬p=q:=fun h=>ha (by rw[haq,h]);rw[if_pos haq,if_neg this,if_pos haq]
   ·rw[if_neg haq,if_neg haq]
theorem I7(l:List (Int×Shape))(p q:Int)(s s0:Shape)(h:find l p=some s0):find (put l p s) q=if p=q then some s else find l q:=by
 induction l with
 |nil=>cases h
 |cons a l ih=>
  rw[tR]at h;unfold put
  by_cases ha:a.1=p
  ·rw[if_pos ha,tR,tR]
   by_cases hpq:p=q
   ·rw[if_pos (by rw[ha];exact hpq),if_pos hpq]
   ·rw[if_neg (by simp only;rw[ha];exact hpq),if_neg hpq,if_neg (by rw[ha];exact hpq)]
  ·rw[if_neg ha]at h;rw[if_neg ha,tR,tR,ih h]
   by_cases haq:a.1=q
   ·have:¬p=q:=fun h=>ha (by rw[haq,h]);rw[if_pos haq,if_neg this,if_pos haq]
   ·rw[if_neg haq,if_neg haq]
theorem CR:∀(a b:List Bool),a.length=b.length→(meet a b).length=a.length
 |[],[],_=>rfl
 |[],_::_,h=>by cases h
 |_::_,[],h=>by cases h
 |x::a,y::b,h=>by simp[meet,CR a b (by simpa using h)]
theorem TS:∀(a b:List Bool),a.length=b.length→(meet a b).count true≤a.count true∧(¬meet a b=a→(meet a b).count true<a.count true)
 |[],[],_=>⟨bS _,fun h=>absurd rfl h⟩
 |[],_::_,h=>by cases h
 |_::_,[],h=>by cases h
 |x::a,y::b,h=>by
  obtain⟨h1,h2⟩:=TS a b (by simpa using h);unfold meet
  cases x<;>cases y<;>simp only[Bool.and_true,Bool.and_false,xF,Bool.false_and,List.count_cons,beq_self_eq_true,if_true]
  ·exact⟨by simpa using h1,fun hn=>by have:=h2 (fun e=>hn (by rw[e]));simpa using this⟩
  ·exact⟨by simpa using h1,fun hn=>by have:=h2 (fun e=>hn (by rw[e]));simpa using this⟩
  ·refine⟨by simp;omega,fun _=>by simp;omega⟩
  ·exact⟨aA,fun hn=>by have:=h2 (fun e=>hn (by rw[e]));omega⟩
def weight(L:Nat):Option Shape→Nat
 |none=>L+1
 |some s=>s.2.count true
def room(n L:Nat)(l:List (Int×Shape)):Nat:=((List.range n).map fun(p:Nat)=>weight L (find l (p:Int))).sum
theorem WA(n L:Nat):room n L []=n*(L+1):=by
 unfold room;simp only[RY,weight]
 induction n with
 |zero=>simp
 |succ n ih=>rw[nT,Jq,List.sum_append,ih];simp[Nat.add_mul]
theorem XO(g h:Nat→Nat):∀(l:List Nat),(∀p,g p≤h p)→(l.map g).sum≤(l.map h).sum
 |[],_=>bS _
 |a::l,hle=>by
  simp only[fI,List.sum_cons];have:=XO g h l hle;have:=hle a;omega
theorem NO(g h:Nat→Nat)(p0:Nat)(hlt:g p0<h p0):∀(l:List Nat),(∀p,g p≤h p)→p0∈l→(l.map g).sum<(l.map h).sum
 |[],_,hp=>by cases hp
 |a::l,hle,hp=>by
  simp only[fI,List.sum_cons];have h1:=hle a;have h2:=XO g h l hle;rcases cY.1 hp with rfl|hp
  ·omega
  ·have:=NO g h p0 hlt l hle hp;omega
structure Inv(n L:Nat)(f:aZ):Prop where
 has:f.has.length=L
 pK:∀p s,find f.at_ p=some s→s.1.length≤300∧(∀t∈s.1,In64 t)∧s.2.length=L
 todo:∀p∈f.todo,0≤p∧p<(n:Int)∧(find f.at_ p).isSome=true
theorem Inv.same{n L:Nat}{f g:aZ}(h:Inv n L f)(s:Same f g):Inv n L g:=
 ⟨by rw[s.has];exact h.has,by rw[s.at_];exact h.pK,by rw[s.todo,s.at_];exact h.todo⟩
structure zG(n L:Nat)(f g:aZ):Prop where
 inv:Inv n L g
 stack:g.stack=f.stack
 has:g.has=f.has
 err:¬f.err=0→g.err=f.err
 mu:g.todo.length+room n L g.at_≤f.todo.length+room n L f.at_
 aO:∀p,(find f.at_ p).isSome=true→(find g.at_ p).isSome=true
theorem zG.refl{n L:Nat}{f:aZ}(h:Inv n L f):zG n L f f:=⟨h,rfl,rfl,fun _=>rfl,bS _,fun _ h=>h⟩
theorem RS{n L:Nat}{f:aZ}(h:Inv n L f)(e:Int):zG n L f (fail e f):=by
 have k:=xO e f;have hst:(fail e f).stack=f.stack:=by unfold fail;split<;>rfl
 exact⟨h.same k.same,hst,k.same.has,k.err,by rw[k.same.todo,k.same.at_];exact bS _,fun p hp=>by rw[k.same.at_];exact hp⟩
theorem A9{n L:Nat}{f:aZ}(h:Inv n L f){p:Int}(h0:0≤p)(hn:p≤(n:Int))(hs:f.err=0→f.stack.length≤300)(ht:∀t∈f.stack,In64 t):zG n L f (to n p f):=by
 unfold to
 by_cases he:¬f.err=0
 ·rw[if_pos he];exact zG.refl h
 have he:f.err=0:=wZ.1 he;rw[if_neg (fun h=>h he)]
 by_cases hp:p=(n:Int)
 ·rw[if_pos hp];exact RS h 3
 rw[if_neg hp];have hmem:p.toNat∈List.range n:=sC.2 aA;have hcast:((p.toNat:Nat):Int)=p:=aA
 cases hf:find f.at_ p with
 |none=>
  simp only;have hfa:=fun q=>I6 f.at_ p q (f.stack,f.has) hf;have hcnt:f.has.count true≤L:=by rw[←h.has];exact List.count_le_length
  refine⟨⟨h.has,fun q s hq=>?_,fun q hq=>?_⟩,rfl,rfl,fun h=>absurd he h,?_,fun q hq=>?_⟩
  ·simp only at hq;rw[hfa]at hq
   by_cases hpq:p=q
   ·rw[if_pos hpq]at hq
    cases hq
    exact⟨hs he,ht,h.has⟩
   ·rw[if_neg hpq]at hq;exact h.pK q s hq
  ·simp only at hq⊢;rw[hfa]
   by_cases hpq:p=q
   ·subst hpq;rw[if_pos rfl];exact⟨h0,aA,rfl⟩
   ·rw[if_neg hpq];rcases dF.1 hq with hq|hq
    ·exact h.todo q hq
    ·simp at hq;exact absurd hq.symm hpq
  ·simp only;have:=NO (fun q=>weight L (find (f.at_ ++[(p,(f.stack,f.has))]) (q:Int))) (fun q=>weight L (find f.at_ (q:Int))) p.toNat (by
    (try simp only)
    rw[hfa,hcast,if_pos rfl,hf];simp only[weight];omega) (List.range n) (fun q=>by
    (try simp only)
    rw[hfa]
    split
    ·rename_i hpq;rw[←hpq,hf];simp only[weight];omega
    ·exact bS _) hmem
   unfold room;simp only[Jl,JW,kZ];omega
  ·simp only;rw[hfa];split
   ·rfl
   ·exact hq
 |some s=>
  simp only;obtain⟨g1,g2,g3⟩:=h.pK p s hf
  by_cases hst:¬s.1=f.stack
  ·rw[if_pos hst];exact RS h 8
  have hst:s.1=f.stack:=wZ.1 hst;rw[if_neg (fun h=>h hst)]
  by_cases hm:meet s.2 f.has=s.2
  ·rw[if_pos hm];exact zG.refl h
  rw[if_neg hm];have hfp:=fun q=>I7 f.at_ p q (s.1,meet s.2 f.has) s hf;have hlen:=CR s.2 f.has (by rw[g3,h.has]);obtain⟨m1,m2⟩:=TS s.2 f.has (by rw[g3,h.has]);have m3:=m2 hm;refine⟨⟨h.has,fun q s' hq=>?_,fun q hq=>?_⟩,rfl,rfl,fun h=>absurd he h,?_,fun q hq=>?_⟩
  ·simp only at hq;rw[hfp]at hq
   by_cases hpq:p=q
   ·rw[if_pos hpq]at hq
    cases hq
    exact⟨g1,g2,by simp only;rw[hlen];exact g3⟩
   ·rw[if_neg hpq]at hq;exact h.pK q s' hq
  ·simp only at hq⊢;rw[hfp]
   by_cases hpq:p=q
   ·subst hpq;rw[if_pos rfl];exact⟨h0,aA,rfl⟩
   ·rw[if_neg hpq];rcases dF.1 hq with hq|hq
    ·exact h.todo q hq
    ·simp at hq;exact absurd hq.symm hpq
  ·simp only;have:=NO (fun q=>weight L (find (put f.at_ p (s.1,meet s.2 f.has)) (q:Int))) (fun q=>weight L (find f.at_ (q:Int))) p.toNat (by
    (try simp only)
    rw[hfp,hcast,if_pos rfl,hf];simp only[weight];omega) (List.range n) (fun q=>by
    (try simp only)
    rw[hfp]
    split
    ·rename_i hpq;rw[←hpq,hf];simp only[weight];omega
    ·exact bS _) hmem
   unfold room;simp only[Jl,JW,kZ];omega
  ·simp only;rw[hfp];split
   ·rfl
   ·exact hq
structure OX(n L:Nat)(f g:aZ):Prop where
 inv:Inv n L g
 len:g.stack.length≤301
 ok:g.err=0→g.stack.length≤300
 ty:∀t∈g.stack,In64 t
 mu:g.todo.length+room n L g.at_≤f.todo.length+room n L f.at_
theorem XF{M:aL}{u:bM}(hg:Good M u){i:aT}(hi:uX M u i){f:aZ}{n L:Nat}(hn:n=u.code.length)(hL:L=u.locals.length)(h:Inv n L f)(hl:f.stack.length≤300)(ht:∀t∈f.stack,In64 t):OX n L f (step M u i f).2:=by
 have hs:=aHD hg hi f;generalize step M u i f=G at *
 cases hs with
 | @plain b g h1 h2 h3 hk=>
  exact⟨h.same hk.kept.same,dP hk.kept.len aA,fun he=>hk.ok he hl,hk.kept.ty ht,by rw[hk.kept.same.todo,hk.kept.same.at_];exact bS _⟩
 | @store g h1 hk=>
  have:=h.same hk.same;exact⟨⟨by simp only[Ji];exact this.has,this.pK,this.todo⟩,dP hk.len aA,fun _=>dP hk.len hl,hk.ty ht,by simp only;rw[hk.same.todo,hk.same.at_];exact bS _⟩
 |jump h1=>
  have hj:=hi.jump (.inl h1);have hw:=A9 (p:=i.a) h aA aA (fun _=>hl) ht;rw[←hn];exact⟨hw.inv,by simp only[hw.stack];omega,fun _=>by simp only[hw.stack];omega,by simp only[hw.stack];exact ht,hw.mu⟩
 |fJ h1=>
  have hj:=hi.jump (.inr h1);have hk:=wQ [2] f;have hw:=A9 (p:=i.a) (h.same hk.same) aA aA (fun _=>dP hk.len hl) (hk.ty ht);have hl2:=dP hk.len hl;rw[←hn];exact⟨hw.inv,by simp only[hw.stack];omega,fun _=>by simp only[hw.stack];omega,by simp only[hw.stack];exact hk.ty ht,by
   have:=hw.mu;rw[hk.same.todo,hk.same.at_]at this;exact this⟩
end Ver
namespace Vw
open Go.RowKit Img
section
attribute [local irreducible] aE aG End aB Still aN aU RunT Fn aS
structure tC(m:ML):Prop where
 boxes:m.bx.length≤30
 aJ:m.us.length≤30
 head:∀k,k<m.us.length→Ver.head m.aC (m.us.getD k default).u=0
 eV:∀k,k<m.us.length→∀i∈(m.us.getD k default).u.code,Ver.eV m.aC (m.us.getD k default).u i=0
theorem tC.oR{m:ML}(h:tC m)(hwf:m.Wf){q:Nat}(hq:q<m.us.length):Ver.Good m.aC (m.us.getD q default).u:=by
 have hu:=hwf.us _ (ML.lW hq);refine⟨fun k hk=>?_,fun k hk=>?_,hu.locals,hu.result,hu.aP,by simpa using h.aJ,h.eV q hq⟩
 ·have:=hwf.us _ (ML.lW (show k<m.us.length by simpa using hk));rw[ML.jK];exact⟨this.result,this.aP⟩
 ·exact(hwf.bx _ (dW hk)).1
theorem RL{r:FR}{z:FS}{n L:Nat}(h:Ver.Inv n L (aQ r z))(p:Int)(x:SH)(hx:bG r.dZ p=some x):x.st.length≤300∧(∀t∈x.st,ImgM.In64 t)∧x.hs.length=L:=by
 have:=LP r.dZ p;rw[hx]at this;exact h.pK p (x.st,x.hs) this
theorem aCO{r:FR}{z:FS}{n L:Nat}(h:Ver.Inv n L (aQ r z)):r.has.length=L:=h.has
theorem aHC(fb cb ab mb:Nat)(m:ML)(r:FR)(z:FS)(q:Nat)(hq:q<m.us.length)(hf:tC m){n:Nat}(hi:Ver.Inv n (m.us.getD q default).u.locals.length (aQ r z))(hl:z.st.length≤300)(hst:∀t∈z.st,ImgM.In64 t)(hto:r.todo.length≤1000000000)
  (i:ImgM.aT) (hin:Ver.eV m.aC (m.us.getD q default).u i=0):fP fb cb ab mb m r z q i:=by
 have ho:=Ver.CJ hin;have hlo:=(xW (hf.head q hq)).1;have hhl:=aCO hi;have hent:∀a x,bG r.dZ a=some x→x.st.length≤1000∧x.hs.length=r.has.length:=fun a x hx=>by
  obtain⟨h1,h2,h3⟩:=RL hi a x hx;exact⟨aA,by rw[h3,hhl]⟩
 obtain⟨op,a,nn⟩:=i;obtain⟨hop,hloc,hjmp,hcall,hstart,hbox⟩:=ho;simp only at hop hloc hjmp hcall hstart hbox;rcases(by omega:op=1∨op=2∨op=3∨op=4∨op=5∨op=6∨op=7∨(8≤op∧op≤12)∨op=13∨op=14∨(15≤op∧op≤18)∨op=19∨op=20∨op=21∨op=22∨op=23∨op=24∨op=25∨op=26∨op=27∨op=28∨op=29∨op=30∨op=31∨op=32)with rfl|rfl|rfl|rfl|rfl|rfl|rfl|h|rfl|rfl|h|rfl|rfl|rfl|rfl|rfl|rfl|rfl|rfl|rfl|rfl|rfl|rfl|rfl|rfl
 ·exact aGr fb cb ab mb m r z q hq hl hst a nn
 ·exact aGw fb cb ab mb m r z q hq hl hst a nn
 ·obtain⟨h1,h2⟩:=hloc (.inl rfl);obtain⟨k,rfl⟩:=JI h1;exact yI fb cb ab mb m r z q hq hl hst k nn aA hhl
 ·obtain⟨h1,h2⟩:=hloc (.inr rfl);obtain⟨k,rfl⟩:=JI h1;exact yJ fb cb ab mb m r z q hq hl hst k nn aA hhl
 ·exact aGy fb cb ab mb m r z q hq hl hst a nn
 ·exact aGz fb cb ab mb m r z q hq hl hst a nn
 ·exact aHA fb cb ab mb m r z q hq hl hst a nn
 ·exact aHB fb cb ab mb m r z q hq hl hst op a nn h
 ·exact aGs fb cb ab mb m r z q hq hl hst a nn
 ·exact aGt fb cb ab mb m r z q hq hl hst a nn
 ·exact aGu fb cb ab mb m r z q hq hl hst op a nn h
 ·exact aGv fb cb ab mb m r z q hq hl hst a nn
 ·exact aGx fb cb ab mb m r z q hq hl hst a nn
 ·exact NI fb cb ab mb m r z q hq hl hst a nn aA hto (hent a)
 ·exact NJ fb cb ab mb m r z q hq hl hst a nn aA hto (hent a)
 ·obtain⟨k,rfl,hk, -⟩:=K9 (hcall rfl);have hk:k<m.us.length:=by simpa using hk
  exact sZ fb cb ab mb m r z q hq hl hst _ _ _ aA (aGY fb cb ab mb m r z q hq hl hst k nn hk (hf.head k hk))
 ·exact sZ fb cb ab mb m r z q hq hl hst _ _ _ aA (aGZ fb cb ab mb m r z q hq hl hst a nn)
 ·exact sZ fb cb ab mb m r z q hq hl hst _ _ _ aA (aG0 fb cb ab mb m r z q hq hl hst a nn)
 ·obtain⟨h1,h2⟩:=hbox (.inl rfl);obtain⟨k,rfl⟩:=JI h1;exact sZ fb cb ab mb m r z q hq hl hst _ _ _ aA (aG1 fb cb ab mb m r z q hq hl hst k nn aA)
 ·obtain⟨h1,h2⟩:=hbox (.inr rfl);obtain⟨k,rfl⟩:=JI h1;exact sZ fb cb ab mb m r z q hq hl hst _ _ _ aA (aG2 fb cb ab mb m r z q hq hl hst k nn aA)
 ·exact sZ fb cb ab mb m r z q hq hl hst _ _ _ aA (aG3 fb cb ab mb m r z q hq hl hst a nn)
 ·obtain⟨k,rfl,hk, -⟩:=K9 (hstart rfl);have hk:k<m.us.length:=by simpa using hk
  exact sZ fb cb ab mb m r z q hq hl hst _ _ _ aA (aG4 fb cb ab mb m r z q hq hl hst k nn hk hf.aJ (hf.head k hk))
 ·exact sZ fb cb ab mb m r z q hq hl hst _ _ _ aA (aG5 fb cb ab mb m r z q hq hl hst a nn)
 ·exact sZ fb cb ab mb m r z q hq hl hst _ _ _ aA (aG6 fb cb ab mb m r z q hq hl hst a nn)
 ·exact sZ fb cb ab mb m r z q hq hl hst _ _ _ aA (aG7 fb cb ab mb m r z q hq hl hst a nn)
def gJ(L p:Nat):List Bool:=List.replicate p true ++List.replicate (L-p) false
theorem aCM{L p:Nat}(h:p≤L):(gJ L p).length=L:=by simp[gJ];omega
theorem aCN{L p:Nat}(h:p<L):(gJ L p).set p true=gJ L (p+1):=by
 unfold gJ;rw[List.set_append_right _ _ aW];obtain⟨j,hj⟩:∃j,L-p=j+1:=⟨L-p-1,aA⟩;rw[hj,show L-(p+1)=j by omega,List.replicate_succ' (n:=p)];simp[List.replicate_succ]
theorem zY:(0:Int)=((0:Nat):Int):=rfl
theorem aDp(l:List Int):l=[]∨∃p r,l=p::r:=by cases l<;>simp
theorem aAi(cb mb:Nat)(m:ML)(q:Nat)(hq:q<m.us.length)(hf:tC m)(hwf:m.Wf):Fn Tryz.prog 46 #[ptr cb, .int .i64 q] [md m] (ck cb mb m) (σ:=Unit) (fun _=>True) (fun _=>s8 (Ver.code m.aC q)) (fun _=>ck cb mb m):=by
 obtain⟨h1,h2,h3,h4,h5,h6⟩:=xW (hf.head q hq);have hgood:=hf.oR hwf hq;obtain⟨W,hW⟩:∃W,W=Ver.code m.aC q:=⟨_,rfl⟩;rw[←hW];unfold Ver.code at hW;rw[ML.jK]at hW;refine JE [ptr cb, .int .i64 q] Tryz.func46 Tryz.ntmps46 fun w S=>?_;refine Jn ?_;have hlc:((m.us.getD q default).u.locals.length:Int)=((m.us.getD q default).u.locals.length:Nat):=rfl;obtain⟨P,hP⟩:∃P:Nat,(m.us.getD q default).u.params=(P:Int):=JI h2;generalize hL:(m.us.getD q default).u.locals.length=L at *
 repeat(refine Jy ?_;try intro b)
 obtain⟨wb,rfl⟩:=a7 b;apply aE.op aV;refine aB.aDF o0 (k:=?_);intro ab
 repeat(refine Jy ?_;try intro b)
 obtain⟨fb,rfl⟩:=a7 b;apply aE.op aV;refine aB.F5 (f:=oK) (iα:=inferInstance) (ef:=inferInstance) (z:=false) (n:=L) (hj:=by rw[hL]) (hj':=by rw[hL]) (k:=?_);intro hb;refine aD ?_;apply aG.imp (fun w hm=>((hm.cU 3 aY).cU 3 aY).gH);refine kS (σ:=Nat) (fun k=>k≤P) (fun k=>[(0,ptr cb),(1, .int .i64 q),(4,ptr wb),(5,up m q),(6,ptr fb),(36, .int .i64 (m.us.getD q default).u.params),(37, .int .i64 k)]) (fun k=>[aO w S,md m,aF cb [.pointer (some ⟨mb,0,none⟩)] 128,aF mb [.slice m.bo m.bx.length m.bc, .slice m.uo m.us.length m.uc] 26,aF wb [.int .i64 0, .int .i64 0, .int .i64 0] 51,aF fb [ptr cb,up m q, .map (some ab), .slice none 0 0, .slice none 0 0, .slice (some ⟨hb,0,none⟩) L L, .int .i64 0] 195,arr none 0 0 3 aY [],arr none 0 0 3 aY [],arr (some ⟨hb,0,none⟩) L L 4 oK (gJ L k),mp ab o0 ([]:List (Int×SH)),bC []]) (fun k=>P-k) 0 ?_ fun k hs K1 hK1=>?_
 ·exact bQ _
 refine Jn ?_
 by_cases hk:k<P
 ·refine aD ?_;apply aE.op aV;refine aB.j5 (a':=true) (k:=?_);rw[aCN (show k<L by omega)];refine aD ?_;refine End.bK hK1 (k+1) ?_ ?_
  ·omega
  ·omega
 obtain rfl:k=P:=aA;clear hK1 hs hk;have hL0:(gJ L k).length=L:=aCM aA;have hst:Ver.start (m.us.getD q default).u=Ver.to (m.us.getD q default).u.code.length 0 (aQ (⟨[],[],none,0,gJ L k,some ⟨hb,0,none⟩,L⟩:FR) (⟨[],none,0,0⟩:FS)):=by
  unfold Ver.start;rw[hP,hL,Jj];rfl
 rw[hst]at hW;have hinv0:Ver.Inv (m.us.getD q default).u.code.length L (aQ (⟨[],[],none,0,gJ L k,some ⟨hb,0,none⟩,L⟩:FR) (⟨[],none,0,0⟩:FS)):=
  ⟨hL0,(fun p s h=>by cases h),(fun p h=>by cases h)⟩
 have hw0:=Ver.A9 hinv0 (p:=0) aA aA (fun _=>bQ _) (fun t h=>by cases h);have he0:(Ver.to (m.us.getD q default).u.code.length 0 (aQ (⟨[],[],none,0,gJ L k,some ⟨hb,0,none⟩,L⟩:FR) (⟨[],none,0,0⟩:FS))).err=0:=by
  unfold Ver.to;rw[if_neg (fun h=>h rfl),if_neg aA];rfl
 have hmu0:=hw0.mu;have hst0:=hw0.stack;have hm0:Ver.CS (m.us.getD q default).u=2*((m.us.getD q default).u.code.length*(L+1))+1:=by unfold Ver.CS;rw[hL]
 have hcl:(m.us.getD q default).u.code.length*(L+1)≤4000*201:=Nat.mul_le_mul h6 aA;refine aD ?_;(refine oP (G9 fb cb ab m q hq ⟨[],[],none,0,gJ L k,some ⟨hb,0,none⟩,L⟩ ⟨[],none,0,0⟩ 0 aW (by show(gJ L k).length≤1000;omega) aW (fun x h=>by cases h)) fun s hs=>?_);rw[←hs]at hW hw0 he0 hmu0 hst0;clear hs hst;obtain⟨r,z⟩:=s;have hmu1:r.todo.length+Ver.room (m.us.getD q default).u.code.length L (aQ r z).at_≤(m.us.getD q default).u.code.length*(L+1):=by
  rw[←Ver.WA];have:(aQ r z).todo.length+Ver.room (m.us.getD q default).u.code.length L (aQ r z).at_≤0+Ver.room (m.us.getD q default).u.code.length L []:=hmu0;rw[sD]at this;exact this
 have hzl:z.st.length≤301:=by
  have:z.st=[]:=hst0;rw[this];simp
 refine aD ?_;refine kS (σ:=FR×FS×Nat) (fun s=>Ver.Inv (m.us.getD q default).u.code.length L (aQ s.1 s.2.1)∧s.2.1.err=0∧s.2.1.st.length≤301∧W=Ver.run m.aC (m.us.getD q default).u q s.2.2 (aQ s.1 s.2.1)∧s.1.todo.length+Ver.room (m.us.getD q default).u.code.length L (aQ s.1 s.2.1).at_≤s.2.2∧s.2.2≤2000000) (fun s=>[(0,ptr cb),(1, .int .i64 q),(4,ptr wb),(5,up m q),(6,ptr fb)]) (fun s=>aO w S::md m::aF wb [.int .i64 0, .int .i64 0, .int .i64 0] 51::(fa fb cb ab (up m q) s.1 s.2.1 ++ck cb mb m)) (fun s=>s.2.2) (r,z,Ver.CS (m.us.getD q default).u) ?_ fun s hs KM hKM=>?_
 ·exact⟨hw0.inv,he0,hzl,hW,by simp only;omega,by simp only;omega⟩
 refine Jn ?_;clear hW hw0 he0 hmu0 hst0 hmu1 hzl r z hinv0;obtain⟨r,z,fuel⟩:=s;obtain⟨hinv,he,hzl,hW,hmu,hfu⟩:=hs;simp only at hinv he hzl hW hmu hfu hKM⊢;rcases aDp r.todo with hT|⟨p,rest,hT⟩
 ·have hWo:W=⟨0,0,0⟩:=by
   rw[hW]
   cases fuel with
   |zero=>rfl
   |succ j=>unfold Ver.run;rw[show(aQ r z).todo=[]from hT];rfl
  have hlen:r.todo.length=0:=by rw[hT];rfl
  refine aD ?_;(refine End.fX (()) (he:=by exact nO hWo) (hp:=?_));trivial
 ·have hlen:r.todo.length=rest.length+1:=by rw[hT];rfl
  have hgp:r.todo.getD 0 default=p:=by rw[hT];rfl
  have hdp:r.todo.drop 1=rest:=by rw[hT];rfl
  obtain⟨j,rfl⟩:∃j,fuel=j+1:=⟨fuel-1,aA⟩;obtain⟨hp0,hpn,hps⟩:=hinv.todo p (by rw[show(aQ r z).todo=_ from hT];exact gF);have hx0:Ver.find (aQ r z).at_ p=(bG r.dZ p).map fun x=>(x.st,x.hs):=LP r.dZ p;obtain⟨x,hx⟩:∃x,bG r.dZ p=some x:=by
   rw[hx0]at hps
   cases hm:bG r.dZ p with
   |none=>rw[hm]at hps;cases hps
   |some x=>exact⟨x,rfl⟩
  rw[hx]at hx0;simp only[pA]at hx0;obtain⟨g1,g2,g3⟩:=hinv.pK p _ hx0;simp only at g1 g2 g3;have hmem:=S2 r.dZ p x hx;have hm1:arr x.so x.st.length x.sc 3 aY x.st∈inner r.dZ:=hmem _ aW;have hm2:arr x.ho x.hs.length x.hc 4 oK x.hs∈inner r.dZ:=hmem _ aW;have hin:Ver.eV m.aC (m.us.getD q default).u ((m.us.getD q default).u.code.getD p.toNat default)=0:=hf.eV q hq _ (dW aA);rw[←hgp]at hx hin hp0 hpn;have hrun:W=if(Ver.round m.aC (m.us.getD q default).u p rest (aQ r z)).err≠0 then⟨(Ver.round m.aC (m.us.getD q default).u p rest (aQ r z)).err,q,p⟩else Ver.run m.aC (m.us.getD q default).u q j (Ver.round m.aC (m.us.getD q default).u p rest (aQ r z)):=by
   rw[hW]
   conv=>lhs;unfold Ver.run
   rw[show(aQ r z).todo=p::rest from hT]
  clear hW;refine aD ?_;(apply aE.op;exact rfl;refine aB.bP (h:=by(apply Still.at_;exact rfl;exact rfl;exact Jr;exact rfl;exact rfl;exact rfl;exact zY;omega)) (k:=?_))
  repeat(refine Jy ?_;try intro ao cap)
  (refine dV (Q3 x aA aA) fun s hs=>?_);obtain⟨y,rfl⟩:∃y,y=s:=⟨_,rfl⟩;obtain⟨hy1,hy2⟩:=hs;refine aD ?_;have hfl:aQ ⟨r.dZ,r.todo.drop 1,ao,cap,y.hs,y.ho,y.hc⟩ ⟨y.st,y.so,y.sc,z.err⟩={aQ r z with todo:=rest,stack:=x.st,has:=x.hs}:=by
   unfold aQ;simp only[hy1,hy2,hdp];rfl
  have hinv1:Ver.Inv (m.us.getD q default).u.code.length L (aQ ⟨r.dZ,r.todo.drop 1,ao,cap,y.hs,y.ho,y.hc⟩ ⟨y.st,y.so,y.sc,z.err⟩):=by
   rw[hfl];exact⟨g3,hinv.pK,fun t ht=>hinv.todo t (by rw[show(aQ r z).todo=_ from hT];exact gZ _ ht)⟩
  have hyl:y.st.length≤300:=by rw[hy1];exact g1
  have hyt:∀t∈y.st,ImgM.In64 t:=by rw[hy1];exact g2
  have hgone:=Ver.XF hgood (Ver.CJ hin) rfl hL.symm hinv1 hyl hyt;have hround:Ver.round m.aC (m.us.getD q default).u p rest (aQ r z)=if(Ver.step m.aC (m.us.getD q default).u ((m.us.getD q default).u.code.getD (r.todo.getD 0 default).toNat default) (aQ ⟨r.dZ,r.todo.drop 1,ao,cap,y.hs,y.ho,y.hc⟩ ⟨y.st,y.so,y.sc,z.err⟩)).1=true then Ver.to (m.us.getD q default).u.code.length (p+1) (Ver.step m.aC (m.us.getD q default).u ((m.us.getD q default).u.code.getD (r.todo.getD 0 default).toNat default) (aQ ⟨r.dZ,r.todo.drop 1,ao,cap,y.hs,y.ho,y.hc⟩ ⟨y.st,y.so,y.sc,z.err⟩)).2 else(Ver.step m.aC (m.us.getD q default).u ((m.us.getD q default).u.code.getD (r.todo.getD 0 default).toNat default) (aQ ⟨r.dZ,r.todo.drop 1,ao,cap,y.hs,y.ho,y.hc⟩ ⟨y.st,y.so,y.sc,z.err⟩)).2:=by
   unfold Ver.round;rw[hx0,hfl,hgp];rfl
  have hmu1:(aQ ⟨r.dZ,r.todo.drop 1,ao,cap,y.hs,y.ho,y.hc⟩ ⟨y.st,y.so,y.sc,z.err⟩).todo.length+Ver.room (m.us.getD q default).u.code.length L (aQ ⟨r.dZ,r.todo.drop 1,ao,cap,y.hs,y.ho,y.hc⟩ ⟨y.st,y.so,y.sc,z.err⟩).at_≤j:=by
   rw[hfl];have:(aQ r z).at_=({aQ r z with todo:=rest,stack:=x.st,has:=x.hs}:Ver.aZ).at_:=rfl;rw[this]at hmu;simp only at hmu⊢;omega
  have hdl:(r.todo.drop 1).length≤1000000000:=by rw[hdp];omega
  (refine Jc ?_;refine aB.bA (spec:=aHC fb cb ab mb m ⟨r.dZ,r.todo.drop 1,ao,cap,y.hs,y.ho,y.hc⟩ ⟨y.st,y.so,y.sc,z.err⟩ q hq hf (by rw[hL];exact hinv1) hyl hyt hdl _ hin) (t:=Jx) (k:=?_);intro s hs;refine Jn ?_);obtain⟨G,hG⟩:∃G,G=Ver.step m.aC (m.us.getD q default).u ((m.us.getD q default).u.code.getD (r.todo.getD 0 default).toNat default) (aQ ⟨r.dZ,r.todo.drop 1,ao,cap,y.hs,y.ho,y.hc⟩ ⟨y.st,y.so,y.sc,z.err⟩):=⟨_,rfl⟩;rw[←hG]at hs hround hgone;obtain⟨b1,g⟩:=G;simp only at hs hround hgone;apply aE.look (d:=88) (v':= .bool b1) aV (by rw[←hG]);clear hG;have hsl:s.2.st.length≤301:=by
   have:s.2.st=g.stack:=congrArg Ver.aZ.stack hs;rw[this];exact hgone.len
  have hsi:Ver.Inv (m.us.getD q default).u.code.length L (aQ s.1 s.2):=by rw[hs];exact hgone.inv
  have hsm:s.1.todo.length+Ver.room (m.us.getD q default).u.code.length L (aQ s.1 s.2).at_≤j:=by
   have:=hgone.mu;rw[←hs]at this;exact dP this hmu1
  cases b1 with
  |true=>
   rw[if_pos rfl]at hround;have hsh:=hsi.has;have hw2:=Ver.A9 hsi (p:=p+1) aA aA (by rw[hs];exact hgone.ok) (by rw[hs];exact hgone.ty);rw[←hs]at hround;refine aD ?_;obtain⟨s1,rfl⟩:∃s1,s1=s:=⟨_,rfl⟩;have hent1:∀x,bG s1.1.dZ (r.todo.getD 0 default+1)=some x→x.st.length≤1000∧x.hs.length=s1.1.has.length:=fun x hx=>by
    obtain⟨q1,q2,q3⟩:=RL hsi _ x hx;exact⟨aA,by rw[q3];exact hsh.symm⟩
   have hsh1:s1.1.has.length≤1000:=by rw[show s1.1.has.length=L from hsh];omega
   have hs1:=hs;clear hs;(refine oP (G9 fb cb ab m q hq s1.1 s1.2 (r.todo.getD 0 default+1) aA hsh1 aA hent1) fun s hs=>?_);rw[hgp]at hs;have hfin:Ver.Inv (m.us.getD q default).u.code.length L (aQ s.1 s.2)∧s.2.st.length≤301∧s.1.todo.length+Ver.room (m.us.getD q default).u.code.length L (aQ s.1 s.2).at_≤j:=by
    have e1:s.2.st=(aQ s1.1 s1.2).stack:=(congrArg Ver.aZ.stack hs).trans hw2.stack;refine⟨by rw[hs];exact hw2.inv,by rw[e1];exact hsl,?_⟩;have:=hw2.mu;rw[←hs]at this;exact dP this hsm
   rw[←hs]at hround;clear hs;have hrd:=hround
   by_cases he2:s.2.err=0
   ·rw[if_neg (fun h=>h (show(Ver.round m.aC (m.us.getD q default).u p rest (aQ r z)).err=0 by rw[hround];exact he2)),hround]at hrun;refine aD ?_;refine End.bK hKM (s.1,s.2,j) ?_ ?_
    ·exact⟨hfin.1,he2,hfin.2.1,hrun,by simp only;exact hfin.2.2,by simp only;omega⟩
    ·simp only;omega
   ·rw[if_pos (show(Ver.round m.aC (m.us.getD q default).u p rest (aQ r z)).err≠0 by rw[hround];exact he2),hround]at hrun;refine aD ?_;(refine End.fX (()) (he:=by refine nO (hrun.trans ?_);rw[hgp];rfl) (hp:=?_));trivial
  |false=>
   rw[if_neg aK]at hround;rw[←hs]at hround;have hfin:=And.intro hsi (And.intro hsl hsm)
   by_cases he2:s.2.err=0
   ·rw[if_neg (fun h=>h (show(Ver.round m.aC (m.us.getD q default).u p rest (aQ r z)).err=0 by rw[hround];exact he2)),hround]at hrun;refine aD ?_;refine End.bK hKM (s.1,s.2,j) ?_ ?_
    ·exact⟨hfin.1,he2,hfin.2.1,hrun,by simp only;exact hfin.2.2,by simp only;omega⟩
    ·simp only;omega
   ·rw[if_pos (show(Ver.round m.aC (m.us.getD q default).u p rest (aQ r z)).err≠0 by rw[hround];exact he2),hround]at hrun;refine aD ?_;(refine End.fX (()) (he:=by refine nO (hrun.trans ?_);rw[hgp];rfl) (hp:=?_));trivial
end
end Vw
end Go.Proofs.YtofckcabpchcmaaGreatDoor
