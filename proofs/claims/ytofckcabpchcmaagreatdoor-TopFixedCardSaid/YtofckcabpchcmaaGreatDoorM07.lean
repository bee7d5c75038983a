/- verify's flow, walked: going to a place. -/
import Derived.Test.YtofckcabpchcmaaGreatDoorM06
set_option linter.unusedVariables false
set_option linter.unusedSimpArgs false
set_option linter.unusedSectionVars false
set_option maxRecDepth 100000
namespace Go.Proofs.YtofckcabpchcmaaGreatDoor
namespace Vw
open Go.RowKit Img
attribute [local irreducible] aE aB End aA Still aM aP RunT Fn aO
abbrev CN(x:SH):List Chunk:=[arr x.so x.st.length x.sc 3 aT x.st,arr x.ho x.hs.length x.hc 4 nP x.hs]
def inner(l:List (Int×SH)):List Chunk:=l.flatMap fun p=>CN p.2
abbrev fa(fb cb ab:Nat)(u:Value)(r:FR)(s:FS):List Chunk:=
 [aD fb (qN cb ab u r s) 195,arr s.so s.st.length s.sc 3 aT s.st,arr r.to_ r.todo.length r.tc 3 aT r.todo,arr r.ho r.has.length r.hc 4 nP r.has,mp ab oB r.dI,aR (inner r.dI)]
theorem K9(l:List (Int×SH))(k:Int):Ver.find (l.map fun p=>(p.1,(p.2.st,p.2.hs))) k=(bC l k).map fun x=>(x.st,x.hs):=by
 induction l with
 |nil=>rfl
 |cons a l ih=>
  obtain⟨q,x⟩:=a
  by_cases h:q=k
  ·simp[Ver.find,bC,h]
  ·have e1:bC ((q,x)::l) k=bC l k:=by simp[bC,h]
   rw[e1,←ih];simp[Ver.find,h]
theorem aDE(l:List (Int×SH))(k:Int)(y:SH):(iL l k y).map (fun p=>(p.1,(p.2.st,p.2.hs)))=Ver.put (l.map fun p=>(p.1,(p.2.st,p.2.hs))) k (y.st,y.hs):=by
 induction l with
 |nil=>rfl
 |cons a l ih=>
  obtain⟨q,x⟩:=a;simp only[iL,eG,Ver.put]
  by_cases h:q=k
  ·simp[h]
  ·simp[h,ih]
def EW:List (Int×SH)→Int→List (Int×SH)
 |[],_=>[]
 |(q,a)::r,k=>if q=k then r else(q,a)::EW r k
theorem KE(a:Int×SH)(l:List (Int×SH)):inner (a::l)=CN a.2 ++inner l:=by simp[inner]
theorem KF(l:List (Int×SH))(k:Int)(y:SH)(x:SH)(h:bC l k=some x):(inner (iL l k y)).Perm (CN y ++inner (EW l k)):=by
 induction l with
 |nil=>cases h
 |cons a l ih=>
  obtain⟨q,b⟩:=a;unfold iL EW;unfold bC at h
  by_cases hq:q=k
  ·simp only[hq,if_true,KE];exact List.Perm.refl _
  ·simp only[hq,if_false]at h⊢;rw[KE,KE];exact((ih h).append_left _).trans (AQ _ _ _)
theorem SM(l:List (Int×SH))(k:Int)(x:SH)(h:bC l k=some x):iL l k x=l:=by
 induction l with
 |nil=>cases h
 |cons a l ih=>
  obtain⟨q,b⟩:=a;unfold iL;unfold bC at h
  by_cases hq:q=k
  ·simp only[hq,if_true]at h⊢
   cases h;rfl
  ·simp only[hq,if_false]at h⊢;rw[ih h]
theorem aDF(l:List (Int×SH))(k:Int)(x y:SH)(h:bC l k=some x)(e:oB y=oB x):l.map (fun p=>(Value.int .i64 p.1,oB p.2))=(iL l k y).map (fun p=>(Value.int .i64 p.1,oB p.2)):=by
 induction l with
 |nil=>cases h
 |cons a l ih=>
  obtain⟨q,b⟩:=a;unfold iL;unfold bC at h
  by_cases hq:q=k
  ·simp only[hq,if_true]at h⊢
   cases h
   simp[e]
  ·simp only[hq,if_false]at h⊢;simp[ih h]
theorem RJ(l:List (Int×SH))(k:Int)(x:SH)(h:bC l k=some x):∀c∈CN x,c∈inner l:=by
 intro c hc;have:=KF l k x x h;rw[SM l k x h]at this;exact this.mem_iff.2 (rG _ hc)
theorem aBq(l:List (Int×SH))(k:Int)(y:SH)(h:bC l k=none):inner (iL l k y)=inner l ++CN y:=by
 rw[oW k y l h];simp[inner]
theorem K0:∀(a b:List Bool),a.length=b.length→(Ver.meet a b).length=a.length
 |[],_,_=>by cases ‹List Bool› <;>rfl
 |_::_,[],h=>by cases h
 |x::a,y::b,h=>by simp[Ver.meet,K0 a b (by simpa using h)]
theorem R8:∀(a b:List Bool) (k:Nat),k<a.length→a.length=b.length→(Ver.meet a b).getD k default=(a.getD k default&&b.getD k default)
 |[],_,k,h,_=>by simp at h
 |_::_,[],_,_,h=>by cases h
 |x::a,y::b,0,_,_=>rfl
 |x::a,y::b,k+1,h,h2=>by
  have:=R8 a b k (by simpa using h) (by simpa using h2);simpa[Ver.meet]using this
theorem End.Y4{Q:Exit→Act→World→Prop}{N:Nd}{E:Env}{e:Exit}{cs cs' ds L L' F:List Chunk}(hin:cs'=cs ++ds)(t:Take (aR cs) L L')(t2:aQ ds L' F)(hx:∀c∈ds,c.bB=true)(h:End Q N e E (aR cs'::F)):End Q N e E L:=
 End.imp (fun w hm=>hin▸Mem.A5 hm t t2 hx) h
theorem End.OR{Q:Exit→Act→World→Prop}{N:Nd}{E:Env}{e:Exit}{cs ds es L L' F:List Chunk}(p:cs.Perm (ds ++es))(t:Take (aR es) L L')(t2:aQ ds L' F)(hx:∀c∈ds,c.bB=true)(h:End Q N e E (aR cs::F)):End Q N e E L:=
 End.imp (fun w hm=>Mem.mA hm t t2 p hx) h
theorem aB.nO{P:Program}{Q:Exit→Act→World→Prop}{N:Nd}{E:Env}{c:Code}{cs ds es L L':List Chunk}(p:cs.Perm (ds ++es))(t:Take (aR cs) L L')(h:aB P Q N c E (ds ++(aR es::L'))):aB P Q N c E L:=
 aB.imp (fun w hm=>Mem.nO hm t p) h
theorem aCK{l l':List Bool}(n:Nat)(hn:l.length=n)(hm:l'.length=n)(h:∀j,j<n→l.getD j default=l'.getD j default):l=l':=
 mT (by omega) (fun j h1 h2=>by have:=h j (by omega);simpa[Jd,h1,h2]using this)
theorem wR{l:List Bool}{k j:Nat}{v:Bool}(hk:k<l.length):(l.set k v).getD j default=if j=k then v else l.getD j default:=by
 simp only[Jd,pI]
 by_cases h:k=j
 ·subst h;simp[hk]
 ·rw[if_neg h,if_neg (fun h'=>h h'.symm)]
structure pM(a b:List Bool)(s:Nat×List Bool×Bool):Prop where
 le:s.1≤a.length
 len:s.2.1.length=a.length
 done:∀j,j<s.1→s.2.1.getD j default=(a.getD j default&&b.getD j default)
 rest:∀j,s.1≤j→s.2.1.getD j default=a.getD j default
 less:(s.2.2=false∧s.2.1=a)∨(s.2.2=true∧s.2.1≠a)
theorem pM.start(a b:List Bool):pM a b (0,a,false):=⟨by simp,rfl,fun j h=>by simp at h,fun j h=>rfl, .inl ⟨rfl,rfl⟩⟩
theorem pM.fin{a b:List Bool}{k:Nat}{l:List Bool}{t:Bool}(h:pM a b (k,l,t))(hk:¬k<a.length)(hab:a.length=b.length):l=Ver.meet a b:=by
 have h1:=h.len;simp only at h1;exact aCK a.length h1 (K0 a b hab) (fun j hj=>by rw[R8 a b j hj hab];exact h.done j (by simp only;omega))
theorem pM.set{a b:List Bool}{k:Nat}{l:List Bool}{t:Bool}(h:pM a b (k,l,t))(hk:k<a.length)(h1:l.getD k default=true)(h2:b.getD k default=false):pM a b (k+1,l.set k false,true):=by
 have hl:=h.len;have hr:=h.rest k (cG _);simp only at hl hr;refine⟨hk,by simp[hl],fun j hj=>?_,fun j hj=>?_, .inr ⟨rfl,fun e=>?_⟩⟩
 ·simp only at hj⊢;rw[wR (by omega)]
  by_cases hjk:j=k
  ·subst hjk;rw[if_pos rfl,h2];simp
  ·rw[if_neg hjk];exact h.done j (by simp only;omega)
 ·simp only at hj⊢;rw[wR (by omega),if_neg (by omega)];exact h.rest j (by simp only;omega)
 ·have:=congrArg (fun x=>x.getD k default) e;simp only at this;rw[wR (by omega),if_pos rfl,←hr,h1]at this
  cases this
theorem pM.skip{a b:List Bool}{k:Nat}{l:List Bool}{t:Bool}(h:pM a b (k,l,t))(hk:k<a.length)(h1:¬(l.getD k default=true∧b.getD k default=false)):pM a b (k+1,l,t):=by
 have hr:=h.rest k (cG _);simp only at hr;refine⟨hk,h.len,fun j hj=>?_,fun j hj=>h.rest j (by simp only at hj⊢;omega),h.less⟩;simp only at hj⊢
 by_cases hjk:j=k
 ·subst hjk;rw[hr]at h1⊢
  cases ha:a.getD j default<;>cases hb:b.getD j default<;>simp_all
 ·exact h.done j (by simp only;omega)
theorem GD(fb cb ab:Nat)(m:ML)(q:Nat)(hq:q<m.us.length)(r:FR)(z:FS)(p:Int)(hl:z.st.length≤1000)(hh:r.has.length≤1000)(hto:r.todo.length≤1000000000)
  (hent:∀x,bC r.dI p=some x→x.st.length≤1000∧x.hs.length=r.has.length):
  Fn Tryz.prog 74 #[ptr fb, .int .i64 p] [md m] (fa fb cb ab (up m q) r z) (σ:=FR×FS) (fun s=>aN s.1 s.2=Ver.to (m.us.getD q default).u.code.length p (aN r z)) (fun _=> .tuple #[]) (fun s=>fa fb cb ab (up m q) s.1 s.2):=by
 obtain⟨F,hF⟩:∃F,F=Ver.to (m.us.getD q default).u.code.length p (aN r z):=⟨_,rfl⟩;rw[←hF];unfold Ver.to at hF;refine JE [ptr fb, .int .i64 p] Tryz.func74 Tryz.ntmps74 fun w S=>?_
 (refine Jn ?_)
 by_cases he:z.err=0
 ·rw[if_neg (fun h=>h he)]at hF
  by_cases hp:p=((m.us.getD q default).u.code.length:Int)
  ·rw[if_pos hp]at hF
   repeat(refine Jy ?_)
   (refine JH (m5 fb cb ab (up m q) r z 3) ?_;intro s hs;(refine Jn ?_))
   repeat(refine Jy ?_)
   (refine End.oN ((r,lT 3 z)) (hp:=?_));rw[hF];exact m7 r z 3
  ·rw[if_neg hp]at hF;have hfd:Ver.find (aN r z).at_ p=(bC r.dI p).map fun x=>(x.st,x.hs):=K9 r.dI p
   rw[hfd]at hF
   cases hm:bC r.dI p with
   |none=>
    rw[hm]at hF;simp only[cC]at hF
    repeat(refine Jy ?_;try intro b)
    apply aB.draw 10 ([aD fb (qN cb ab (up m q) r z) 195]) (by kernel_rfl) 11 rfl;refine JR 0 ?_;refine JR 1 ?_;refine JR 2 ?_;refine JR 3 ?_;refine JR 4 ?_;refine JR 5 ?_;refine JR 6 ?_;refine JR 7 ?_;refine JR 8 ?_;(refine JT 9 ?_;refine JK (PM ⟨z.st,z.so,z.sc,r.has,r.ho,r.hc⟩ (by show z.st.length≤1000000;omega) (by show r.has.length≤1000000;omega)) ?_;intro s hs;refine JG ?_;(refine Jn ?_));(refine JT 10 ?_;refine aA.qS (a:=s) (k:=?_);refine JG ?_;(refine Jn ?_));(apply RunT.done;kernel_rfl)
    repeat(refine Jy ?_;try first|intro ao cap|intro b)
    obtain⟨hs1,hs2⟩:=hs;simp only at hs1 hs2;apply End.Y4 (aBq r.dI p s hm) tk aK (by simp[dX]);(refine End.oN (({r with dI:=iL r.dI p s,todo:=r.todo ++[p],to_:=ao,tc:=cap},z)) (ht:=Jx) (hp:=?_));have hmp:=oW p s r.dI hm;rw[hF];simp[aN,FR.at_,hmp,hs1,hs2]
   |some x=>
    rw[hm]at hF;simp only[a8]at hF;obtain⟨hx1,hx2⟩:=hent x hm;have hmem:=RJ r.dI p x hm;have hm1:arr x.so x.st.length x.sc 3 aT x.st∈inner r.dI:=hmem _ (by simp)
    repeat(refine Jy ?_;try intro b)
    (apply aE.op;exact rfl;refine aA.aZ (spec:=aAm x.so z.so _ _ _ _ x.st z.st rfl rfl (by omega) (by omega)) (k:=?_);intro s hs;(refine Jn ?_))
    by_cases hst:x.st=z.st
    ·have hd:decide (x.st=z.st)=true:=decide_eq_true hst;rw[if_neg (show¬x.st≠(aN r z).stack from fun h=>h hst)]at hF;have hpm:=KF r.dI p x x hm;rw[SM r.dI p x hm]at hpm
     repeat(refine Jy ?_)
     apply aB.nO hpm tk;apply aB.loop (σ:=Nat×List Bool×Bool) (pM x.hs r.has) (fun s=>[(0,ptr fb),(1, .int .i64 p),(4,ptr b),(6, .bool s.2.2),(69, .int .i64 (x.hs.length:Int)),(70, .int .i64 (s.1:Int))]) (fun s=>[aI w S,md m,aD fb (qN cb ab (up m q) r z) 195,arr z.so z.st.length z.sc 3 aT z.st,arr r.to_ r.todo.length r.tc 3 aT r.todo,arr r.ho r.has.length r.hc 4 nP r.has,mp ab oB r.dI,aR (inner (EW r.dI p)),arr x.so x.st.length x.sc 3 aT x.st,arr x.ho x.hs.length x.hc 4 nP s.2.1,aD b [.slice x.so x.st.length x.sc, .slice x.ho x.hs.length x.hc] 193]) (fun s=>x.hs.length-s.1) (0,x.hs,false)
     rotate_left
     exact sb;exact aK;intro s hs KM hKM;(refine Jn ?_)
     rotate_left
     ·exact pM.start _ _
     obtain⟨k,l,t⟩:=s;have hle:=hs.le;simp only at hle hKM⊢
     by_cases hk:k<x.hs.length
     ·by_cases hb:l.getD k default=true∧r.has.getD k default=false
      ·obtain⟨hb1,hb2⟩:=hb
       repeat(refine Jy ?_)
       apply aE.op (by exact rfl);refine aA.iG (a':=false) (k:=?_)
       repeat(refine Jy ?_)
       refine End.bK hKM (k+1,l.set k false,true) ?_ ?_
       ·exact hs.set hk hb1 hb2
       ·simp only;omega
      ·cases hb1:l.getD k default with
       |false=>
        repeat(refine Jy ?_)
        refine End.bK hKM (k+1,l,t) ?_ ?_
        ·exact hs.skip hk hb
        ·simp only;omega
       |true=>
        have hb2:r.has.getD k default=true:=by cases h:r.has.getD k default<;>simp_all
        repeat(refine Jy ?_)
        refine End.bK hKM (k+1,l,t) ?_ ?_
        ·exact hs.skip hk hb
        ·simp only;omega
     ·have hfin:=hs.fin hk hx2;have hless:=hs.less;simp only at hless;rw[show Ver.meet x.hs (aN r z).has=l from hfin.symm]at hF;clear hs;rcases hless with⟨rfl,rfl⟩|⟨rfl,hne⟩
      ·rw[if_pos rfl]at hF
       repeat(refine Jy ?_)
       apply End.OR hpm tk aK (by simp[dX]);(refine End.cY ((r,z)) (hp:=?_));rw[hF]
      ·rw[if_neg hne]at hF;have hll:l.length=x.hs.length:=by rw[hfin];exact K0 _ _ hx2
       have hpy:=KF r.dI p ⟨x.st,x.so,x.sc,l,x.ho,x.hc⟩ x hm;have hsv:oB ⟨x.st,x.so,x.sc,l,x.ho,x.hc⟩=oB x:=by unfold oB;simp only[hll]
       have hmv:=aDF r.dI p x ⟨x.st,x.so,x.sc,l,x.ho,x.hc⟩ hm hsv
       repeat(refine Jy ?_;try first|intro ao cap|intro b)
       apply End.imp (fun w hm'=>aDA hm' tk hmv);apply End.OR hpy tk (Jx) (by simp[dX]);(refine End.cY (({r with dI:=iL r.dI p ⟨x.st,x.so,x.sc,l,x.ho,x.hc⟩,todo:=r.todo ++[p],to_:=ao,tc:=cap},z)) (ht:=Jx) (hp:=?_));rw[hF];simp only[aN,FR.at_,aDE]
    ·have hd:decide (x.st=z.st)=false:=decide_eq_false hst;rw[if_pos (show x.st≠(aN r z).stack from hst)]at hF
     repeat(refine Jy ?_)
     (refine JH (m5 fb cb ab (up m q) r z 8) ?_;intro s hs;(refine Jn ?_))
     repeat(refine Jy ?_)
     (refine End.oN ((r,lT 8 z)) (hp:=?_));rw[hF];exact m7 r z 8
 ·rw[if_pos (show(aN r z).err≠0 from he)]at hF
  repeat(refine Jy ?_)
  (refine End.oN ((r,z)) (hp:=?_));rw[hF]
section
variable(fb cb ab mb:Nat)(m:ML)(r:FR)(z:FS)(q:Nat)(hq:q<m.us.length)(hl:z.st.length≤300)(hst:∀t∈z.st,ImgM.bG t)
abbrev fG(i:ImgM.aY):Prop:=Fn Tryz.prog 76 #[ptr fb,kR i] [md m] (fa fb cb ab (up m q) r z ++ck cb mb m) (σ:=FR×FS) (fun s=>aN s.1 s.2=(Ver.step m.aC (m.us.getD q default).u i (aN r z)).2) (fun _=> .bool (Ver.step m.aC (m.us.getD q default).u i (aN r z)).1) (fun s=>fa fb cb ab (up m q) s.1 s.2 ++ck cb mb m)
include hl hst hq
theorem aGM(a n:Int):fG fb cb ab mb m r z q ⟨1,a,n⟩:=by
 obtain⟨F,hF⟩:∃F,F=Ver.push 1 (aN r z):=⟨_,rfl⟩;have e:Ver.step m.aC (m.us.getD q default).u ⟨1,a,n⟩ (aN r z)=(true,F):=by
  unfold Ver.step;dsimp only;(repeat rw[if_neg (by omega)]);rw[if_pos (by omega)];rw[hF]
 unfold fG;rw[e];clear e;refine JE [ptr fb, .agg #[.int .i64 1, .int .i64 a, .int .i64 n]] Tryz.func76 Tryz.ntmps76 fun w S=>?_
 (refine Jn ?_);(refine Jn ?_)
 repeat(refine Jy ?_;try intro b)
 (refine JH (iY fb cb ab (up m q) r z 1 (by omega)) ?_;intro s hs;(refine Jn ?_))
 repeat(refine Jy ?_)
 (refine End.aH ((r,s)) (he:=Jv) (hp:=?_));simp only;rw[hF,hs]
theorem aGR(a n:Int):fG fb cb ab mb m r z q ⟨2,a,n⟩:=by
 obtain⟨F,hF⟩:∃F,F=Ver.push 2 (aN r z):=⟨_,rfl⟩;have e:Ver.step m.aC (m.us.getD q default).u ⟨2,a,n⟩ (aN r z)=(true,F):=by
  unfold Ver.step;dsimp only;(repeat rw[if_neg (by omega)]);rw[if_pos (by omega)];rw[hF]
 unfold fG;rw[e];clear e;refine JE [ptr fb, .agg #[.int .i64 2, .int .i64 a, .int .i64 n]] Tryz.func76 Tryz.ntmps76 fun w S=>?_
 (refine Jn ?_);(refine Jn ?_)
 repeat(refine Jy ?_;try intro b)
 (refine JH (iY fb cb ab (up m q) r z 2 (by omega)) ?_;intro s hs;(refine Jn ?_))
 repeat(refine Jy ?_)
 (refine End.aH ((r,s)) (he:=Jv) (hp:=?_));simp only;rw[hF,hs]
theorem F0(k:Nat)(n:Int)(hk:k<(m.us.getD q default).u.locals.length)(hh:r.has.length=(m.us.getD q default).u.locals.length):fG fb cb ab mb m r z q ⟨3,k,n⟩:=by
 obtain⟨F,hF⟩:∃F,F=Ver.push ((m.us.getD q default).u.locals.getD k default) (if r.has.getD k default then aN r z else Ver.fail 11 (aN r z)):=⟨_,rfl⟩;have e:Ver.step m.aC (m.us.getD q default).u ⟨3,k,n⟩ (aN r z)=(true,F):=by
  unfold Ver.step;dsimp only;(repeat rw[if_neg (by omega)]);rw[if_pos (by omega)];rw[Jj];rw[hF];rfl
 unfold fG;rw[e];clear e;refine JE [ptr fb, .agg #[.int .i64 3, .int .i64 k, .int .i64 n]] Tryz.func76 Tryz.ntmps76 fun w S=>?_
 (refine Jn ?_);(refine Jn ?_)
 cases hb:r.has.getD k default with
 |true=>
  rw[hb,if_pos rfl]at hF
  repeat(refine Jy ?_;try intro b)
  (refine JH (iY fb cb ab (up m q) r z ((m.us.getD q default).u.locals.getD k default) (by omega)) ?_;intro s hs;(refine Jn ?_))
  repeat(refine Jy ?_)
  (refine End.aH ((r,s)) (he:=Jv) (hp:=?_));exact hs.trans hF.symm
 |false=>
  rw[hb,if_neg (by decide)]at hF
  repeat(refine Jy ?_;try intro b)
  (refine JH (m5 fb cb ab (up m q) r z 11) ?_;intro s hs;(refine Jn ?_))
  repeat(refine Jy ?_)
  (refine JH (iY fb cb ab (up m q) r (lT 11 z) ((m.us.getD q default).u.locals.getD k default) (by show z.st.length≤1000;omega)) ?_;intro s hs;(refine Jn ?_))
  repeat(refine Jy ?_)
  (refine End.aH ((r,s)) (he:=Jv) (hp:=?_));rw[hF,←m7];exact hs
theorem F1(k:Nat)(n:Int)(hk:k<(m.us.getD q default).u.locals.length)(hh:r.has.length=(m.us.getD q default).u.locals.length):fG fb cb ab mb m r z q ⟨4,k,n⟩:=by
 obtain⟨F,hF⟩:∃F,F={Ver.want [(m.us.getD q default).u.locals.getD k default] (aN r z)with has:=(Ver.want [(m.us.getD q default).u.locals.getD k default] (aN r z)).has.set k true}:=⟨_,rfl⟩;have e:Ver.step m.aC (m.us.getD q default).u ⟨4,k,n⟩ (aN r z)=(true,F):=by
  unfold Ver.step;dsimp only;(repeat rw[if_neg (by omega)]);rw[if_pos (by omega)];rw[Jj];rw[hF];rfl
 unfold fG;rw[e];clear e;refine JE [ptr fb, .agg #[.int .i64 4, .int .i64 k, .int .i64 n]] Tryz.func76 Tryz.ntmps76 fun w S=>?_
 (refine Jn ?_);(refine Jn ?_)
 repeat(refine Jy ?_;try intro b)
 apply aB.draw 13 ([md m,aD fb (qN cb ab (up m q) r z) 195,aD b [.int .i64 4, .int .i64 (k:Int), .int .i64 n] 113]) (by kernel_rfl) 14 rfl;refine JR 0 ?_;refine JR 1 ?_;refine JR 2 ?_;refine JR 3 ?_;refine JR 4 ?_;refine JR 5 ?_;refine JR 6 ?_;refine JR 7 ?_;refine JR 8 ?_;refine JR 9 ?_;refine JR 10 ?_;refine JR 11 ?_;(refine JT 12 ?_;(refine Jb ?_;intro b);refine JG ?_);(refine JT 13 ?_;refine aA.aZ (spec:=kL fb cb ab (up m q) r z _ 1 _ [(m.us.getD q default).u.locals.getD k default] rfl (by omega) (by omega)) (k:=?_);intro s hs;refine JG ?_;(refine Jn ?_));(apply RunT.done;kernel_rfl)
 repeat(refine Jy ?_)
 apply aE.op (by exact rfl);refine aA.iG (a':=true) (k:=?_)
 repeat(refine Jy ?_)
 (refine End.aH (({r with has:=r.has.set k true},s)) (he:=Jv) (ht:=Jx) (hp:=?_));simp only;have h1:=congrArg Ver.aX.stack hs;have h2:=congrArg Ver.aX.err hs;have h3:=congrArg Ver.aX.has hs;have h4:=congrArg Ver.aX.at_ hs;have h5:=congrArg Ver.aX.todo hs;rw[hF,←hs];rfl
theorem aGT(a n:Int):fG fb cb ab mb m r z q ⟨5,a,n⟩:=by
 obtain⟨F,hF⟩:∃F,F=(Ver.pop (aN r z)).2:=⟨_,rfl⟩;have e:Ver.step m.aC (m.us.getD q default).u ⟨5,a,n⟩ (aN r z)=(true,F):=by
  unfold Ver.step;dsimp only;(repeat rw[if_neg (by omega)]);rw[if_pos (by omega)];rw[hF]
 unfold fG;rw[e];clear e;refine JE [ptr fb, .agg #[.int .i64 5, .int .i64 a, .int .i64 n]] Tryz.func76 Tryz.ntmps76 fun w S=>?_
 (refine Jn ?_);(refine Jn ?_)
 repeat(refine Jy ?_;try intro b)
 (refine JH (xA fb cb ab (up m q) r z (by omega)) ?_;intro s hs;(refine Jn ?_))
 repeat(refine Jy ?_)
 (refine End.aH ((r,s)) (he:=Jv) (hp:=?_));simp only;rw[hF,hs]
theorem aGU(a n:Int):fG fb cb ab mb m r z q ⟨6,a,n⟩:=by
 obtain⟨F,hF⟩:∃F,F=Ver.push 1 (Ver.want [1] (aN r z)):=⟨_,rfl⟩;have e:Ver.step m.aC (m.us.getD q default).u ⟨6,a,n⟩ (aN r z)=(true,F):=by
  unfold Ver.step;dsimp only;(repeat rw[if_neg (by omega)]);rw[if_pos (by omega)];rw[hF]
 unfold fG;rw[e];clear e;refine JE [ptr fb, .agg #[.int .i64 6, .int .i64 a, .int .i64 n]] Tryz.func76 Tryz.ntmps76 fun w S=>?_
 (refine Jn ?_);(refine Jn ?_)
 repeat(refine Jy ?_;try intro b)
 (refine Jc ?_;refine aA.aZ (spec:=kL fb cb ab (up m q) r z _ 1 _ [1] rfl (by omega) (by omega)) (t:=Jx) (k:=?_);intro s hs;(refine Jn ?_));obtain⟨y,rfl⟩:∃y,y=s:=⟨_,rfl⟩;have hy:=hs;have hyl:y.st.length≤300:=iU hs (dO (lA _ _) (show(aN r z).stack.length≤300 from hl));clear hs
 repeat(refine Jy ?_)
 (refine JH (iY fb cb ab (up m q) r y 1 (by omega)) ?_;intro s hs;(refine Jn ?_))
 repeat(refine Jy ?_)
 (refine End.aH ((r,s)) (he:=Jv) (hp:=?_));simp only;rw[hF,hs,hy]
theorem aGV(a n:Int):fG fb cb ab mb m r z q ⟨7,a,n⟩:=by
 obtain⟨F,hF⟩:∃F,F=Ver.push 2 (Ver.want [2] (aN r z)):=⟨_,rfl⟩;have e:Ver.step m.aC (m.us.getD q default).u ⟨7,a,n⟩ (aN r z)=(true,F):=by
  unfold Ver.step;dsimp only;(repeat rw[if_neg (by omega)]);rw[if_pos (by omega)];rw[hF]
 unfold fG;rw[e];clear e;refine JE [ptr fb, .agg #[.int .i64 7, .int .i64 a, .int .i64 n]] Tryz.func76 Tryz.ntmps76 fun w S=>?_
 (refine Jn ?_);(refine Jn ?_)
 repeat(refine Jy ?_;try intro b)
 (refine Jc ?_;refine aA.aZ (spec:=kL fb cb ab (up m q) r z _ 1 _ [2] rfl (by omega) (by omega)) (t:=Jx) (k:=?_);intro s hs;(refine Jn ?_));obtain⟨y,rfl⟩:∃y,y=s:=⟨_,rfl⟩;have hy:=hs;have hyl:y.st.length≤300:=iU hs (dO (lA _ _) (show(aN r z).stack.length≤300 from hl));clear hs
 repeat(refine Jy ?_)
 (refine JH (iY fb cb ab (up m q) r y 2 (by omega)) ?_;intro s hs;(refine Jn ?_))
 repeat(refine Jy ?_)
 (refine End.aH ((r,s)) (he:=Jv) (hp:=?_));simp only;rw[hF,hs,hy]
theorem aGW(op a n:Int)(hop:8≤op∧op≤12):fG fb cb ab mb m r z q ⟨op,a,n⟩:=by
 obtain⟨F,hF⟩:∃F,F=Ver.push 1 (Ver.want [1,1] (aN r z)):=⟨_,rfl⟩;have e:Ver.step m.aC (m.us.getD q default).u ⟨op,a,n⟩ (aN r z)=(true,F):=by
  unfold Ver.step;dsimp only;(repeat rw[if_neg (by omega)]);rw[if_pos (by omega)];rw[hF]
 unfold fG;rw[e];clear e;refine JE [ptr fb, .agg #[.int .i64 op, .int .i64 a, .int .i64 n]] Tryz.func76 Tryz.ntmps76 fun w S=>?_
 (refine Jn ?_);(refine Jn ?_)
 repeat(refine Jy ?_;try intro b)
 (refine Jc ?_;refine aA.aZ (spec:=kL fb cb ab (up m q) r z _ 2 _ [1,1] rfl (by omega) (by omega)) (t:=Jx) (k:=?_);intro s hs;(refine Jn ?_));obtain⟨y,rfl⟩:∃y,y=s:=⟨_,rfl⟩;have hy:=hs;have hyl:y.st.length≤300:=iU hs (dO (lA _ _) (show(aN r z).stack.length≤300 from hl));clear hs
 repeat(refine Jy ?_)
 (refine JH (iY fb cb ab (up m q) r y 1 (by omega)) ?_;intro s hs;(refine Jn ?_))
 repeat(refine Jy ?_)
 (refine End.aH ((r,s)) (he:=Jv) (hp:=?_));simp only;rw[hF,hs,hy]
theorem aGP(op a n:Int)(hop:15≤op∧op≤18):fG fb cb ab mb m r z q ⟨op,a,n⟩:=by
 obtain⟨F,hF⟩:∃F,F=Ver.push 2 (Ver.want [1,1] (aN r z)):=⟨_,rfl⟩;have e:Ver.step m.aC (m.us.getD q default).u ⟨op,a,n⟩ (aN r z)=(true,F):=by
  unfold Ver.step;dsimp only;(repeat rw[if_neg (by omega)]);rw[if_pos (by omega)];rw[hF]
 unfold fG;rw[e];clear e;refine JE [ptr fb, .agg #[.int .i64 op, .int .i64 a, .int .i64 n]] Tryz.func76 Tryz.ntmps76 fun w S=>?_
 (refine Jn ?_);(refine Jn ?_)
 repeat(refine Jy ?_;try intro b)
 (refine Jc ?_;refine aA.aZ (spec:=kL fb cb ab (up m q) r z _ 2 _ [1,1] rfl (by omega) (by omega)) (t:=Jx) (k:=?_);intro s hs;(refine Jn ?_));obtain⟨y,rfl⟩:∃y,y=s:=⟨_,rfl⟩;have hy:=hs;have hyl:y.st.length≤300:=iU hs (dO (lA _ _) (show(aN r z).stack.length≤300 from hl));clear hs
 repeat(refine Jy ?_)
 (refine JH (iY fb cb ab (up m q) r y 2 (by omega)) ?_;intro s hs;(refine Jn ?_))
 repeat(refine Jy ?_)
 (refine End.aH ((r,s)) (he:=Jv) (hp:=?_));simp only;rw[hF,hs,hy]
theorem aGQ(a n:Int):fG fb cb ab mb m r z q ⟨19,a,n⟩:=by
 obtain⟨F,hF⟩:∃F,F=Ver.push 2 (Ver.want [2,2] (aN r z)):=⟨_,rfl⟩;have e:Ver.step m.aC (m.us.getD q default).u ⟨19,a,n⟩ (aN r z)=(true,F):=by
  unfold Ver.step;dsimp only;(repeat rw[if_neg (by omega)]);rw[if_pos (by omega)];rw[hF]
 unfold fG;rw[e];clear e;refine JE [ptr fb, .agg #[.int .i64 19, .int .i64 a, .int .i64 n]] Tryz.func76 Tryz.ntmps76 fun w S=>?_
 (refine Jn ?_);(refine Jn ?_)
 repeat(refine Jy ?_;try intro b)
 (refine Jc ?_;refine aA.aZ (spec:=kL fb cb ab (up m q) r z _ 2 _ [2,2] rfl (by omega) (by omega)) (t:=Jx) (k:=?_);intro s hs;(refine Jn ?_));obtain⟨y,rfl⟩:∃y,y=s:=⟨_,rfl⟩;have hy:=hs;have hyl:y.st.length≤300:=iU hs (dO (lA _ _) (show(aN r z).stack.length≤300 from hl));clear hs
 repeat(refine Jy ?_)
 (refine JH (iY fb cb ab (up m q) r y 2 (by omega)) ?_;intro s hs;(refine Jn ?_))
 repeat(refine Jy ?_)
 (refine End.aH ((r,s)) (he:=Jv) (hp:=?_));simp only;rw[hF,hs,hy]
theorem aGS(a n:Int):fG fb cb ab mb m r z q ⟨20,a,n⟩:=by
 obtain⟨F,hF⟩:∃F,F=Ver.push 2 (Ver.want [2,2] (aN r z)):=⟨_,rfl⟩;have e:Ver.step m.aC (m.us.getD q default).u ⟨20,a,n⟩ (aN r z)=(true,F):=by
  unfold Ver.step;dsimp only;(repeat rw[if_neg (by omega)]);rw[if_pos (by omega)];rw[hF]
 unfold fG;rw[e];clear e;refine JE [ptr fb, .agg #[.int .i64 20, .int .i64 a, .int .i64 n]] Tryz.func76 Tryz.ntmps76 fun w S=>?_
 (refine Jn ?_);(refine Jn ?_)
 repeat(refine Jy ?_;try intro b)
 (refine Jc ?_;refine aA.aZ (spec:=kL fb cb ab (up m q) r z _ 2 _ [2,2] rfl (by omega) (by omega)) (t:=Jx) (k:=?_);intro s hs;(refine Jn ?_));obtain⟨y,rfl⟩:∃y,y=s:=⟨_,rfl⟩;have hy:=hs;have hyl:y.st.length≤300:=iU hs (dO (lA _ _) (show(aN r z).stack.length≤300 from hl));clear hs
 repeat(refine Jy ?_)
 (refine JH (iY fb cb ab (up m q) r y 2 (by omega)) ?_;intro s hs;(refine Jn ?_))
 repeat(refine Jy ?_)
 (refine End.aH ((r,s)) (he:=Jv) (hp:=?_));simp only;rw[hF,hs,hy]
theorem aGN(a n:Int):fG fb cb ab mb m r z q ⟨13,a,n⟩:=by
 obtain⟨F,hF⟩:∃F,F=Ver.push 2 (Ver.want [(Ver.pop (aN r z)).1] (if(Ver.pop (aN r z)).1≠1∧(Ver.pop (aN r z)).1≠2 then Ver.fail 9 (Ver.pop (aN r z)).2 else(Ver.pop (aN r z)).2)):=⟨_,rfl⟩;have e:Ver.step m.aC (m.us.getD q default).u ⟨13,a,n⟩ (aN r z)=(true,F):=by
  unfold Ver.step;dsimp only;(repeat rw[if_neg (by omega)]);rw[if_pos (by omega)];rw[hF]
 unfold fG;rw[e];clear e;refine JE [ptr fb, .agg #[.int .i64 13, .int .i64 a, .int .i64 n]] Tryz.func76 Tryz.ntmps76 fun w S=>?_
 (refine Jn ?_);(refine Jn ?_)
 repeat(refine Jy ?_;try intro b)
 (refine JH (xA fb cb ab (up m q) r z (by omega)) ?_;intro s hs;(refine Jn ?_));obtain⟨y,rfl⟩:∃y,y=s:=⟨_,rfl⟩;have hyl:y.st.length≤300:=iU hs (dO (CF _) (show(aN r z).stack.length≤300 from hl));rw[←hs]at hF;generalize(Ver.pop (aN r z)).1=v at *;clear hs
 by_cases hv:v≠1∧v≠2
 ·rw[if_pos hv]at hF;obtain⟨hv1,hv2⟩:=hv
  repeat(refine Jy ?_)
  (refine JH (m5 fb cb ab (up m q) r y 9) ?_;intro s hs;(refine Jn ?_))
  repeat(refine Jy ?_;try intro b)
  (refine Jc ?_;refine aA.aZ (spec:=kL fb cb ab (up m q) r (lT 9 y) _ 1 _ [v] rfl (by omega) (by show y.st.length≤1000;omega)) (t:=Jx) (k:=?_);intro s hs;(refine Jn ?_));obtain⟨x,rfl⟩:∃x,x=s:=⟨_,rfl⟩;have hx:=hs;have hxl:x.st.length≤300:=iU hs (dO (lA _ _) hyl);rw[m7]at hx;clear hs
  repeat(refine Jy ?_)
  (refine JH (iY fb cb ab (up m q) r x 2 (by omega)) ?_;intro s hs;(refine Jn ?_))
  repeat(refine Jy ?_)
  (refine End.aH ((r,s)) (he:=Jv) (hp:=?_));simp only;rw[hF,hs,hx]
 ·rw[if_neg hv]at hF
  by_cases hv1:v=1
  ·repeat(refine Jy ?_;try intro b)
   (refine Jc ?_;refine aA.aZ (spec:=kL fb cb ab (up m q) r y _ 1 _ [v] rfl (by omega) (by omega)) (t:=Jx) (k:=?_);intro s hs;(refine Jn ?_));obtain⟨x,rfl⟩:∃x,x=s:=⟨_,rfl⟩;have hx:=hs;have hxl:x.st.length≤300:=iU hs (dO (lA _ _) hyl);clear hs
   repeat(refine Jy ?_)
   (refine JH (iY fb cb ab (up m q) r x 2 (by omega)) ?_;intro s hs;(refine Jn ?_))
   repeat(refine Jy ?_)
   (refine End.aH ((r,s)) (he:=Jv) (hp:=?_));simp only;rw[hF,hs,hx]
  ·have hv2:v=2:=by omega
   repeat(refine Jy ?_;try intro b)
   (refine Jc ?_;refine aA.aZ (spec:=kL fb cb ab (up m q) r y _ 1 _ [v] rfl (by omega) (by omega)) (t:=Jx) (k:=?_);intro s hs;(refine Jn ?_));obtain⟨x,rfl⟩:∃x,x=s:=⟨_,rfl⟩;have hx:=hs;have hxl:x.st.length≤300:=iU hs (dO (lA _ _) hyl);clear hs
   repeat(refine Jy ?_)
   (refine JH (iY fb cb ab (up m q) r x 2 (by omega)) ?_;intro s hs;(refine Jn ?_))
   repeat(refine Jy ?_)
   (refine End.aH ((r,s)) (he:=Jv) (hp:=?_));simp only;rw[hF,hs,hx]
theorem aGO(a n:Int):fG fb cb ab mb m r z q ⟨14,a,n⟩:=by
 obtain⟨F,hF⟩:∃F,F=Ver.push 2 (Ver.want [(Ver.pop (aN r z)).1] (if(Ver.pop (aN r z)).1≠1∧(Ver.pop (aN r z)).1≠2 then Ver.fail 9 (Ver.pop (aN r z)).2 else(Ver.pop (aN r z)).2)):=⟨_,rfl⟩;have e:Ver.step m.aC (m.us.getD q default).u ⟨14,a,n⟩ (aN r z)=(true,F):=by
  unfold Ver.step;dsimp only;(repeat rw[if_neg (by omega)]);rw[if_pos (by omega)];rw[hF]
 unfold fG;rw[e];clear e;refine JE [ptr fb, .agg #[.int .i64 14, .int .i64 a, .int .i64 n]] Tryz.func76 Tryz.ntmps76 fun w S=>?_
 (refine Jn ?_);(refine Jn ?_)
 repeat(refine Jy ?_;try intro b)
 (refine JH (xA fb cb ab (up m q) r z (by omega)) ?_;intro s hs;(refine Jn ?_));obtain⟨y,rfl⟩:∃y,y=s:=⟨_,rfl⟩;have hyl:y.st.length≤300:=iU hs (dO (CF _) (show(aN r z).stack.length≤300 from hl));rw[←hs]at hF;generalize(Ver.pop (aN r z)).1=v at *;clear hs
 by_cases hv:v≠1∧v≠2
 ·rw[if_pos hv]at hF;obtain⟨hv1,hv2⟩:=hv
  repeat(refine Jy ?_)
  (refine JH (m5 fb cb ab (up m q) r y 9) ?_;intro s hs;(refine Jn ?_))
  repeat(refine Jy ?_;try intro b)
  (refine Jc ?_;refine aA.aZ (spec:=kL fb cb ab (up m q) r (lT 9 y) _ 1 _ [v] rfl (by omega) (by show y.st.length≤1000;omega)) (t:=Jx) (k:=?_);intro s hs;(refine Jn ?_));obtain⟨x,rfl⟩:∃x,x=s:=⟨_,rfl⟩;have hx:=hs;have hxl:x.st.length≤300:=iU hs (dO (lA _ _) hyl);rw[m7]at hx;clear hs
  repeat(refine Jy ?_)
  (refine JH (iY fb cb ab (up m q) r x 2 (by omega)) ?_;intro s hs;(refine Jn ?_))
  repeat(refine Jy ?_)
  (refine End.aH ((r,s)) (he:=Jv) (hp:=?_));simp only;rw[hF,hs,hx]
 ·rw[if_neg hv]at hF
  by_cases hv1:v=1
  ·repeat(refine Jy ?_;try intro b)
   (refine Jc ?_;refine aA.aZ (spec:=kL fb cb ab (up m q) r y _ 1 _ [v] rfl (by omega) (by omega)) (t:=Jx) (k:=?_);intro s hs;(refine Jn ?_));obtain⟨x,rfl⟩:∃x,x=s:=⟨_,rfl⟩;have hx:=hs;have hxl:x.st.length≤300:=iU hs (dO (lA _ _) hyl);clear hs
   repeat(refine Jy ?_)
   (refine JH (iY fb cb ab (up m q) r x 2 (by omega)) ?_;intro s hs;(refine Jn ?_))
   repeat(refine Jy ?_)
   (refine End.aH ((r,s)) (he:=Jv) (hp:=?_));simp only;rw[hF,hs,hx]
  ·have hv2:v=2:=by omega
   repeat(refine Jy ?_;try intro b)
   (refine Jc ?_;refine aA.aZ (spec:=kL fb cb ab (up m q) r y _ 1 _ [v] rfl (by omega) (by omega)) (t:=Jx) (k:=?_);intro s hs;(refine Jn ?_));obtain⟨x,rfl⟩:∃x,x=s:=⟨_,rfl⟩;have hx:=hs;have hxl:x.st.length≤300:=iU hs (dO (lA _ _) hyl);clear hs
   repeat(refine Jy ?_)
   (refine JH (iY fb cb ab (up m q) r x 2 (by omega)) ?_;intro s hs;(refine Jn ?_))
   repeat(refine Jy ?_)
   (refine End.aH ((r,s)) (he:=Jv) (hp:=?_));simp only;rw[hF,hs,hx]
theorem MZ(a n:Int)(hh:r.has.length≤1000)(hto:r.todo.length≤1000000000)(hent:∀x,bC r.dI a=some x→x.st.length≤1000∧x.hs.length=r.has.length):fG fb cb ab mb m r z q ⟨21,a,n⟩:=by
 obtain⟨F,hF⟩:∃F,F=Ver.to (m.us.getD q default).u.code.length a (aN r z):=⟨_,rfl⟩;have e:Ver.step m.aC (m.us.getD q default).u ⟨21,a,n⟩ (aN r z)=(false,F):=by
  unfold Ver.step;dsimp only;(repeat rw[if_neg (by omega)]);rw[if_pos (by omega)];rw[hF]
 unfold fG;rw[e];clear e;refine JE [ptr fb, .agg #[.int .i64 21, .int .i64 a, .int .i64 n]] Tryz.func76 Tryz.ntmps76 fun w S=>?_
 (refine Jn ?_);(refine Jn ?_)
 repeat(refine Jy ?_;try intro b)
 (refine JH (GD fb cb ab m q hq r z a (by omega) hh hto hent) ?_;intro s hs;(refine Jn ?_))
 repeat(refine Jy ?_)
 (refine End.aH (s) (he:=Jv) (hp:=?_));exact hs.trans hF.symm
theorem M0(a n:Int)(hh:r.has.length≤1000)(hto:r.todo.length≤1000000000)(hent:∀x,bC r.dI a=some x→x.st.length≤1000∧x.hs.length=r.has.length):fG fb cb ab mb m r z q ⟨22,a,n⟩:=by
 obtain⟨F,hF⟩:∃F,F=Ver.to (m.us.getD q default).u.code.length a (Ver.want [2] (aN r z)):=⟨_,rfl⟩;have e:Ver.step m.aC (m.us.getD q default).u ⟨22,a,n⟩ (aN r z)=(true,F):=by
  unfold Ver.step;dsimp only;(repeat rw[if_neg (by omega)]);rw[if_pos (by omega)];rw[hF]
 unfold fG;rw[e];clear e;refine JE [ptr fb, .agg #[.int .i64 22, .int .i64 a, .int .i64 n]] Tryz.func76 Tryz.ntmps76 fun w S=>?_
 (refine Jn ?_);(refine Jn ?_)
 repeat(refine Jy ?_;try intro b)
 (refine Jc ?_;refine aA.aZ (spec:=kL fb cb ab (up m q) r z _ 1 _ [2] rfl (by omega) (by omega)) (t:=Jx) (k:=?_);intro s hs;(refine Jn ?_));obtain⟨y,rfl⟩:∃y,y=s:=⟨_,rfl⟩;have hy:=hs;have hyl:y.st.length≤300:=iU hs (dO (lA _ _) (show(aN r z).stack.length≤300 from hl));clear hs
 repeat(refine Jy ?_)
 (refine JH (GD fb cb ab m q hq r y a (by omega) hh hto hent) ?_;intro s hs;(refine Jn ?_))
 repeat(refine Jy ?_)
 (refine End.aH (s) (he:=Jv) (hp:=?_));rw[hF,←hy];exact hs
theorem r8(op a n:Int)(hop:23≤op)(hsp:jJ fb cb ab mb m r z q ⟨op,a,n⟩):fG fb cb ab mb m r z q ⟨op,a,n⟩:=by
 have e:Ver.step m.aC (m.us.getD q default).u ⟨op,a,n⟩ (aN r z)=Ver.eS m.aC (m.us.getD q default).u ⟨op,a,n⟩ (aN r z):=by
  unfold Ver.step;dsimp only;(repeat rw[if_neg (by omega)])
 unfold fG;unfold jJ at hsp;rw[e];clear e;generalize Ver.eS m.aC (m.us.getD q default).u ⟨op,a,n⟩ (aN r z)=F at *;refine JE [ptr fb, .agg #[.int .i64 op, .int .i64 a, .int .i64 n]] Tryz.func76 Tryz.ntmps76 fun w S=>?_
 (refine Jn ?_);(refine Jn ?_)
 repeat(refine Jy ?_;try intro b)
 (refine JH (hsp) ?_;intro s hs;(refine Jn ?_))
 repeat(refine Jy ?_)
 (refine End.aH ((r,s)) (he:=Jv) (hp:=?_));exact hs
end
set_option maxHeartbeats 1000000 in
theorem aBh(cb mb:Nat)(m:ML)(k:Nat)(hk:k<m.us.length)(hl:∀t∈(m.us.getD k default).u.locals,ImgM.bG t)(hlen:(m.us.getD k default).u.locals.length≤9223372036854775807):Fn Tryz.prog 72 #[ptr cb,up m k] [md m] (ck cb mb m) (σ:=Unit) (fun _=>True) (fun _=> .int .i64 (Ver.head m.aC (m.us.getD k default).u)) (fun _=>ck cb mb m):=by
 refine JE [ptr cb,up m k] Tryz.func72 Tryz.ntmps72 fun w S=>?_
 (refine Jn ?_)
 repeat' (first|(refine Jc ?_;refine aA.aZ (spec:=CC _) (k:=?_);intro s hs;(refine Jn ?_))|(refine Jc ?_;refine aA.aZ (spec:=PL _ _ _ _ rfl hlen _ [ptr _] (md m) m9 (aD _ [ptr cb] 126::ck cb mb m) (by simp[kG]) (fun t=>!Ver.plain t&& !Ver.handle m.aC t) (by kernel_rfl) (fun x hx=>aBe cb mb _ m x (hl x hx))) (k:=?_);intro s hs;(refine Jn ?_))|refine Jo ?_|(refine JB ?_;intro b)|(refine JA ?_;intro ao cap)|refine gG (k:=fun h=>?_) (k':=fun h=>?_)|fail)
 all_goals ((refine End.aH (()) (he:=by(refine int_eq ?_;generalize(m.us.getD k default).u=u at *;generalize m.aC=M at *;unfold Ver.head;(repeat' split);all_goals (first|rfl|omega|(simp_all;done)|(simp_all;omega)))) (hp:=?_));trivial)
end Vw
namespace Ver
open ImgM
theorem OZ{i:Nat}{b:Int×Int}{r}(h:plain b.1=false):boxes i (b::r)=⟨9,0,i⟩:=by unfold boxes;rw[if_pos h]
theorem HN{i:Nat}{b:Int×Int}{r}(h:plain b.1=true)(h2:b.2<1∨20<b.2):boxes i (b::r)=⟨3,0,i⟩:=by unfold boxes;rw[if_neg (by rw[h];decide),if_pos h2]
theorem O0{i:Nat}{b:Int×Int}{r}(h:plain b.1=true)(h2:¬(b.2<1∨20<b.2)):boxes i (b::r)=boxes (i+1) r:=by
 conv=>lhs;unfold boxes
 rw[if_neg (by rw[h];decide),if_neg h2]
theorem RN{M:aG}{u:bS}{k j:Nat}{i:aY}{r}(h:¬gP M u i=0):pU M u k j (i::r)=⟨gP M u i,k,j⟩:=by unfold pU;rw[if_pos h]
theorem RO{M:aG}{u:bS}{k j:Nat}{i:aY}{r}(h:gP M u i=0):pU M u k j (i::r)=pU M u k (j+1) r:=by
 conv=>lhs;unfold pU
 rw[if_neg (fun h'=>h' h)]
theorem W6{M:aG}{k:Nat}{u:bS}(h:¬head M u=0):unit M k u=⟨head M u,k,0⟩:=by unfold unit;rw[if_pos h]
theorem W7{M:aG}{k:Nat}{u:bS}(h:head M u=0):unit M k u=pU M u k 0 u.code:=by unfold unit;rw[if_neg (fun h'=>h' h)]
theorem NR{M:aG}{k:Nat}{u:bS}{r}(h:¬(unit M k u).err=0):aL M k (u::r)=unit M k u:=by unfold aL;rw[if_pos h]
theorem NS{M:aG}{k:Nat}{u:bS}{r}(h:(unit M k u).err=0):aL M k (u::r)=aL M (k+1) r:=by
 conv=>lhs;unfold aL
 rw[if_neg (fun h'=>h' h)]
theorem QW{M:aG}(h:30<M.boxes.length∨30<M.aL.length):form M=⟨5,0,0⟩:=by unfold form;rw[if_pos h]
theorem D3{M:aG}{w:kF}(h:¬(30<M.boxes.length∨30<M.aL.length))(hb:boxes 0 M.boxes=w)(he:¬w.err=0):form M=w:=by unfold form;rw[if_neg h,hb,if_pos he]
theorem IV{M:aG}{w:kF}(h:¬(30<M.boxes.length∨30<M.aL.length))(hb:(boxes 0 M.boxes).err=0)(hu:aL M 0 M.aL=w)(he:¬w.err=0):form M=w:=by
 unfold form;rw[if_neg h,if_neg (fun h'=>h' hb),hu,if_pos he]
theorem QX{M:aG}(h:¬(30<M.boxes.length∨30<M.aL.length))(hb:(boxes 0 M.boxes).err=0)(hu:(aL M 0 M.aL).err=0)(ht:(M.aL.filter (fun u=>decide (u.kind=4))).length=0):form M=⟨6,0,0⟩:=by
 unfold form;rw[if_neg h,if_neg (fun h'=>h' hb),if_neg (fun h'=>h' hu),if_pos ht]
theorem QY{M:aG}(h:¬(30<M.boxes.length∨30<M.aL.length))(hb:(boxes 0 M.boxes).err=0)(hu:(aL M 0 M.aL).err=0)(ht:¬(M.aL.filter (fun u=>decide (u.kind=4))).length=0):form M=⟨0,0,0⟩:=by
 unfold form;rw[if_neg h,if_neg (fun h'=>h' hb),if_neg (fun h'=>h' hu),if_neg ht];rfl
theorem aGg{l:List bS}{u:bS}{t:Nat}(ht:t=(l.filter (fun u=>decide (u.kind=4))).length):((l ++[u]).filter (fun u=>decide (u.kind=4))).length=if u.kind=4 then t+1 else t:=by
 rw[oH,Jl,←ht]
 by_cases h:u.kind=4<;>simp[h]
end Ver
namespace Vw
open Go.RowKit Img
section
attribute [local irreducible] aE aB End aA Still aM aP RunT Fn aO
def aH7(w:Ver.kF):List Value:=[.int .i64 w.err, .int .i64 w.unit, .int .i64 w.at_]
abbrev CX(w:Ver.kF):Value:= .agg (aH7 w).toArray
theorem mO{a b c:Int}{w:Ver.kF}(h:w=⟨a,b,c⟩):CX w= .agg [Value.int .i64 a,Value.int .i64 b,Value.int .i64 c].toArray:=by subst h;rfl
set_option maxHeartbeats 1000000 in
theorem aBT(cb mb:Nat)(m:ML)(hwf:m.Wf):Fn Tryz.prog 45 #[ptr cb] [md m] (ck cb mb m) (σ:=Unit) (fun _=>True) (fun _=>CX (Ver.form m.aC)) (fun _=>ck cb mb m):=by
 refine JE [ptr cb] Tryz.func45 Tryz.ntmps45 fun w S=>?_
 (refine Jn ?_);apply aB.fact m.Small (fun w hm=>(nW.1 (hm.has tk)).small);intro hsm;have hs1:=hsm.bx;have hs2:=hsm.us;have hnu:m.aC.aL.length=m.us.length:=by simp
 by_cases hmany:30<m.bx.length∨30<m.us.length
 ·have hf:Ver.form m.aC=⟨5,0,0⟩:=Ver.QW (by rw[hnu];exact hmany)
  repeat' (first|refine Jo ?_|(refine JB ?_;intro b)|(refine JA ?_;intro ao cap)|refine gG (k:=fun h=>?_) (k':=fun h=>?_)|fail)
  all_goals ((refine End.eK (()) (he:=by exact mO hf) (hp:=?_));trivial)
 have hmany':¬(30<m.aC.boxes.length∨30<m.aC.aL.length):=by rw[hnu];exact hmany
 repeat(refine Jy ?_;try intro b)
 rename Nat=>b0
 apply aB.loop (σ:=Nat) (fun k=>k≤m.bx.length∧Ver.boxes 0 m.bx=Ver.boxes k (m.bx.drop k)) (fun k=>[(0,ptr cb),(2,ptr b0),(39, .slice m.bo m.bx.length m.bc),(40, .int .i64 (m.bx.length:Int)),(41, .int .i64 (k:Int))]) (fun _=>aI w S::md m::aD b0 [.int .i64 0, .int .i64 0, .int .i64 0] 51::ck cb mb m) (fun k=>m.bx.length-k) 0
 rotate_left
 exact sb;exact aK;intro s hs K hK;(refine Jn ?_)
 rotate_left
 ·exact⟨by omega,by simp⟩
 rename Nat=>k
 obtain⟨hk,hbx⟩:=hs
 by_cases h:k<m.bx.length
 ·rw[drop_cons h]at hbx;have hw:=hwf.bx _ (dQ h);unfold ImgM.bG at hw
  repeat' (first|(refine Jc ?_;refine aA.aZ (spec:=CC _) (k:=?_);intro s hs;(refine Jn ?_))|refine Jo ?_|(refine JB ?_;intro b)|(refine JA ?_;intro ao cap)|refine gG (k:=fun h=>?_) (k':=fun h=>?_)|fail)
  ·(refine End.eK (()) (he:=by exact mO (Ver.D3 hmany' (hbx.trans (Ver.OZ (by assumption))) (by simp))) (hp:=?_));trivial
  ·(refine End.eK (()) (he:=by exact mO (Ver.D3 hmany' (hbx.trans (Ver.HN (by assumption) (by omega))) (by simp))) (hp:=?_));trivial
  ·(refine End.eK (()) (he:=by exact mO (Ver.D3 hmany' (hbx.trans (Ver.HN (by assumption) (by omega))) (by simp))) (hp:=?_));trivial
  ·refine End.bK hK (k+1) ?_ ?_
   ·exact⟨by omega,hbx.trans (Ver.O0 (by assumption) (by omega))⟩
   ·omega
 rw[lD (by omega)]at hbx;have hb0:(Ver.boxes 0 m.aC.boxes).err=0:=by rw[show Ver.boxes 0 m.aC.boxes=_ from hbx];rfl
 clear hbx hK
 repeat(refine Jy ?_)
 apply aB.loop (σ:=Nat×Nat) (fun s=>s.1≤m.us.length∧Ver.aL m.aC 0 m.aC.aL=Ver.aL m.aC s.1 (m.aC.aL.drop s.1)∧s.2=((m.aC.aL.take s.1).filter (fun u=>decide (u.kind=4))).length) (fun s=>[(0,ptr cb),(2,ptr b0),(5, .int .i64 (s.2:Int)),(70, .int .i64 (m.us.length:Int)),(71, .int .i64 (s.1:Int))]) (fun _=>aI w S::md m::aD b0 [.int .i64 0, .int .i64 0, .int .i64 0] 51::ck cb mb m) (fun s=>m.us.length-s.1) (0,0)
 rotate_left
 exact sb;exact aK;intro s hs K hK;(refine Jn ?_)
 rotate_left
 ·exact⟨by simp only;omega,by simp,by simp⟩
 obtain⟨k,t⟩:=s;obtain⟨hk,hun,ht⟩:=hs;simp only at hk hun ht hK⊢
 by_cases hku:k<m.us.length
 ·have hd:=drop_cons (show k<m.aC.aL.length by omega);have htk:=mI (show k<m.aC.aL.length by omega);rw[ML.jI]at hd htk;rw[hd]at hun;have hts:=Ver.aGg (u:=(m.us.getD k default).u) ht;rw[←htk]at hts;have hwu:=hwf.us _ (ML.nI hku);have ht2:t≤k:=by rw[ht];exact dO (pG _ _) (List.length_take_le _ _)
  clear ht hd htk
  repeat' (first|(refine JQ (aBh cb mb m k hku hwu.locals (hsm.lo k hku)) ?_;intro s hs;(refine Jn ?_))|refine Jo ?_|(refine JB ?_;intro b)|(refine JA ?_;intro ao cap)|refine gG (k:=fun h=>?_) (k':=fun h=>?_)|fail)
  ·have hu1:=Ver.W6 (M:=m.aC) (k:=k) (by assumption);(refine End.eK (()) (he:=by exact mO (Ver.IV hmany' hb0 (hun.trans ((Ver.NR (by rw[hu1];assumption)).trans hu1)) (by assumption))) (hp:=?_));trivial
  ·have hh0:Ver.head m.aC (m.us.getD k default).u=0:=by assumption
   have hu2:=Ver.W7 (M:=m.aC) (k:=k) hh0;have hlc:=hsm.co k hku;have hlen:(m.us.getD k default).u.code.length=(m.us.getD k default).u.code.length:=rfl;apply aB.loop (σ:=Nat) (fun j=>j≤(m.us.getD k default).u.code.length∧Ver.pU m.aC (m.us.getD k default).u k 0 (m.us.getD k default).u.code=Ver.pU m.aC (m.us.getD k default).u k j ((m.us.getD k default).u.code.drop j)) (fun j=>[(0,ptr cb),(2,ptr b0),(5, .int .i64 (t:Int)),(6, .int .i64 (k:Int)),(7,up m k),(70, .int .i64 (m.us.length:Int)),(71, .int .i64 (k:Int)),(94, .slice (m.us.getD k default).co (m.us.getD k default).u.code.length (m.us.getD k default).cc),(95, .int .i64 ((m.us.getD k default).u.code.length:Int)),(96, .int .i64 (j:Int))]) (fun _=>aI w S::md m::aD b0 [.int .i64 0, .int .i64 0, .int .i64 0] 51::ck cb mb m) (fun j=>(m.us.getD k default).u.code.length-j) 0
   rotate_left
   exact sb;exact aK;intro j hj KJ hKJ;(refine Jn ?_)
   rotate_left
   ·exact⟨by omega,by simp⟩
   obtain⟨hj1,hj2⟩:=hj
   by_cases hjl:j<(m.us.getD k default).u.code.length
   ·rw[drop_cons hjl]at hj2;have hi0:(m.us.getD k default).u.code.getD j default∈(m.us.getD k default).u.code:=dQ hjl
    repeat' (first|(refine Jc ?_;refine aA.aZ (spec:=aBt cb mb m k hku _) (k:=?_);intro s hs;(refine Jn ?_))|refine Jo ?_|(refine JB ?_;intro b)|(refine JA ?_;intro ao cap)|refine gG (k:=fun h=>?_) (k':=fun h=>?_)|fail)
    ·have hi1:=Ver.RN (M:=m.aC) (i:=(m.us.getD k default).u.code.getD j default) (u:=(m.us.getD k default).u) (k:=k) (j:=j) (r:=(m.us.getD k default).u.code.drop (j+1)) (by assumption);have hu3:=hu2.trans (hj2.trans hi1);(refine End.eK (()) (he:=by exact mO (Ver.IV hmany' hb0 (hun.trans ((Ver.NR (by rw[hu3];assumption)).trans hu3)) (by assumption))) (hp:=?_));trivial
    ·refine End.bK hKJ (j+1) ?_ ?_
     ·exact⟨by omega,hj2.trans (Ver.RO (by assumption))⟩
     ·omega
   ·have hu3:(Ver.unit m.aC k (m.us.getD k default).u).err=0:=by
     rw[hu2,hj2,lD (by omega)];rfl
    repeat' (first|refine Jo ?_|(refine JB ?_;intro b)|(refine JA ?_;intro ao cap)|refine gG (k:=fun h=>?_) (k':=fun h=>?_)|fail)
    ·refine End.bK hK (k+1,t+1) ?_ ?_
     ·refine⟨by simp only;omega,hun.trans (Ver.NS hu3),?_⟩;rw[hts,if_pos (by assumption)]
     ·simp only;omega
    ·refine End.bK hK (k+1,t) ?_ ?_
     ·refine⟨by simp only;omega,hun.trans (Ver.NS hu3),?_⟩;rw[hts,if_neg (by assumption)]
     ·simp only;omega
 ·rw[lD (by rw[hnu];omega)]at hun;rw[pF (by rw[hnu];omega)]at ht;have hu0:(Ver.aL m.aC 0 m.aC.aL).err=0:=by rw[hun];rfl
  repeat' (first|refine Jo ?_|(refine JB ?_;intro b)|(refine JA ?_;intro ao cap)|refine gG (k:=fun h=>?_) (k':=fun h=>?_)|fail)
  ·(refine End.eK (()) (he:=by exact mO (Ver.QX hmany' hb0 hu0 (by rw[←ht];omega))) (hp:=?_));trivial
  ·(refine End.eK (()) (he:=by exact mO (Ver.QY hmany' hb0 hu0 (by rw[←ht];omega))) (hp:=?_));trivial
end
end Vw
namespace Ver
open ImgM
structure sQ(f g:aX):Prop where
 at_:g.at_=f.at_
 todo:g.todo=f.todo
 has:g.has=f.has
theorem sQ.refl(f:aX):sQ f f:=⟨rfl,rfl,rfl⟩
theorem sQ.trans{f g h:aX}(a:sQ f g)(b:sQ g h):sQ f h:=⟨b.at_.trans a.at_,b.todo.trans a.todo,b.has.trans a.has⟩
structure Kept(N:Nat)(f g:aX):Prop where
 same:sQ f g
 len:g.stack.length≤N
 ty:(∀t∈f.stack,bG t)→∀t∈g.stack,bG t
 err:¬f.err=0→g.err=f.err
theorem wN(e:Int)(f:aX):Kept f.stack.length f (fail e f):=by
 unfold fail
 split
 ·exact⟨⟨rfl,rfl,rfl⟩,cG _,fun h=>h,fun h=>absurd ‹f.err=0› h⟩
 ·exact⟨⟨rfl,rfl,rfl⟩,cG _,fun h=>h,fun _=>rfl⟩
theorem IJ(e:Int)(he:¬e=0)(f:aX):¬(fail e f).err=0:=by
 unfold fail
 split
 ·exact he
 ·assumption
theorem Kept.refl(f:aX):Kept f.stack.length f f:=⟨sQ.refl f,cG _,fun h=>h,fun _=>rfl⟩
theorem Kept.le{N M:Nat}{f g:aX}(h:Kept N f g)(hm:N≤M):Kept M f g:=⟨h.same,dO h.len hm,h.ty,h.err⟩
theorem Kept.trans{N M:Nat}{f g h:aX}(a:Kept N f g)(b:Kept M g h):Kept M f h:=
 ⟨a.same.trans b.same,b.len,fun t=>b.ty (a.ty t),fun e=>(b.err (by rw[a.err e];exact e)).trans (a.err e)⟩
theorem tG(f:aX):Kept f.stack.length f (pop f).2:=by
 unfold pop
 split
 ·exact wN _ _
 ·exact⟨⟨rfl,rfl,rfl⟩,by simp,fun h t ht=>h t (List.mem_of_mem_take ht),fun _=>rfl⟩
theorem aH4(t:Int)(f:aX):Kept f.stack.length f (mN t f):=by
 have h:=tG f;unfold mN
 split
 ·exact(h.trans (wN 9 _)).le h.len
 ·exact h
theorem AH(l:List Int)(f:aX):Kept f.stack.length f (want l f):=by
 induction l with
 |nil=>exact Kept.refl f
 |cons t r ih=>exact(ih.trans (aH4 t _)).le ih.len
theorem aEW(t:Int)(f:aX)(ht:bG t):Kept (f.stack.length+1) f (push t f):=by
 unfold push
 split
 ·have h:=wN 4 {f with stack:=f.stack ++[t]};refine⟨⟨h.same.at_,h.same.todo,h.same.has⟩,by have:=h.len;simpa using this,fun hf=>h.ty (fun u hu=>?_),h.err⟩;rcases dH.1 hu with hu|hu
  ·exact hf u hu
  ·simp at hu;rw[hu];exact ht
 ·refine⟨⟨rfl,rfl,rfl⟩,by simp,fun hf u hu=>?_,fun _=>rfl⟩;rcases dH.1 hu with hu|hu
  ·exact hf u hu
  ·simp at hu;rw[hu];exact ht
theorem aEX(t:Int)(f:aX)(h:(push t f).err=0):(push t f).stack.length≤300:=by
 unfold push at h⊢
 split
 ·rename_i h1
  rw[if_pos h1]at h;exact absurd h (IJ 4 (by decide) _)
 ·simp;omega
theorem OP(M:aG)(k:Int)(f:aX):Kept f.stack.length f (args M k f):=AH _ _
theorem Q4(M:aG)(f:aX):Kept f.stack.length f (gen M f).2:=by
 have h:=tG f;unfold gen
 split
 ·exact h
 split
 ·exact(h.trans (wN 9 _)).le h.len
 ·exact h
theorem aA8(f:aX):Kept f.stack.length f (done f):=by
 unfold done
 split
 ·exact Kept.refl f
 ·exact wN _ _
structure Good(M:aG)(u:bS):Prop where
 aL:∀k,k<M.aL.length→bG (M.aL.getD k default).result∧bG (M.aL.getD k default).aS
 boxes:∀k,k<M.boxes.length→bG (M.boxes.getD k default).1
 locals:∀t∈u.locals,bG t
 result:bG u.result
 aS:bG u.aS
 dY:M.aL.length≤30
 code:∀i∈u.code,gP M u i=0
theorem zM{b:Bool}(h:kB b=0):b=true:=by
 unfold kB at h
 split at h
 ·assumption
 ·cases h
theorem unit_eq{M:aG}{i kind:Int}(h:isUnit M i kind=true):0≤i∧i<(M.aL.length:Int)∧(M.aL.getD i.toNat default).kind=kind:=by
 simp only[isUnit,JX,JV]at h;exact⟨h.1.1,h.1.2,h.2⟩
structure rE(M:aG)(u:bS)(i:aY):Prop where
 op:1≤i.op∧i.op≤32
 loc:i.op=3∨i.op=4→0≤i.a∧i.a<(u.locals.length:Int)
 jump:i.op=21∨i.op=22→0≤i.a∧i.a<(u.code.length:Int)
 call:i.op=23→isUnit M i.a 2=true
 start:i.op=29→isUnit M i.a 3=true
 box:i.op=26∨i.op=27→0≤i.a∧i.a<(M.boxes.length:Int)
theorem yN{M:aG}{u:bS}{i:aY}(h:gP M u i=0):rE M u i:=by
 unfold gP at h
 by_cases h1:i.op=2
 ·exact⟨by omega,by omega,by omega,by omega,by omega,by omega⟩
 rw[if_neg h1]at h
 by_cases h2:i.op=3∨i.op=4
 ·rw[if_pos h2]at h;have:=zM h;simp only[JX,JV]at this;exact⟨by omega,fun _=>this,by omega,by omega,by omega,by omega⟩
 rw[if_neg h2]at h
 by_cases h3:i.op=21∨i.op=22
 ·rw[if_pos h3]at h;have:=zM h;simp only[JX,JV]at this;exact⟨by omega,by omega,fun _=>this,by omega,by omega,by omega⟩
 rw[if_neg h3]at h
 by_cases h4:i.op=23
 ·rw[if_pos h4]at h;exact⟨by omega,by omega,by omega,fun _=>zM h,by omega,by omega⟩
 rw[if_neg h4]at h
 by_cases h5:i.op=29
 ·rw[if_pos h5]at h;exact⟨by omega,by omega,by omega,by omega,fun _=>zM h,by omega⟩
 rw[if_neg h5]at h
 by_cases h6:i.op=26∨i.op=27
 ·rw[if_pos h6]at h;have:=zM h;simp only[JX,JV]at this;exact⟨by omega,by omega,by omega,by omega,by omega,fun _=>this⟩
 rw[if_neg h6]at h
 by_cases h7:i.op<1∨32<i.op
 ·rw[if_pos h7]at h;cases h
 ·exact⟨by omega,by omega,by omega,by omega,by omega,by omega⟩
theorem getD_in{l:List Int}{k:Nat}(h:∀t∈l,bG t):bG (l.getD k 0):=by
 rw[Jd];rcases Nat.lt_or_ge k l.length with hk|hk
 ·rw[Je hk];exact h _ (fB _)
 ·rw[tV hk];unfold bG;simp
theorem I8:bG 1:=by unfold bG;omega
theorem yM:bG 2:=by unfold bG;omega
structure gM(f g:aX):Prop where
 kept:Kept (f.stack.length+1) f g
 ok:g.err=0→f.stack.length≤300→g.stack.length≤300
theorem gM.of{f g:aX}(h:Kept f.stack.length f g):gM f g:=⟨h.le (l6 _),fun _ hl=>dO h.len hl⟩
theorem gM.push{f g:aX}(h:Kept f.stack.length f g)(t:Int)(ht:bG t):gM f (push t g):=
 ⟨(h.trans (aEW t g ht)).le (Nat.succ_le_succ h.len),fun he _=>aEX t g he⟩
theorem Kept.fail{f g:aX}(h:Kept f.stack.length f g)(e:Int):Kept f.stack.length f (fail e g):=(h.trans (wN e g)).le h.len
theorem Kept.ite{f:aX}{c:Prop} [Decidable c]{a b:aX}(ha:Kept f.stack.length f a)(hb:Kept f.stack.length f b):Kept f.stack.length f (if c then a else b):=by split<;>assumption
theorem Kept.want{f g:aX}(h:Kept f.stack.length f g)(l:List Int):Kept f.stack.length f (want l g):=(h.trans (AH l g)).le h.len
theorem Kept.done{f g:aX}(h:Kept f.stack.length f g):Kept f.stack.length f (done g):=(h.trans (aA8 g)).le h.len
theorem aFv{M:aG}{u:bS}(hg:Good M u){i:aY}(hi:rE M u i)(f:aX):gM f (eS M u i f).2:=by
 unfold eS
 by_cases h1:i.op=23
 ·rw[if_pos h1];obtain⟨g1,g2,g3⟩:=unit_eq (hi.call h1);exact gM.push (OP M _ f) _ (hg.aL i.a.toNat (by omega)).1
 rw[if_neg h1]
 by_cases h2:i.op=29
 ·rw[if_pos h2];obtain⟨g1,g2,g3⟩:=unit_eq (hi.start h2);have:=hg.dY;exact gM.push (OP M _ f) _ (by unfold bG;omega)
 rw[if_neg h2]
 by_cases h3:i.op=24
 ·rw[if_pos h3];exact gM.of (((Kept.refl f).fail 8|>.ite (Kept.refl f)).want _|>.done)
 rw[if_neg h3]
 by_cases h4:i.op=25
 ·rw[if_pos h4];exact gM.of (((Kept.refl f).fail 8|>.ite (Kept.refl f)).done)
 rw[if_neg h4]
 by_cases h5:i.op=26
 ·rw[if_pos h5];exact gM.of ((Kept.refl f).want _)
 rw[if_neg h5]
 by_cases h6:i.op=27
 ·rw[if_pos h6];have:=hi.box (.inr h6);exact gM.push (Kept.refl f) _ (hg.boxes i.a.toNat (by omega))
 rw[if_neg h6]
 by_cases h7:i.op=28
 ·rw[if_pos h7];exact gM.of ((tG f).fail 9|>.ite (tG f))
 rw[if_neg h7]
 by_cases h8:i.op=30
 ·rw[if_pos h8];have hk:=(tG f).trans (Q4 M (pop f).2);have hk':=hk.le (tG f).len;have hu:∀k,(gen M (pop f).2).1=some k→0≤k∧k<(M.aL.length:Int):=by
   unfold gen
   split
   ·intro k h;cases h
   split
   ·intro k h;cases h
   ·intro k h
    rename_i h2
    simp only[tY]at h;subst h;have h3:handle M (pop (pop f).2).1=true:=by simpa using h2
    simp only[handle,JX]at h3;obtain⟨q1,q2, -⟩:=unit_eq h3.2;exact⟨q1,q2⟩
  generalize gen M (pop f).2=G at *;obtain⟨o,g⟩:=G
  cases o with
  |none=>exact gM.of hk'
  |some k=>
   have:=hu k rfl;exact gM.push ((hk'.fail 9).ite hk') _ (hg.aL k.toNat (by omega)).1
 rw[if_neg h8]
 by_cases h9:i.op=31
 ·rw[if_pos h9];exact gM.push (((Kept.refl f).fail 8|>.ite (Kept.refl f)).want _) _ hg.aS
 rw[if_neg h9]
 by_cases h10:i.op=32
 ·rw[if_pos h10];exact gM.push (Q4 M f) _ yM
 rw[if_neg h10];exact gM.of (Kept.refl f)
inductive A2(M:aG)(u:bS)(i:aY)(f:aX):Bool×aX→Prop
 |plain {b:Bool} {g:aX}:i.op≠4→i.op≠21→i.op≠22→gM f g→A2 M u i f (b,g)
 |store {g:aX}:i.op=4→Kept f.stack.length f g→A2 M u i f (true,{g with has:=g.has.set i.a.toNat true})
 |jump:i.op=21→A2 M u i f (false,to u.code.length i.a f)
 |eY:i.op=22→A2 M u i f (true,to u.code.length i.a (want [2] f))
theorem aGY{M:aG}{u:bS}(hg:Good M u){i:aY}(hi:rE M u i)(f:aX):A2 M u i f (step M u i f):=by
 unfold step
 by_cases h1:i.op=1
 ·rw[if_pos h1];exact .plain (by omega) (by omega) (by omega) (gM.push (Kept.refl f) _ I8)
 rw[if_neg h1]
 by_cases h2:i.op=2
 ·rw[if_pos h2];exact .plain (by omega) (by omega) (by omega) (gM.push (Kept.refl f) _ yM)
 rw[if_neg h2]
 by_cases h3:i.op=3
 ·rw[if_pos h3];exact .plain (by omega) (by omega) (by omega) (gM.push (by split;exact Kept.refl f;exact(Kept.refl f).fail 11) _ (getD_in hg.locals))
 rw[if_neg h3]
 by_cases h4:i.op=4
 ·rw[if_pos h4];exact .store h4 ((Kept.refl f).want _)
 rw[if_neg h4]
 by_cases h5:i.op=5
 ·rw[if_pos h5];exact .plain (by omega) (by omega) (by omega) (gM.of (tG f))
 rw[if_neg h5]
 by_cases h6:i.op=6
 ·rw[if_pos h6];exact .plain (by omega) (by omega) (by omega) (gM.push ((Kept.refl f).want _) _ I8)
 rw[if_neg h6]
 by_cases h7:i.op=7
 ·rw[if_pos h7];exact .plain (by omega) (by omega) (by omega) (gM.push ((Kept.refl f).want _) _ yM)
 rw[if_neg h7]
 by_cases h8:8≤i.op∧i.op≤12
 ·rw[if_pos h8];exact .plain (by omega) (by omega) (by omega) (gM.push ((Kept.refl f).want _) _ I8)
 rw[if_neg h8]
 by_cases h9:i.op=13∨i.op=14
 ·rw[if_pos h9];exact .plain (by omega) (by omega) (by omega) (gM.push (((tG f).fail 9|>.ite (tG f)).want _) _ yM)
 rw[if_neg h9]
 by_cases h10:15≤i.op∧i.op≤18
 ·rw[if_pos h10];exact .plain (by omega) (by omega) (by omega) (gM.push ((Kept.refl f).want _) _ yM)
 rw[if_neg h10]
 by_cases h11:i.op=19∨i.op=20
 ·rw[if_pos h11];exact .plain (by omega) (by omega) (by omega) (gM.push ((Kept.refl f).want _) _ yM)
 rw[if_neg h11]
 by_cases h12:i.op=21
 ·rw[if_pos h12];exact .jump h12
 rw[if_neg h12]
 by_cases h13:i.op=22
 ·rw[if_pos h13];exact .eY h13
 rw[if_neg h13];have:=aFv hg hi f;generalize eS M u i f=G at *;obtain⟨b,g⟩:=G;exact .plain h4 h12 h13 this
theorem QN(k:Int):find [] k=none:=rfl
theorem sX(p:Int×Shape)(l:List (Int×Shape))(k:Int):find (p::l) k=if p.1=k then some p.2 else find l k:=by
 unfold find
 by_cases h:p.1=k<;>simp[h]
theorem QM(l:List (Int×Shape))(p q:Int)(s:Shape)(h:find l p=none):find (l ++[(p,s)]) q=if p=q then some s else find l q:=by
 induction l with
 |nil=>simp[sX,QN]
 |cons a l ih=>
  rw[sX]at h
  by_cases ha:a.1=p
  ·rw[if_pos ha]at h;cases h
  ·rw[if_neg ha]at h;rw[v8,sX,sX,ih h]
   by_cases haq:a.1=q
   ·have:¬p=q:=fun h=>ha (by rw[haq,h])
    rw[if_pos haq,if_neg this,if_pos haq]
   ·rw[if_neg haq,if_neg haq]
theorem QO(l:List (Int×Shape))(p q:Int)(s s0:Shape)(h:find l p=some s0):find (put l p s) q=if p=q then some s else find l q:=by
 induction l with
 |nil=>cases h
 |cons a l ih=>
  rw[sX]at h;unfold put
  by_cases ha:a.1=p
  ·rw[if_pos ha,sX,sX]
   by_cases hpq:p=q
   ·rw[if_pos (by rw[ha];exact hpq),if_pos hpq]
   ·rw[if_neg (by simp only;rw[ha];exact hpq),if_neg hpq,if_neg (by rw[ha];exact hpq)]
  ·rw[if_neg ha]at h;rw[if_neg ha,sX,sX,ih h]
   by_cases haq:a.1=q
   ·have:¬p=q:=fun h=>ha (by rw[haq,h])
    rw[if_pos haq,if_neg this,if_pos haq]
   ·rw[if_neg haq,if_neg haq]
theorem EX:∀(a b:List Bool),a.length=b.length→(meet a b).length=a.length
 |[],[],_=>rfl
 |[],_::_,h=>by cases h
 |_::_,[],h=>by cases h
 |x::a,y::b,h=>by simp[meet,EX a b (by simpa using h)]
theorem R9:∀(a b:List Bool),a.length=b.length→(meet a b).count true≤a.count true∧(¬meet a b=a→(meet a b).count true<a.count true)
 |[],[],_=>⟨cG _,fun h=>absurd rfl h⟩
 |[],_::_,h=>by cases h
 |_::_,[],h=>by cases h
 |x::a,y::b,h=>by
  obtain⟨h1,h2⟩:=R9 a b (by simpa using h);unfold meet
  cases x<;>cases y<;>simp only[Bool.and_true,Bool.and_false,sM,Bool.false_and,List.count_cons,beq_self_eq_true,if_true]
  ·exact⟨by simpa using h1,fun hn=>by have:=h2 (fun e=>hn (by rw[e]));simpa using this⟩
  ·exact⟨by simpa using h1,fun hn=>by have:=h2 (fun e=>hn (by rw[e]));simpa using this⟩
  ·refine⟨by simp;omega,fun _=>by simp;omega⟩
  ·exact⟨by omega,fun hn=>by have:=h2 (fun e=>hn (by rw[e]));omega⟩
def weight(L:Nat):Option Shape→Nat
 |none=>L+1
 |some s=>s.2.count true
def room(n L:Nat)(l:List (Int×Shape)):Nat:=((List.range n).map fun(p:Nat)=>weight L (find l (p:Int))).sum
theorem U0(n L:Nat):room n L []=n*(L+1):=by
 unfold room;simp only[QN,weight]
 induction n with
 |zero=>simp
 |succ n ih=>rw[oJ,Jq,List.sum_append,ih];simp[Nat.add_mul]
theorem F7(g h:Nat→Nat):∀(l:List Nat),(∀p,g p≤h p)→(l.map g).sum≤(l.map h).sum
 |[],_=>cG _
 |a::l,hle=>by
  simp only[eG,List.sum_cons];have:=F7 g h l hle;have:=hle a;omega
theorem M4(g h:Nat→Nat)(p0:Nat)(hlt:g p0<h p0):∀(l:List Nat),(∀p,g p≤h p)→p0∈l→(l.map g).sum<(l.map h).sum
 |[],_,hp=>by cases hp
 |a::l,hle,hp=>by
  simp only[eG,List.sum_cons];have h1:=hle a;have h2:=F7 g h l hle;rcases eB.1 hp with rfl|hp
  ·omega
  ·have:=M4 g h p0 hlt l hle hp;omega
structure Inv(n L:Nat)(f:aX):Prop where
 has:f.has.length=L
 oP:∀p s,find f.at_ p=some s→s.1.length≤300∧(∀t∈s.1,bG t)∧s.2.length=L
 todo:∀p∈f.todo,0≤p∧p<(n:Int)∧(find f.at_ p).isSome=true
theorem Inv.same{n L:Nat}{f g:aX}(h:Inv n L f)(s:sQ f g):Inv n L g:=
 ⟨by rw[s.has];exact h.has,by rw[s.at_];exact h.oP,by rw[s.todo,s.at_];exact h.todo⟩
structure x5(n L:Nat)(f g:aX):Prop where
 inv:Inv n L g
 stack:g.stack=f.stack
 has:g.has=f.has
 err:¬f.err=0→g.err=f.err
 mu:g.todo.length+room n L g.at_≤f.todo.length+room n L f.at_
 aI:∀p,(find f.at_ p).isSome=true→(find g.at_ p).isSome=true
theorem x5.refl{n L:Nat}{f:aX}(h:Inv n L f):x5 n L f f:=⟨h,rfl,rfl,fun _=>rfl,cG _,fun _ h=>h⟩
theorem QJ{n L:Nat}{f:aX}(h:Inv n L f)(e:Int):x5 n L f (fail e f):=by
 have k:=wN e f;have hst:(fail e f).stack=f.stack:=by unfold fail;split<;>rfl
 exact⟨h.same k.same,hst,k.same.has,k.err,by rw[k.same.todo,k.same.at_];exact cG _,fun p hp=>by rw[k.same.at_];exact hp⟩
theorem zV{n L:Nat}{f:aX}(h:Inv n L f){p:Int}(h0:0≤p)(hn:p≤(n:Int))(hs:f.err=0→f.stack.length≤300)(ht:∀t∈f.stack,bG t):x5 n L f (to n p f):=by
 unfold to
 by_cases he:¬f.err=0
 ·rw[if_pos he];exact x5.refl h
 have he:f.err=0:=vW.1 he;rw[if_neg (fun h=>h he)]
 by_cases hp:p=(n:Int)
 ·rw[if_pos hp];exact QJ h 3
 rw[if_neg hp];have hmem:p.toNat∈List.range n:=nN.2 (by omega);have hcast:((p.toNat:Nat):Int)=p:=by omega
 cases hf:find f.at_ p with
 |none=>
  simp only;have hfa:=fun q=>QM f.at_ p q (f.stack,f.has) hf
  have hcnt:f.has.count true≤L:=by rw[←h.has];exact List.count_le_length
  refine⟨⟨h.has,fun q s hq=>?_,fun q hq=>?_⟩,rfl,rfl,fun h=>absurd he h,?_,fun q hq=>?_⟩
  ·simp only at hq;rw[hfa]at hq
   by_cases hpq:p=q
   ·rw[if_pos hpq]at hq
    cases hq
    exact⟨hs he,ht,h.has⟩
   ·rw[if_neg hpq]at hq;exact h.oP q s hq
  ·simp only at hq⊢;rw[hfa]
   by_cases hpq:p=q
   ·subst hpq;rw[if_pos rfl];exact⟨h0,by omega,rfl⟩
   ·rw[if_neg hpq];rcases dH.1 hq with hq|hq
    ·exact h.todo q hq
    ·simp at hq;exact absurd hq.symm hpq
  ·simp only;have:=M4 (fun q=>weight L (find (f.at_ ++[(p,(f.stack,f.has))]) (q:Int))) (fun q=>weight L (find f.at_ (q:Int))) p.toNat (by
    (try simp only)
    rw[hfa,hcast,if_pos rfl,hf];simp only[weight];omega) (List.range n) (fun q=>by
    (try simp only)
    rw[hfa]
    split
    ·rename_i hpq;rw[←hpq,hf];simp only[weight];omega
    ·exact cG _) hmem
   unfold room;simp only[Jl,JW,oI];omega
  ·simp only;rw[hfa];split
   ·rfl
   ·exact hq
 |some s=>
  simp only;obtain⟨g1,g2,g3⟩:=h.oP p s hf
  by_cases hst:¬s.1=f.stack
  ·rw[if_pos hst];exact QJ h 8
  have hst:s.1=f.stack:=vW.1 hst;rw[if_neg (fun h=>h hst)]
  by_cases hm:meet s.2 f.has=s.2
  ·rw[if_pos hm];exact x5.refl h
  rw[if_neg hm];have hfp:=fun q=>QO f.at_ p q (s.1,meet s.2 f.has) s hf
  have hlen:=EX s.2 f.has (by rw[g3,h.has]);obtain⟨m1,m2⟩:=R9 s.2 f.has (by rw[g3,h.has]);have m3:=m2 hm;refine⟨⟨h.has,fun q s' hq=>?_,fun q hq=>?_⟩,rfl,rfl,fun h=>absurd he h,?_,fun q hq=>?_⟩
  ·simp only at hq;rw[hfp]at hq
   by_cases hpq:p=q
   ·rw[if_pos hpq]at hq
    cases hq
    exact⟨g1,g2,by simp only;rw[hlen];exact g3⟩
   ·rw[if_neg hpq]at hq;exact h.oP q s' hq
  ·simp only at hq⊢;rw[hfp]
   by_cases hpq:p=q
   ·subst hpq;rw[if_pos rfl];exact⟨h0,by omega,rfl⟩
   ·rw[if_neg hpq];rcases dH.1 hq with hq|hq
    ·exact h.todo q hq
    ·simp at hq;exact absurd hq.symm hpq
  ·simp only;have:=M4 (fun q=>weight L (find (put f.at_ p (s.1,meet s.2 f.has)) (q:Int))) (fun q=>weight L (find f.at_ (q:Int))) p.toNat (by
    (try simp only)
    rw[hfp,hcast,if_pos rfl,hf];simp only[weight];omega) (List.range n) (fun q=>by
    (try simp only)
    rw[hfp]
    split
    ·rename_i hpq;rw[←hpq,hf];simp only[weight];omega
    ·exact cG _) hmem
   unfold room;simp only[Jl,JW,oI];omega
  ·simp only;rw[hfp];split
   ·rfl
   ·exact hq
structure N9(n L:Nat)(f g:aX):Prop where
 inv:Inv n L g
 len:g.stack.length≤301
 ok:g.err=0→g.stack.length≤300
 ty:∀t∈g.stack,bG t
 mu:g.todo.length+room n L g.at_≤f.todo.length+room n L f.at_
theorem V1{M:aG}{u:bS}(hg:Good M u){i:aY}(hi:rE M u i){f:aX}{n L:Nat}(hn:n=u.code.length)(hL:L=u.locals.length)(h:Inv n L f)(hl:f.stack.length≤300)(ht:∀t∈f.stack,bG t):N9 n L f (step M u i f).2:=by
 have hs:=aGY hg hi f;generalize step M u i f=G at *
 cases hs with
 | @plain b g h1 h2 h3 hk=>
  exact⟨h.same hk.kept.same,dO hk.kept.len (by omega),fun he=>hk.ok he hl,hk.kept.ty ht,by rw[hk.kept.same.todo,hk.kept.same.at_];exact cG _⟩
 | @store g h1 hk=>
  have:=h.same hk.same;exact⟨⟨by simp only[Ji];exact this.has,this.oP,this.todo⟩,dO hk.len (by omega),fun _=>dO hk.len hl,hk.ty ht,by simp only;rw[hk.same.todo,hk.same.at_];exact cG _⟩
 |jump h1=>
  have hj:=hi.jump (.inl h1);have hw:=zV (p:=i.a) h (by omega) (by omega) (fun _=>hl) ht;rw[←hn];exact⟨hw.inv,by simp only[hw.stack];omega,fun _=>by simp only[hw.stack];omega,by simp only[hw.stack];exact ht,hw.mu⟩
 |eY h1=>
  have hj:=hi.jump (.inr h1);have hk:=AH [2] f;have hw:=zV (p:=i.a) (h.same hk.same) (by omega) (by omega) (fun _=>dO hk.len hl) (hk.ty ht);have hl2:=dO hk.len hl;rw[←hn];exact⟨hw.inv,by simp only[hw.stack];omega,fun _=>by simp only[hw.stack];omega,by simp only[hw.stack];exact hk.ty ht,by
   have:=hw.mu;rw[hk.same.todo,hk.same.at_]at this;exact this⟩
end Ver
end Go.Proofs.YtofckcabpchcmaaGreatDoor
