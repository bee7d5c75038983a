/- verify's flow, walked: going to a place. -/
import Derived.Test.YtofckcabpchcmaaGreatDoorM10
set_option linter.unusedVariables false
set_option linter.unusedSimpArgs false
set_option linter.unusedSectionVars false
set_option maxRecDepth 100000
namespace Go.Proofs.YtofckcabpchcmaaGreatDoor
namespace Vw
open Go.RowKit Img
attribute [local irreducible] aE aG End aB Still aN aU RunT Fn aS
abbrev DK(x:SH):List Chunk:=[arr x.so x.st.length x.sc 3 aY x.st,arr x.ho x.hs.length x.hc 4 oK x.hs]
def inner(l:List (Int×SH)):List Chunk:=l.flatMap fun p=>DK p.2
abbrev fa(fb cb ab:Nat)(u:Value)(r:FR)(s:FS):List Chunk:=
 [aF fb (rJ cb ab u r s) 195,arr s.so s.st.length s.sc 3 aY s.st,arr r.to_ r.todo.length r.tc 3 aY r.todo,arr r.ho r.has.length r.hc 4 oK r.has,mp ab o0 r.dZ,bC (inner r.dZ)]
theorem LP(l:List (Int×SH))(k:Int):Ver.find (l.map fun p=>(p.1,(p.2.st,p.2.hs))) k=(bG l k).map fun x=>(x.st,x.hs):=by
 induction l with
 |nil=>rfl
 |cons a l ih=>
  obtain⟨q,x⟩:=a
  by_cases h:q=k
  ·simp[Ver.find,bG,h]
  ·have e1:bG ((q,x)::l) k=bG l k:=by simp[bG,h]
   rw[e1,←ih];simp[Ver.find,h]
theorem aD3(l:List (Int×SH))(k:Int)(y:SH):(jG l k y).map (fun p=>(p.1,(p.2.st,p.2.hs)))=Ver.put (l.map fun p=>(p.1,(p.2.st,p.2.hs))) k (y.st,y.hs):=by
 induction l with
 |nil=>rfl
 |cons a l ih=>
  obtain⟨q,x⟩:=a;simp only[jG,fI,Ver.put]
  by_cases h:q=k
  ·simp[h]
  ·simp[h,ih]
def F6:List (Int×SH)→Int→List (Int×SH)
 |[],_=>[]
 |(q,a)::r,k=>if q=k then r else(q,a)::F6 r k
theorem K6(a:Int×SH)(l:List (Int×SH)):inner (a::l)=DK a.2 ++inner l:=by simp[inner]
theorem K7(l:List (Int×SH))(k:Int)(y:SH)(x:SH)(h:bG l k=some x):(inner (jG l k y)).Perm (DK y ++inner (F6 l k)):=by
 induction l with
 |nil=>cases h
 |cons a l ih=>
  obtain⟨q,b⟩:=a;unfold jG F6;unfold bG at h
  by_cases hq:q=k
  ·simp only[hq,if_true,K6];exact List.Perm.refl _
  ·simp only[hq,if_false]at h⊢;rw[K6,K6];exact((ih h).append_left _).trans (BP _ _ _)
theorem T1(l:List (Int×SH))(k:Int)(x:SH)(h:bG l k=some x):jG l k x=l:=by
 induction l with
 |nil=>cases h
 |cons a l ih=>
  obtain⟨q,b⟩:=a;unfold jG;unfold bG at h
  by_cases hq:q=k
  ·simp only[hq,if_true]at h⊢
   cases h;rfl
  ·simp only[hq,if_false]at h⊢;rw[ih h]
theorem aD4(l:List (Int×SH))(k:Int)(x y:SH)(h:bG l k=some x)(e:o0 y=o0 x):l.map (fun p=>(Value.int .i64 p.1,o0 p.2))=(jG l k y).map (fun p=>(Value.int .i64 p.1,o0 p.2)):=by
 induction l with
 |nil=>cases h
 |cons a l ih=>
  obtain⟨q,b⟩:=a;unfold jG;unfold bG at h
  by_cases hq:q=k
  ·simp only[hq,if_true]at h⊢
   cases h
   simp[e]
  ·simp only[hq,if_false]at h⊢;simp[ih h]
theorem S2(l:List (Int×SH))(k:Int)(x:SH)(h:bG l k=some x):∀c∈DK x,c∈inner l:=by
 intro c hc;have:=K7 l k x x h;rw[T1 l k x h]at this;exact this.mem_iff.2 (kY _ hc)
theorem aC1(l:List (Int×SH))(k:Int)(y:SH)(h:bG l k=none):inner (jG l k y)=inner l ++DK y:=by
 rw[pQ k y l h];simp[inner]
theorem LM:∀(a b:List Bool),a.length=b.length→(Ver.meet a b).length=a.length
 |[],_,_=>by cases ‹List Bool› <;>rfl
 |_::_,[],h=>by cases h
 |x::a,y::b,h=>by simp[Ver.meet,LM a b (by simpa using h)]
theorem TR:∀(a b:List Bool) (k:Nat),k<a.length→a.length=b.length→(Ver.meet a b).getD k default=(a.getD k default&&b.getD k default)
 |[],_,k,h,_=>by simp at h
 |_::_,[],_,_,h=>by cases h
 |x::a,y::b,0,_,_=>rfl
 |x::a,y::b,k+1,h,h2=>by
  have:=TR a b k (by simpa using h) (by simpa using h2);simpa[Ver.meet]using this
theorem End.aAC{Q:Exit→Act→World→Prop}{N:Nd}{E:Env}{e:Exit}{cs cs' ds L L' F:List Chunk}(hin:cs'=cs ++ds)(t:Take (bC cs) L L')(t2:aR ds L' F)(hx:∀c∈ds,c.bE=true)(h:End Q N e E (bC cs'::F)):End Q N e E L:=
 End.imp (fun w hm=>hin▸Mem.B8 hm t t2 hx) h
theorem End.PZ{Q:Exit→Act→World→Prop}{N:Nd}{E:Env}{e:Exit}{cs ds es L L' F:List Chunk}(p:cs.Perm (ds ++es))(t:Take (bC es) L L')(t2:aR ds L' F)(hx:∀c∈ds,c.bE=true)(h:End Q N e E (bC cs::F)):End Q N e E L:=
 End.imp (fun w hm=>Mem.nC hm t t2 p hx) h
theorem aG.pH{P:Program}{Q:Exit→Act→World→Prop}{N:Nd}{E:Env}{c:Code}{cs ds es L L':List Chunk}(p:cs.Perm (ds ++es))(t:Take (bC cs) L L')(h:aG P Q N c E (ds ++(bC es::L'))):aG P Q N c E L:=
 aG.imp (fun w hm=>Mem.pH hm t p) h
theorem aCm{l l':List Bool}(n:Nat)(hn:l.length=n)(hm:l'.length=n)(h:∀j,j<n→l.getD j default=l'.getD j default):l=l':=
 pE aA (fun j h1 h2=>by have:=h j aA;simpa[Jd,h1,h2]using this)
theorem KT{l:List Bool}{k j:Nat}{v:Bool}(hk:k<l.length):(l.set k v).getD j default=if j=k then v else l.getD j default:=by
 simp only[Jd,w8]
 by_cases h:k=j
 ·subst h;simp[hk]
 ·rw[if_neg h,if_neg (fun h'=>h h'.symm)]
structure qH(a b:List Bool)(s:Nat×List Bool×Bool):Prop where
 le:s.1≤a.length
 len:s.2.1.length=a.length
 done:∀j,j<s.1→s.2.1.getD j default=(a.getD j default&&b.getD j default)
 rest:∀j,s.1≤j→s.2.1.getD j default=a.getD j default
 less:(s.2.2=false∧s.2.1=a)∨(s.2.2=true∧s.2.1≠a)
theorem qH.start(a b:List Bool):qH a b (0,a,false):=⟨aW,rfl,fun j h=>by simp at h,fun j h=>rfl, .inl ⟨rfl,rfl⟩⟩
theorem qH.fin{a b:List Bool}{k:Nat}{l:List Bool}{t:Bool}(h:qH a b (k,l,t))(hk:¬k<a.length)(hab:a.length=b.length):l=Ver.meet a b:=by
 have h1:=h.len;simp only at h1;exact aCm a.length h1 (LM a b hab) (fun j hj=>by rw[TR a b j hj hab];exact h.done j (by simp only;omega))
theorem qH.set{a b:List Bool}{k:Nat}{l:List Bool}{t:Bool}(h:qH a b (k,l,t))(hk:k<a.length)(h1:l.getD k default=true)(h2:b.getD k default=false):qH a b (k+1,l.set k false,true):=by
 have hl:=h.len;have hr:=h.rest k (bS _);simp only at hl hr;refine⟨hk,by simp[hl],fun j hj=>?_,fun j hj=>?_, .inr ⟨rfl,fun e=>?_⟩⟩
 ·simp only at hj⊢;rw[KT aA]
  by_cases hjk:j=k
  ·subst hjk;rw[if_pos rfl,h2];simp
  ·rw[if_neg hjk];exact h.done j (by simp only;omega)
 ·simp only at hj⊢;rw[KT aA,if_neg aA];exact h.rest j (by simp only;omega)
 ·have:=congrArg (fun x=>x.getD k default) e;simp only at this;rw[KT aA,if_pos rfl,←hr,h1]at this
  cases this
theorem qH.skip{a b:List Bool}{k:Nat}{l:List Bool}{t:Bool}(h:qH a b (k,l,t))(hk:k<a.length)(h1:¬(l.getD k default=true∧b.getD k default=false)):qH a b (k+1,l,t):=by
 have hr:=h.rest k (bS _);simp only at hr;refine⟨hk,h.len,fun j hj=>?_,fun j hj=>h.rest j (by simp only at hj⊢;omega),h.less⟩;simp only at hj⊢
 by_cases hjk:j=k
 ·subst hjk;rw[hr]at h1⊢
  cases ha:a.getD j default<;>cases hb:b.getD j default<;>simp_all
 ·exact h.done j (by simp only;omega)
theorem G9(fb cb ab:Nat)(m:ML)(q:Nat)(hq:q<m.us.length)(r:FR)(z:FS)(p:Int)(hl:z.st.length≤1000)(hh:r.has.length≤1000)(hto:r.todo.length≤1000000000)
  (hent:∀x,bG r.dZ p=some x→x.st.length≤1000∧x.hs.length=r.has.length):
  Fn Tryz.prog 74 #[ptr fb, .int .i64 p] [md m] (fa fb cb ab (up m q) r z) (σ:=FR×FS) (fun s=>aQ s.1 s.2=Ver.to (m.us.getD q default).u.code.length p (aQ r z)) (fun _=> .tuple #[]) (fun s=>fa fb cb ab (up m q) s.1 s.2):=by
 obtain⟨F,hF⟩:∃F,F=Ver.to (m.us.getD q default).u.code.length p (aQ r z):=⟨_,rfl⟩;rw[←hF];unfold Ver.to at hF;refine JE [ptr fb, .int .i64 p] Tryz.func74 Tryz.ntmps74 fun w S=>?_;refine Jn ?_
 by_cases he:z.err=0
 ·rw[if_neg (fun h=>h he)]at hF
  by_cases hp:p=((m.us.getD q default).u.code.length:Int)
  ·rw[if_pos hp]at hF;refine aD ?_;(refine eM (n5 fb cb ab (up m q) r z 3) fun s hs=>?_);(refine End.pJ ((r,mW 3 z)) (hp:=?_));rw[hF];exact n6 r z 3
  ·rw[if_neg hp]at hF;have hfd:Ver.find (aQ r z).at_ p=(bG r.dZ p).map fun x=>(x.st,x.hs):=LP r.dZ p;rw[hfd]at hF
   cases hm:bG r.dZ p with
   |none=>
    rw[hm]at hF;simp only[yY]at hF
    repeat(refine Jy ?_;try intro b)
    refine b8 10 [aF fb (rJ cb ab (up m q) r z) 195] 11 ?_;refine bR [0,1,2,3,4,5,6,7,8] ?_;refine lN 9 (Q3 ⟨z.st,z.so,z.sc,r.has,r.ho,r.hc⟩ (by show z.st.length≤1000000;omega) (by show r.has.length≤1000000;omega)) fun s hs=>?_;(refine JT 10 ?_;refine aB.rO (a:=s) (k:=?_);refine JG ?_;refine Jn ?_);refine b6 ?_
    repeat(refine Jy ?_;try first|intro ao cap|intro b)
    obtain⟨hs1,hs2⟩:=hs;simp only at hs1 hs2;apply End.aAC (aC1 r.dZ p s hm) tk cA (by simp[dU]);(refine End.pJ (({r with dZ:=jG r.dZ p s,todo:=r.todo ++[p],to_:=ao,tc:=cap},z)) (ht:=Jx) (hp:=?_));have hmp:=pQ p s r.dZ hm;rw[hF];simp[aQ,FR.at_,hmp,hs1,hs2]
   |some x=>
    rw[hm]at hF;simp only[pA]at hF;obtain⟨hx1,hx2⟩:=hent x hm;have hmem:=S2 r.dZ p x hm;have hm1:arr x.so x.st.length x.sc 3 aY x.st∈inner r.dZ:=hmem _ aW
    repeat(refine Jy ?_;try intro b)
    (apply aE.op;exact rfl;refine aB.bA (spec:=aB3 x.so z.so _ _ _ _ x.st z.st rfl rfl aA aA) (k:=?_);intro s hs;refine Jn ?_)
    by_cases hst:x.st=z.st
    ·have hd:decide (x.st=z.st)=true:=decide_eq_true hst;rw[if_neg (show¬x.st≠(aQ r z).stack from fun h=>h hst)]at hF;have hpm:=K7 r.dZ p x x hm;rw[T1 r.dZ p x hm]at hpm;refine aD ?_;apply aG.pH hpm tk;refine kS (σ:=Nat×List Bool×Bool) (qH x.hs r.has) (fun s=>[(0,ptr fb),(1, .int .i64 p),(4,ptr b),(6, .bool s.2.2),(69, .int .i64 x.hs.length),(70, .int .i64 s.1)]) (fun s=>[aO w S,md m,aF fb (rJ cb ab (up m q) r z) 195,arr z.so z.st.length z.sc 3 aY z.st,arr r.to_ r.todo.length r.tc 3 aY r.todo,arr r.ho r.has.length r.hc 4 oK r.has,mp ab o0 r.dZ,bC (inner (F6 r.dZ p)),arr x.so x.st.length x.sc 3 aY x.st,arr x.ho x.hs.length x.hc 4 oK s.2.1,aF b [.slice x.so x.st.length x.sc, .slice x.ho x.hs.length x.hc] 193]) (fun s=>x.hs.length-s.1) (0,x.hs,false) ?_ fun s hs KM hKM=>?_
     ·exact qH.start _ _
     refine Jn ?_;obtain⟨k,l,t⟩:=s;have hle:=hs.le;simp only at hle hKM⊢
     by_cases hk:k<x.hs.length
     ·by_cases hb:l.getD k default=true∧r.has.getD k default=false
      ·obtain⟨hb1,hb2⟩:=hb;refine aD ?_;apply aE.op aV;refine aB.j5 (a':=false) (k:=?_);refine aD ?_;refine End.bK hKM (k+1,l.set k false,true) ?_ ?_
       ·exact hs.set hk hb1 hb2
       ·simp only;omega
      ·cases hb1:l.getD k default with
       |false=>
        refine aD ?_;refine End.bK hKM (k+1,l,t) ?_ ?_
        ·exact hs.skip hk hb
        ·simp only;omega
       |true=>
        have hb2:r.has.getD k default=true:=by cases h:r.has.getD k default<;>simp_all
        refine aD ?_;refine End.bK hKM (k+1,l,t) ?_ ?_
        ·exact hs.skip hk hb
        ·simp only;omega
     ·have hfin:=hs.fin hk hx2;have hless:=hs.less;simp only at hless;rw[show Ver.meet x.hs (aQ r z).has=l from hfin.symm]at hF;clear hs;rcases hless with⟨rfl,rfl⟩|⟨rfl,hne⟩
      ·rw[if_pos rfl]at hF;refine aD ?_;apply End.PZ hpm tk cA (by simp[dU]);(refine End.dL ((r,z)) (hp:=?_));rw[hF]
      ·rw[if_neg hne]at hF;have hll:l.length=x.hs.length:=by rw[hfin];exact LM _ _ hx2
       have hpy:=K7 r.dZ p ⟨x.st,x.so,x.sc,l,x.ho,x.hc⟩ x hm;have hsv:o0 ⟨x.st,x.so,x.sc,l,x.ho,x.hc⟩=o0 x:=by unfold o0;simp only[hll]
       have hmv:=aD4 r.dZ p x ⟨x.st,x.so,x.sc,l,x.ho,x.hc⟩ hm hsv
       repeat(refine Jy ?_;try first|intro ao cap|intro b)
       apply End.imp (fun w hm'=>aDZ hm' tk hmv);apply End.PZ hpy tk (Jx) (by simp[dU]);(refine End.dL (({r with dZ:=jG r.dZ p ⟨x.st,x.so,x.sc,l,x.ho,x.hc⟩,todo:=r.todo ++[p],to_:=ao,tc:=cap},z)) (ht:=Jx) (hp:=?_));rw[hF];simp only[aQ,FR.at_,aD3]
    ·have hd:decide (x.st=z.st)=false:=decide_eq_false hst;rw[if_pos (show x.st≠(aQ r z).stack from hst)]at hF;refine aD ?_;(refine eM (n5 fb cb ab (up m q) r z 8) fun s hs=>?_);(refine End.pJ ((r,mW 8 z)) (hp:=?_));rw[hF];exact n6 r z 8
 ·rw[if_pos (show(aQ r z).err≠0 from he)]at hF;refine aD ?_;(refine End.pJ ((r,z)) (hp:=?_));rw[hF]
end Vw
end Go.Proofs.YtofckcabpchcmaaGreatDoor
