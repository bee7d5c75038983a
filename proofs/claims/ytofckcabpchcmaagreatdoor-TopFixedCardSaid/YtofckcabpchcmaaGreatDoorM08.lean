/- verify's flow, walked: a unit's code. -/
import Derived.Test.YtofckcabpchcmaaGreatDoorM07
import Derived.Lib.IndexMore
import Derived.Shelf.Strings.Search3
import Derived.ProofKit
import Derived.OpenShut
import Derived.JoinedCond
import Derived.SizedLaws
import Derived.Deep.Slices
import Derived.Carry
set_option linter.unusedVariables false
set_option linter.unusedSimpArgs false
set_option linter.unusedSectionVars false
set_option maxRecDepth 100000
namespace Go.Proofs.YtofckcabpchcmaaGreatDoor
namespace Vw
open Go.RowKit Img
attribute [local irreducible] aE aB End aA Still aM aP RunT Fn aO
structure sJ(m:ML):Prop where
 boxes:m.bx.length≤30
 aL:m.us.length≤30
 head:∀k,k<m.us.length→Ver.head m.aC (m.us.getD k default).u=0
 gP:∀k,k<m.us.length→∀i∈(m.us.getD k default).u.code,Ver.gP m.aC (m.us.getD k default).u i=0
theorem sJ.kQ{m:ML}(h:sJ m)(hwf:m.Wf){q:Nat}(hq:q<m.us.length):Ver.Good m.aC (m.us.getD q default).u:=by
 have hu:=hwf.us _ (ML.nI hq);refine⟨fun k hk=>?_,fun k hk=>?_,hu.locals,hu.result,hu.aS,by simpa using h.aL,h.gP q hq⟩
 ·have:=hwf.us _ (ML.nI (show k<m.us.length by simpa using hk));rw[ML.jI];exact⟨this.result,this.aS⟩
 ·exact(hwf.bx _ (dQ hk)).1
theorem P9{r:FR}{z:FS}{n L:Nat}(h:Ver.Inv n L (aN r z))(p:Int)(x:SH)(hx:bC r.dI p=some x):x.st.length≤300∧(∀t∈x.st,ImgM.bG t)∧x.hs.length=L:=by
 have:=K9 r.dI p;rw[hx]at this;exact h.oP p (x.st,x.hs) this
theorem aBd{r:FR}{z:FS}{n L:Nat}(h:Ver.Inv n L (aN r z)):r.has.length=L:=h.has
theorem aGX(fb cb ab mb:Nat)(m:ML)(r:FR)(z:FS)(q:Nat)(hq:q<m.us.length)(hf:sJ m){n:Nat}(hi:Ver.Inv n (m.us.getD q default).u.locals.length (aN r z))(hl:z.st.length≤300)(hst:∀t∈z.st,ImgM.bG t)(hto:r.todo.length≤1000000000)
  (i:ImgM.aY) (hin:Ver.gP m.aC (m.us.getD q default).u i=0):fG fb cb ab mb m r z q i:=by
 have ho:=Ver.yN hin;have hlo:=(BL (hf.head q hq)).1;have hhl:=aBd hi;have hent:∀a x,bC r.dI a=some x→x.st.length≤1000∧x.hs.length=r.has.length:=fun a x hx=>by
  obtain⟨h1,h2,h3⟩:=P9 hi a x hx;exact⟨by omega,by rw[h3,hhl]⟩
 obtain⟨op,a,nn⟩:=i;obtain⟨hop,hloc,hjmp,hcall,hstart,hbox⟩:=ho;simp only at hop hloc hjmp hcall hstart hbox;rcases(by omega:op=1∨op=2∨op=3∨op=4∨op=5∨op=6∨op=7∨(8≤op∧op≤12)∨op=13∨op=14∨(15≤op∧op≤18)∨op=19∨op=20∨op=21∨op=22∨op=23∨op=24∨op=25∨op=26∨op=27∨op=28∨op=29∨op=30∨op=31∨op=32)with rfl|rfl|rfl|rfl|rfl|rfl|rfl|h|rfl|rfl|h|rfl|rfl|rfl|rfl|rfl|rfl|rfl|rfl|rfl|rfl|rfl|rfl|rfl|rfl
 ·exact aGM fb cb ab mb m r z q hq hl hst a nn
 ·exact aGR fb cb ab mb m r z q hq hl hst a nn
 ·obtain⟨h1,h2⟩:=hloc (.inl rfl);obtain⟨k,rfl⟩:=JI h1;exact F0 fb cb ab mb m r z q hq hl hst k nn (by omega) hhl
 ·obtain⟨h1,h2⟩:=hloc (.inr rfl);obtain⟨k,rfl⟩:=JI h1;exact F1 fb cb ab mb m r z q hq hl hst k nn (by omega) hhl
 ·exact aGT fb cb ab mb m r z q hq hl hst a nn
 ·exact aGU fb cb ab mb m r z q hq hl hst a nn
 ·exact aGV fb cb ab mb m r z q hq hl hst a nn
 ·exact aGW fb cb ab mb m r z q hq hl hst op a nn h
 ·exact aGN fb cb ab mb m r z q hq hl hst a nn
 ·exact aGO fb cb ab mb m r z q hq hl hst a nn
 ·exact aGP fb cb ab mb m r z q hq hl hst op a nn h
 ·exact aGQ fb cb ab mb m r z q hq hl hst a nn
 ·exact aGS fb cb ab mb m r z q hq hl hst a nn
 ·exact MZ fb cb ab mb m r z q hq hl hst a nn (by omega) hto (hent a)
 ·exact M0 fb cb ab mb m r z q hq hl hst a nn (by omega) hto (hent a)
 ·obtain⟨k,rfl,hk, -⟩:=KH (hcall rfl);have hk:k<m.us.length:=by simpa using hk
  exact r8 fb cb ab mb m r z q hq hl hst _ _ _ (by omega) (aFk fb cb ab mb m r z q hq hl hst k nn hk (hf.head k hk))
 ·exact r8 fb cb ab mb m r z q hq hl hst _ _ _ (by omega) (aFl fb cb ab mb m r z q hq hl hst a nn)
 ·exact r8 fb cb ab mb m r z q hq hl hst _ _ _ (by omega) (aFm fb cb ab mb m r z q hq hl hst a nn)
 ·obtain⟨h1,h2⟩:=hbox (.inl rfl);obtain⟨k,rfl⟩:=JI h1;exact r8 fb cb ab mb m r z q hq hl hst _ _ _ (by omega) (aFn fb cb ab mb m r z q hq hl hst k nn (by omega))
 ·obtain⟨h1,h2⟩:=hbox (.inr rfl);obtain⟨k,rfl⟩:=JI h1;exact r8 fb cb ab mb m r z q hq hl hst _ _ _ (by omega) (aFo fb cb ab mb m r z q hq hl hst k nn (by omega))
 ·exact r8 fb cb ab mb m r z q hq hl hst _ _ _ (by omega) (aFp fb cb ab mb m r z q hq hl hst a nn)
 ·obtain⟨k,rfl,hk, -⟩:=KH (hstart rfl);have hk:k<m.us.length:=by simpa using hk
  exact r8 fb cb ab mb m r z q hq hl hst _ _ _ (by omega) (aFq fb cb ab mb m r z q hq hl hst k nn hk hf.aL (hf.head k hk))
 ·exact r8 fb cb ab mb m r z q hq hl hst _ _ _ (by omega) (aFr fb cb ab mb m r z q hq hl hst a nn)
 ·exact r8 fb cb ab mb m r z q hq hl hst _ _ _ (by omega) (aFs fb cb ab mb m r z q hq hl hst a nn)
 ·exact r8 fb cb ab mb m r z q hq hl hst _ _ _ (by omega) (aFt fb cb ab mb m r z q hq hl hst a nn)
def j0(L p:Nat):List Bool:=List.replicate p true ++List.replicate (L-p) false
theorem aBb{L p:Nat}(h:p≤L):(j0 L p).length=L:=by simp[j0];omega
theorem aBc{L p:Nat}(h:p<L):(j0 L p).set p true=j0 L (p+1):=by
 unfold j0;rw[List.set_append_right _ _ (by simp)];obtain⟨j,hj⟩:∃j,L-p=j+1:=⟨L-p-1,by omega⟩;rw[hj,show L-(p+1)=j by omega,List.replicate_succ' (n:=p)];simp[List.replicate_succ]
theorem BN:(0:Int)=((0:Nat):Int):=rfl
theorem aDY(l:List Int):l=[]∨∃p r,l=p::r:=by cases l<;>simp
theorem aAG(cb mb:Nat)(m:ML)(q:Nat)(hq:q<m.us.length)(hf:sJ m)(hwf:m.Wf):Fn Tryz.prog 46 #[ptr cb, .int .i64 (q:Int)] [md m] (ck cb mb m) (σ:=Unit) (fun _=>True) (fun _=>CX (Ver.code m.aC q)) (fun _=>ck cb mb m):=by
 obtain⟨h1,h2,h3,h4,h5,h6⟩:=BL (hf.head q hq);have hgood:=hf.kQ hwf hq;obtain⟨W,hW⟩:∃W,W=Ver.code m.aC q:=⟨_,rfl⟩;rw[←hW];unfold Ver.code at hW;rw[ML.jI]at hW;refine JE [ptr cb, .int .i64 (q:Int)] Tryz.func46 Tryz.ntmps46 fun w S=>?_
 (refine Jn ?_);have hlc:((m.us.getD q default).u.locals.length:Int)=((m.us.getD q default).u.locals.length:Nat):=rfl;obtain⟨P,hP⟩:∃P:Nat,(m.us.getD q default).u.params=(P:Int):=JI h2;generalize hL:(m.us.getD q default).u.locals.length=L at *
 repeat(refine Jy ?_;try intro b)
 obtain⟨wb,rfl⟩:∃x,x=b:=⟨_,rfl⟩;apply aE.op (by exact rfl);refine aA.aCh oB (k:=?_);intro ab
 repeat(refine Jy ?_;try intro b)
 obtain⟨fb,rfl⟩:∃x,x=b:=⟨_,rfl⟩;apply aE.op (by exact rfl);refine aA.rQ (f:=nP) (iα:=inferInstance) (ef:=inferInstance) (z:=false) (n:=L) (hj:=by rw[hL]) (hj':=by rw[hL]) (k:=?_);intro hb
 repeat(refine Jy ?_)
 apply aB.imp (fun w hm=>((hm.bY 3 aT).bY 3 aT).eX);apply aB.loop (σ:=Nat) (fun k=>k≤P) (fun k=>[(0,ptr cb),(1, .int .i64 (q:Int)),(4,ptr wb),(5,up m q),(6,ptr fb),(36, .int .i64 (m.us.getD q default).u.params),(37, .int .i64 (k:Int))]) (fun k=>[aI w S,md m,aD cb [.pointer (some ⟨mb,0,none⟩)] 128,aD mb [.slice m.bo m.bx.length m.bc, .slice m.uo m.us.length m.uc] 26,aD wb [.int .i64 0, .int .i64 0, .int .i64 0] 51,aD fb [ptr cb,up m q, .map (some ab), .slice none 0 0, .slice none 0 0, .slice (some ⟨hb,0,none⟩) L L, .int .i64 0] 195,arr none 0 0 3 aT [],arr none 0 0 3 aT [],arr (some ⟨hb,0,none⟩) L L 4 nP (j0 L k),mp ab oB ([]:List (Int×SH)),aR []]) (fun k=>P-k) 0
 rotate_left
 exact sb;exact aK;intro k hs K1 hK1;(refine Jn ?_)
 rotate_left
 ·exact bP _
 by_cases hk:k<P
 ·repeat(refine Jy ?_)
  apply aE.op (by exact rfl);refine aA.iG (a':=true) (k:=?_);rw[aBc (show k<L by omega)]
  repeat(refine Jy ?_)
  refine End.bK hK1 (k+1) ?_ ?_
  ·omega
  ·omega
 obtain rfl:k=P:=by omega
 clear hK1 hs hk;have hL0:(j0 L k).length=L:=aBb (by omega);have hst:Ver.start (m.us.getD q default).u=Ver.to (m.us.getD q default).u.code.length 0 (aN (⟨[],[],none,0,j0 L k,some ⟨hb,0,none⟩,L⟩:FR) (⟨[],none,0,0⟩:FS)):=by
  unfold Ver.start;rw[hP,hL,Jj];rfl
 rw[hst]at hW;have hinv0:Ver.Inv (m.us.getD q default).u.code.length L (aN (⟨[],[],none,0,j0 L k,some ⟨hb,0,none⟩,L⟩:FR) (⟨[],none,0,0⟩:FS)):=
  ⟨hL0,(fun p s h=>by cases h),(fun p h=>by cases h)⟩
 have hw0:=Ver.zV hinv0 (p:=0) (by omega) (by omega) (fun _=>bP _) (fun t h=>by cases h);have he0:(Ver.to (m.us.getD q default).u.code.length 0 (aN (⟨[],[],none,0,j0 L k,some ⟨hb,0,none⟩,L⟩:FR) (⟨[],none,0,0⟩:FS))).err=0:=by
  unfold Ver.to;rw[if_neg (fun h=>h rfl),if_neg (by omega)];rfl
 have hmu0:=hw0.mu;have hst0:=hw0.stack;have hm0:Ver.fV (m.us.getD q default).u=2*((m.us.getD q default).u.code.length*(L+1))+1:=by unfold Ver.fV;rw[hL]
 have hcl:(m.us.getD q default).u.code.length*(L+1)≤4000*201:=Nat.mul_le_mul h6 (by omega)
 repeat(refine Jy ?_)
 (refine JH (GD fb cb ab m q hq ⟨[],[],none,0,j0 L k,some ⟨hb,0,none⟩,L⟩ ⟨[],none,0,0⟩ 0 (by simp) (by show(j0 L k).length≤1000;omega) (by simp) (fun x h=>by cases h)) ?_;intro s hs;(refine Jn ?_));rw[←hs]at hW hw0 he0 hmu0 hst0;clear hs hst;obtain⟨r,z⟩:=s;have hmu1:r.todo.length+Ver.room (m.us.getD q default).u.code.length L (aN r z).at_≤(m.us.getD q default).u.code.length*(L+1):=by
  rw[←Ver.U0];have:(aN r z).todo.length+Ver.room (m.us.getD q default).u.code.length L (aN r z).at_≤0+Ver.room (m.us.getD q default).u.code.length L []:=hmu0;rw[uD]at this;exact this
 have hzl:z.st.length≤301:=by
  have:z.st=[]:=hst0;rw[this];simp
 repeat(refine Jy ?_)
 apply aB.loop (σ:=FR×FS×Nat) (fun s=>Ver.Inv (m.us.getD q default).u.code.length L (aN s.1 s.2.1)∧s.2.1.err=0∧s.2.1.st.length≤301∧W=Ver.run m.aC (m.us.getD q default).u q s.2.2 (aN s.1 s.2.1)∧s.1.todo.length+Ver.room (m.us.getD q default).u.code.length L (aN s.1 s.2.1).at_≤s.2.2∧s.2.2≤2000000) (fun s=>[(0,ptr cb),(1, .int .i64 (q:Int)),(4,ptr wb),(5,up m q),(6,ptr fb)]) (fun s=>aI w S::md m::aD wb [.int .i64 0, .int .i64 0, .int .i64 0] 51::(fa fb cb ab (up m q) s.1 s.2.1 ++ck cb mb m)) (fun s=>s.2.2) (r,z,Ver.fV (m.us.getD q default).u)
 rotate_left
 exact sb;exact aK;intro s hs KM hKM;(refine Jn ?_)
 rotate_left
 ·exact⟨hw0.inv,he0,hzl,hW,by simp only;omega,by simp only;omega⟩
 clear hW hw0 he0 hmu0 hst0 hmu1 hzl r z hinv0;obtain⟨r,z,fuel⟩:=s;obtain⟨hinv,he,hzl,hW,hmu,hfu⟩:=hs;simp only at hinv he hzl hW hmu hfu hKM⊢;rcases aDY r.todo with hT|⟨p,rest,hT⟩
 ·have hWo:W=⟨0,0,0⟩:=by
   rw[hW]
   cases fuel with
   |zero=>rfl
   |succ j=>unfold Ver.run;rw[show(aN r z).todo=[]from hT];rfl
  have hlen:r.todo.length=0:=by rw[hT];rfl
  repeat(refine Jy ?_)
  (refine End.eK (()) (he:=by exact mO hWo) (hp:=?_));trivial
 ·have hlen:r.todo.length=rest.length+1:=by rw[hT];rfl
  have hgp:r.todo.getD 0 default=p:=by rw[hT];rfl
  have hdp:r.todo.drop 1=rest:=by rw[hT];rfl
  obtain⟨j,rfl⟩:∃j,fuel=j+1:=⟨fuel-1,by omega⟩;obtain⟨hp0,hpn,hps⟩:=hinv.todo p (by rw[show(aN r z).todo=_ from hT];exact gU);have hx0:Ver.find (aN r z).at_ p=(bC r.dI p).map fun x=>(x.st,x.hs):=K9 r.dI p
  obtain⟨x,hx⟩:∃x,bC r.dI p=some x:=by
   rw[hx0]at hps
   cases hm:bC r.dI p with
   |none=>rw[hm]at hps;cases hps
   |some x=>exact⟨x,rfl⟩
  rw[hx]at hx0;simp only[a8]at hx0;obtain⟨g1,g2,g3⟩:=hinv.oP p _ hx0;simp only at g1 g2 g3;have hmem:=RJ r.dI p x hx;have hm1:arr x.so x.st.length x.sc 3 aT x.st∈inner r.dI:=hmem _ (by simp);have hm2:arr x.ho x.hs.length x.hc 4 nP x.hs∈inner r.dI:=hmem _ (by simp);have hin:Ver.gP m.aC (m.us.getD q default).u ((m.us.getD q default).u.code.getD p.toNat default)=0:=hf.gP q hq _ (dQ (by omega));rw[←hgp]at hx hin hp0 hpn;have hrun:W=if(Ver.round m.aC (m.us.getD q default).u p rest (aN r z)).err≠0 then⟨(Ver.round m.aC (m.us.getD q default).u p rest (aN r z)).err,q,p⟩else Ver.run m.aC (m.us.getD q default).u q j (Ver.round m.aC (m.us.getD q default).u p rest (aN r z)):=by
   rw[hW]
   conv=>lhs;unfold Ver.run
   rw[show(aN r z).todo=p::rest from hT]
  clear hW
  repeat(refine Jy ?_)
  (apply aE.op;exact rfl;refine aA.b8 (h:=by(apply Still.at_;exact rfl;exact rfl;exact Jr;exact rfl;exact rfl;exact rfl;exact BN;omega)) (k:=?_))
  repeat(refine Jy ?_;try intro ao cap)
  (refine JQ (PM x (by omega) (by omega)) ?_;intro s hs;(refine Jn ?_));obtain⟨y,rfl⟩:∃y,y=s:=⟨_,rfl⟩;obtain⟨hy1,hy2⟩:=hs
  repeat(refine Jy ?_)
  have hfl:aN ⟨r.dI,r.todo.drop 1,ao,cap,y.hs,y.ho,y.hc⟩ ⟨y.st,y.so,y.sc,z.err⟩={aN r z with todo:=rest,stack:=x.st,has:=x.hs}:=by
   unfold aN;simp only[hy1,hy2,hdp];rfl
  have hinv1:Ver.Inv (m.us.getD q default).u.code.length L (aN ⟨r.dI,r.todo.drop 1,ao,cap,y.hs,y.ho,y.hc⟩ ⟨y.st,y.so,y.sc,z.err⟩):=by
   rw[hfl];exact⟨g3,hinv.oP,fun t ht=>hinv.todo t (by rw[show(aN r z).todo=_ from hT];exact iO _ ht)⟩
  have hyl:y.st.length≤300:=by rw[hy1];exact g1
  have hyt:∀t∈y.st,ImgM.bG t:=by rw[hy1];exact g2
  have hgone:=Ver.V1 hgood (Ver.yN hin) rfl hL.symm hinv1 hyl hyt;have hround:Ver.round m.aC (m.us.getD q default).u p rest (aN r z)=if(Ver.step m.aC (m.us.getD q default).u ((m.us.getD q default).u.code.getD (r.todo.getD 0 default).toNat default) (aN ⟨r.dI,r.todo.drop 1,ao,cap,y.hs,y.ho,y.hc⟩ ⟨y.st,y.so,y.sc,z.err⟩)).1=true then Ver.to (m.us.getD q default).u.code.length (p+1) (Ver.step m.aC (m.us.getD q default).u ((m.us.getD q default).u.code.getD (r.todo.getD 0 default).toNat default) (aN ⟨r.dI,r.todo.drop 1,ao,cap,y.hs,y.ho,y.hc⟩ ⟨y.st,y.so,y.sc,z.err⟩)).2 else(Ver.step m.aC (m.us.getD q default).u ((m.us.getD q default).u.code.getD (r.todo.getD 0 default).toNat default) (aN ⟨r.dI,r.todo.drop 1,ao,cap,y.hs,y.ho,y.hc⟩ ⟨y.st,y.so,y.sc,z.err⟩)).2:=by
   unfold Ver.round;rw[hx0,hfl,hgp];rfl
  have hmu1:(aN ⟨r.dI,r.todo.drop 1,ao,cap,y.hs,y.ho,y.hc⟩ ⟨y.st,y.so,y.sc,z.err⟩).todo.length+Ver.room (m.us.getD q default).u.code.length L (aN ⟨r.dI,r.todo.drop 1,ao,cap,y.hs,y.ho,y.hc⟩ ⟨y.st,y.so,y.sc,z.err⟩).at_≤j:=by
   rw[hfl];have:(aN r z).at_=({aN r z with todo:=rest,stack:=x.st,has:=x.hs}:Ver.aX).at_:=rfl;rw[this]at hmu;simp only at hmu⊢;omega
  have hdl:(r.todo.drop 1).length≤1000000000:=by rw[hdp];omega
  (refine Jc ?_;refine aA.aZ (spec:=aGX fb cb ab mb m ⟨r.dI,r.todo.drop 1,ao,cap,y.hs,y.ho,y.hc⟩ ⟨y.st,y.so,y.sc,z.err⟩ q hq hf (by rw[hL];exact hinv1) hyl hyt hdl _ hin) (t:=Jx) (k:=?_);intro s hs;(refine Jn ?_));obtain⟨G,hG⟩:∃G,G=Ver.step m.aC (m.us.getD q default).u ((m.us.getD q default).u.code.getD (r.todo.getD 0 default).toNat default) (aN ⟨r.dI,r.todo.drop 1,ao,cap,y.hs,y.ho,y.hc⟩ ⟨y.st,y.so,y.sc,z.err⟩):=⟨_,rfl⟩;rw[←hG]at hs hround hgone;obtain⟨b1,g⟩:=G;simp only at hs hround hgone;apply aE.look (d:=88) (v':= .bool b1) (by exact rfl) (by rw[←hG]);clear hG;have hsl:s.2.st.length≤301:=by
   have:s.2.st=g.stack:=congrArg Ver.aX.stack hs;rw[this];exact hgone.len
  have hsi:Ver.Inv (m.us.getD q default).u.code.length L (aN s.1 s.2):=by rw[hs];exact hgone.inv
  have hsm:s.1.todo.length+Ver.room (m.us.getD q default).u.code.length L (aN s.1 s.2).at_≤j:=by
   have:=hgone.mu;rw[←hs]at this;exact dO this hmu1
  cases b1 with
  |true=>
   rw[if_pos rfl]at hround;have hsh:=hsi.has;have hw2:=Ver.zV hsi (p:=p+1) (by omega) (by omega) (by rw[hs];exact hgone.ok) (by rw[hs];exact hgone.ty);rw[←hs]at hround
   repeat(refine Jy ?_)
   obtain⟨s1,rfl⟩:∃s1,s1=s:=⟨_,rfl⟩;have hent1:∀x,bC s1.1.dI (r.todo.getD 0 default+1)=some x→x.st.length≤1000∧x.hs.length=s1.1.has.length:=fun x hx=>by
    obtain⟨q1,q2,q3⟩:=P9 hsi _ x hx;exact⟨by omega,by rw[q3];exact hsh.symm⟩
   have hsh1:s1.1.has.length≤1000:=by rw[show s1.1.has.length=L from hsh];omega
   have hs1:=hs;clear hs;(refine JH (GD fb cb ab m q hq s1.1 s1.2 (r.todo.getD 0 default+1) (by omega) hsh1 (by omega) hent1) ?_;intro s hs;(refine Jn ?_));rw[hgp]at hs;have hfin:Ver.Inv (m.us.getD q default).u.code.length L (aN s.1 s.2)∧s.2.st.length≤301∧s.1.todo.length+Ver.room (m.us.getD q default).u.code.length L (aN s.1 s.2).at_≤j:=by
    have e1:s.2.st=(aN s1.1 s1.2).stack:=(congrArg Ver.aX.stack hs).trans hw2.stack;refine⟨by rw[hs];exact hw2.inv,by rw[e1];exact hsl,?_⟩;have:=hw2.mu;rw[←hs]at this;exact dO this hsm
   rw[←hs]at hround;clear hs;have hrd:=hround
   by_cases he2:s.2.err=0
   ·rw[if_neg (fun h=>h (show(Ver.round m.aC (m.us.getD q default).u p rest (aN r z)).err=0 by rw[hround];exact he2)),hround]at hrun
    repeat(refine Jy ?_)
    refine End.bK hKM (s.1,s.2,j) ?_ ?_
    ·exact⟨hfin.1,he2,hfin.2.1,hrun,by simp only;exact hfin.2.2,by simp only;omega⟩
    ·simp only;omega
   ·rw[if_pos (show(Ver.round m.aC (m.us.getD q default).u p rest (aN r z)).err≠0 by rw[hround];exact he2),hround]at hrun
    repeat(refine Jy ?_)
    (refine End.eK (()) (he:=by refine mO (hrun.trans ?_);rw[hgp];rfl) (hp:=?_));trivial
  |false=>
   rw[if_neg (by decide)]at hround;rw[←hs]at hround;have hfin:=And.intro hsi (And.intro hsl hsm)
   by_cases he2:s.2.err=0
   ·rw[if_neg (fun h=>h (show(Ver.round m.aC (m.us.getD q default).u p rest (aN r z)).err=0 by rw[hround];exact he2)),hround]at hrun
    repeat(refine Jy ?_)
    refine End.bK hKM (s.1,s.2,j) ?_ ?_
    ·exact⟨hfin.1,he2,hfin.2.1,hrun,by simp only;exact hfin.2.2,by simp only;omega⟩
    ·simp only;omega
   ·rw[if_pos (show(Ver.round m.aC (m.us.getD q default).u p rest (aN r z)).err≠0 by rw[hround];exact he2),hround]at hrun
    repeat(refine Jy ?_)
    (refine End.eK (()) (he:=by refine mO (hrun.trans ?_);rw[hgp];rfl) (hp:=?_));trivial
end Vw
namespace Ver
open ImgM
structure iH(N:Nat)(l:List Int):Prop where
 nodup:l.Nodup
 ok:∀x∈l,0≤x∧x<(N:Int)
theorem SY:∀(N:Nat) (l:List Int),iH N l→l.length≤N
 |0,l,h=>by
  cases l with
  |nil=>exact cG _
  |cons x r=>have:=h.ok x gU;omega
 |N+1,l,h=>by
  have h2:iH N (l.filter fun x=>decide (x≠(N:Int))):=⟨h.nodup.filter _,fun x hx=>by
   rw[lP]at hx;have:=h.ok x hx.1;have h3:x≠(N:Int):=by simpa using hx.2
   omega⟩
  have h3:=SY N _ h2;have h4:∀l:List Int,l.Nodup→l.length≤(l.filter fun x=>decide (x≠(N:Int))).length+1:=by
   intro l hl
   induction l with
   |nil=>simp
   |cons a r ih=>
    rw[xX]at hl;rw[pJ]
    by_cases ha:a=(N:Int)
    ·have:r.filter (fun x=>decide (x≠(N:Int)))=r:=List.filter_eq_self.2 (fun x hx=>by
      have:x≠(N:Int):=fun e=>hl.1 (by rw[ha,←e];exact hx)
      simpa using this)
     rw[if_neg (by simpa using ha),this];simp
    ·rw[if_pos (by simpa using ha)];have:=ih hl.2;simp only[JW];omega
  have:=h4 l h.nodup;omega
theorem iH.len{N:Nat}{l:List Int}(h:iH N l):l.length≤N:=SY N l h
theorem iH.snoc{N:Nat}{l:List Int}(h:iH N l){a:Int}(ha:a∉l)(h1:0≤a∧a<(N:Int)):iH N (l ++[a]):=by
 refine⟨?_,fun x hx=>?_⟩
 ·rw[rH];exact⟨h.nodup,by simp,fun x hx y hy=>by
   simp at hy;subst hy;exact fun e=>ha (e▸hx)⟩
 ·rcases dH.1 hx with hx|hx
  ·exact h.ok x hx
  ·simp at hx;subst hx;exact h1
theorem iH.one{N k:Nat}(h:k<N):iH N [(k:Int)]:=⟨by simp,fun x hx=>by simp at hx;subst hx;omega⟩
def x8(out:List Int)(i:aY):List Int:=if(i.op=23∨i.op=29)∧i.a∉out then out ++[i.a]else out
theorem DP(i:aY)(l:List aY)(out:List Int):calls (i::l) out=calls l (x8 out i):=rfl
theorem ZY(out:List Int):calls [] out=out:=rfl
theorem O5{N:Nat}{out:List Int}{i:aY}(h:iH N out)(hi:i.op=23∨i.op=29→0≤i.a∧i.a<(N:Int)):iH N (x8 out i):=by
 unfold x8
 split
 ·rename_i h1
  exact h.snoc h1.2 (hi h1.1)
 ·exact h
theorem HV{N:Nat}:∀(l:List aY) (out:List Int),iH N out→(∀i∈l,i.op=23∨i.op=29→0≤i.a∧i.a<(N:Int))→iH N (calls l out)
 |[],_,h,_=>h
 |i::l,out,h,hi=>by
  rw[DP];exact HV l _ (O5 h (hi i gU)) (fun j hj=>hi j (iO _ hj))
theorem UT{M:aG}{n k:Nat}{out:List Int}(h:k<out.length):n8 M (n+1) k out=n8 M n (k+1) (calls (M.aL.getD (out.getD k 0).toNat default).code out):=by
 conv=>lhs;unfold n8
 rw[if_pos h]
theorem US{M:aG}{n k:Nat}{out:List Int}(h:¬k<out.length):n8 M n k out=out:=by
 cases n with
 |zero=>rfl
 |succ n=>unfold n8;rw[if_neg h]
theorem MG{M:aG}{N:Nat}(hc:∀k,k<N→∀i∈(M.aL.getD k default).code,i.op=23∨i.op=29→0≤i.a∧i.a<(N:Int)):∀(n k:Nat) (out:List Int),iH N out→iH N (n8 M n k out)
 |0,_,_,h=>h
 |n+1,k,out,h=>by
  unfold n8
  split
  ·rename_i hk
   refine MG hc n (k+1) _ (HV _ _ h (hc _ ?_));have:=h.ok (out.getD k 0) (by rw[Jd,Je hk];exact fB _);omega
  ·exact h
theorem LS{M:aG}{b n:Nat}(h:1<jR M 26 b∨1<jR M 27 b):owned M b (n+1)=⟨8,0,b⟩:=by unfold owned;rw[if_pos h]
theorem LU{M:aG}{b n:Nat}(h:¬(1<jR M 26 b∨1<jR M 27 b)):owned M b (n+1)=owned M (b+1) n:=by
 conv=>lhs;unfold owned
 rw[if_neg h]
def xN(M:aG)(op b:Int)(k:Nat):Nat:=((List.range k).filter fun k=>decide ((M.aL.getD k default).kind=4)&&hY M op b k).length
theorem aHV(M:aG)(op b:Int)(k:Nat):xN M op b (k+1)=xN M op b k+if(decide ((M.aL.getD k default).kind=4)&&hY M op b k)=true then 1 else 0:=by
 unfold xN;rw[oJ,oH,Jl];congr 1;rw[pJ]
 split<;>rfl
theorem aHU(M:aG)(op b:Int)(k:Nat):xN M op b k≤k:=by
 unfold xN;exact dO (pG _ _) (by simp)
end Ver
namespace Vw
open Go.RowKit Img
section
attribute [local irreducible] aE aB End aA Still aM aP RunT Fn aO
theorem sJ.calls{m:ML}(hf:sJ m):∀k,k<m.us.length→∀i∈(m.aC.aL.getD k default).code,i.op=23∨i.op=29→0≤i.a∧i.a<(m.us.length:Int):=by
 intro k hk i hi ho;rw[ML.jI]at hi;have h:=Ver.yN (hf.gP k hk i hi);have hn:m.aC.aL.length=m.us.length:=by simp
 rcases ho with ho|ho
 ·obtain⟨h1,h2, -⟩:=Ver.unit_eq (h.call ho);rw[hn]at h2;exact⟨h1,h2⟩
 ·obtain⟨h1,h2, -⟩:=Ver.unit_eq (h.start ho);rw[hn]at h2;exact⟨h1,h2⟩
theorem aEd(cb mb:Nat)(m:ML)(hf:sJ m)(q:Nat)(hq:q<m.us.length):Fn Tryz.prog 78 #[ptr cb, .int .i64 (q:Int)] [md m] (ck cb mb m) (σ:=Option Addr×Nat) (fun _=>True) (fun s=> .slice s.1 (Ver.reach m.aC q).length s.2) (fun s=>arr s.1 (Ver.reach m.aC q).length s.2 3 aT (Ver.reach m.aC q)::ck cb mb m):=by
 have hN:=hf.aL;obtain⟨R,hR⟩:∃R,R=Ver.reach m.aC q:=⟨_,rfl⟩;rw[←hR];have hR0:R=Ver.n8 m.aC (m.us.length+1) 0 [(q:Int)]:=by rw[hR];unfold Ver.reach;simp
 clear hR;refine JE [ptr cb, .int .i64 (q:Int)] Tryz.func78 Tryz.ntmps78 fun w S=>?_
 (refine Jn ?_)
 repeat(refine Jy ?_;try intro b)
 apply aB.imp (fun w hm=>hm.mJ (f:=aT) tk [(q:Int)] rfl rfl (by unfold maxLen;simp));apply aB.loop (σ:=Nat×List Int×Option Addr×Nat×Nat) (fun s=>Ver.iH m.us.length s.2.1∧s.1≤s.2.1.length∧s.2.1.length=s.2.2.2.2∧R=Ver.n8 m.aC (m.us.length+1-s.1) s.1 s.2.1) (fun s=>[(0,ptr cb),(5, .slice s.2.2.1 s.2.2.2.2 s.2.2.2.1),(6, .int .i64 (s.1:Int))]) (fun s=>aI w S::md m::arr s.2.2.1 s.2.2.2.2 s.2.2.2.1 3 aT s.2.1::ck cb mb m) (fun s=>m.us.length+1-s.1) (0,[(q:Int)],some ⟨b,0,none⟩,1,1)
 rotate_left
 exact sb;exact aK;intro s hs K hK;(refine Jn ?_)
 rotate_left
 ·exact⟨Ver.iH.one hq,by simp,rfl,hR0⟩
 clear hR0;obtain⟨k,out,ao,cap,n⟩:=s;obtain⟨ho,hk,hn,hRk⟩:=hs;simp only at ho hk hn hRk hK⊢;have hol:=ho.len
 by_cases hkn:k<n
 ·have hx:=ho.ok (out.getD k default) (dQ (by omega));have hxl:(out.getD k default).toNat<m.us.length:=by omega
  have hrs:=Ver.UT (M:=m.aC) (n:=m.us.length-k) (k:=k) (out:=out) (by omega);rw[show m.us.length+1-k=(m.us.length-k)+1 by omega,hrs,show out.getD k 0=out.getD k default from rfl,ML.jI]at hRk;have hcx:=hf.calls _ hxl;rw[ML.jI]at hcx;apply aB.fact m.Small (fun w hm=>(nW.1 (hm.has tk)).small);intro hsm;have hcl:=hsm.co _ hxl;clear hrs
  repeat(refine Jy ?_)
  apply aB.loop (σ:=Nat×List Int×Option Addr×Nat×Nat) (fun s=>s.1≤(m.us.getD (out.getD k default).toNat default).u.code.length∧Ver.iH m.us.length s.2.1∧s.2.1.length=s.2.2.2.2∧out.length≤s.2.1.length∧Ver.calls (m.us.getD (out.getD k default).toNat default).u.code out=Ver.calls ((m.us.getD (out.getD k default).toNat default).u.code.drop s.1) s.2.1) (fun s=>[(0,ptr cb),(5, .slice s.2.2.1 s.2.2.2.2 s.2.2.2.1),(6, .int .i64 (k:Int)),(30, .slice (m.us.getD (out.getD k default).toNat default).co (m.us.getD (out.getD k default).toNat default).u.code.length (m.us.getD (out.getD k default).toNat default).cc),(31, .int .i64 ((m.us.getD (out.getD k default).toNat default).u.code.length:Int)),(32, .int .i64 (s.1:Int))]) (fun s=>aI w S::md m::arr s.2.2.1 s.2.2.2.2 s.2.2.2.1 3 aT s.2.1::ck cb mb m) (fun s=>(m.us.getD (out.getD k default).toNat default).u.code.length-s.1) (0,out,ao,cap,n)
  rotate_left
  exact sb;exact aK;intro s hs KI hKI;(refine Jn ?_)
  rotate_left
  ·exact⟨bP _,ho,hn,cG _,rfl⟩
  obtain⟨j,o,ao1,cap1,n1⟩:=s;obtain⟨hj,ho1,hn1,hle1,hcj⟩:=hs;simp only at hj ho1 hn1 hle1 hcj hKI⊢;have hol1:=ho1.len
  by_cases hjl:j<(m.us.getD (out.getD k default).toNat default).u.code.length
  ·rw[drop_cons hjl,Ver.DP]at hcj;have hia:=hcx _ (dQ hjl);have h1once:=Ver.O5 ho1 hia;unfold Ver.x8 at hcj h1once
   repeat' (first|(refine Jc ?_;refine aA.aZ (spec:=aAJ _ _ _ _ hn1 (by omega) _) (k:=?_);intro s hs;(refine Jn ?_))|refine Jo ?_|(refine JB ?_;intro b)|(refine JA ?_;intro ao cap)|refine gG (k:=fun h=>?_) (k':=fun h=>?_)|fail)
   all_goals first
    |(refine End.bK hKI (j+1,o ++[((m.us.getD (out.getD k default).toNat default).u.code.getD j default).a],ao,cap,n1+1) ?_ (by simp only;omega);rw[if_pos ⟨by omega,by assumption⟩]at hcj h1once;exact⟨by simp only;omega,h1once,by simp only[Jl,JW,oI];omega,by simp only[Jl,JW,oI];omega,hcj⟩)
    |(refine End.bK hKI (j+1,o,ao1,cap1,n1) ?_ (by simp only;omega);rw[if_neg (fun h'=>by first|exact h'.2 (by assumption)|(have:=h'.1;omega))]at hcj h1once;exact⟨by simp only;omega,h1once,hn1,hle1,hcj⟩)
  ·rw[lD (by omega),Ver.ZY]at hcj;rw[hcj]at hRk
   repeat(refine Jy ?_)
   refine End.bK hK (k+1,o,ao1,cap1,n1) ?_ ?_
   ·exact⟨ho1,by simp only;omega,hn1,by simp only;rw[hRk];congr 1;omega⟩
   ·simp only;omega
 ·rw[Ver.US (by omega)]at hRk;subst hRk;subst hn
  repeat(refine Jy ?_)
  (refine End.aH ((ao,cap)) (he:=Jv) (hp:=?_));trivial
abbrev BM(b:Nat)(v:Int):Chunk:=aD b [.int .i64 v] 3
abbrev oc(pc ob bb cb mb:Nat)(op bx:Int)(m:ML):List Chunk:=aD pc [ptr cb] 126::BM ob op::BM bb bx::ck cb mb m
theorem aDj(pc ob bb cb mb:Nat)(op bx:Int)(m:ML)(i:ImgM.aY):Fn Tryz.prog 81 #[kR i,ptr ob,ptr bb] [md m] (oc pc ob bb cb mb op bx m) (σ:=Unit) (fun _=>True) (fun _=> .bool (decide (i.op=op)&&decide (i.a=bx))) (fun _=>oc pc ob bb cb mb op bx m):=by
 refine JE [kR i,ptr ob,ptr bb] Tryz.func81 Tryz.ntmps81 fun w S=>?_
 (refine Jn ?_)
 repeat' (first|refine Jo ?_|(refine JB ?_;intro b)|(refine JA ?_;intro ao cap)|refine gG (k:=fun h=>?_) (k':=fun h=>?_)|fail)
 all_goals ((refine End.aH (()) (he:=by refine iP ?_;(first|(simp[*];done)|(simp[];omega)|(rw[rI];simp[];omega)|(simp[*];intros;omega))) (hp:=?_));trivial)
theorem aDk(pc ob bb cb mb:Nat)(op bx:Int)(m:ML)(x:Nat)(hx:x<m.us.length)(hsm:m.Small):Fn Tryz.prog 79 #[.int .i64 (x:Int),ptr pc,ptr ob,ptr bb] [md m] (oc pc ob bb cb mb op bx m) (σ:=Unit) (fun _=>True) (fun _=> .bool ((m.us.getD x default).u.code.any fun i=>decide (i.op=op)&&decide (i.a=bx))) (fun _=>oc pc ob bb cb mb op bx m):=by
 refine JE [.int .i64 (x:Int),ptr pc,ptr ob,ptr bb] Tryz.func79 Tryz.ntmps79 fun w S=>?_
 (refine Jn ?_)
 repeat(refine Jy ?_)
 (apply aE.op;exact rfl;refine aA.aZ (spec:=aAI _ _ _ _ rfl (hsm.co x hx) _ [ptr ob,ptr bb] (md m) m9 (oc pc ob bb cb mb op bx m) (by simp[kG]) (fun i=>decide (i.op=op)&&decide (i.a=bx)) (by kernel_rfl) (fun i hi=>aDj pc ob bb cb mb op bx m i)) (k:=?_);intro s hs;(refine Jn ?_))
 repeat(refine Jy ?_)
 (refine End.aH (()) (he:=by rfl) (hp:=?_));trivial
set_option maxHeartbeats 1000000 in
theorem aDl(cb mb:Nat)(m:ML)(hf:sJ m):Fn Tryz.prog 47 #[ptr cb] [md m] (ck cb mb m) (σ:=Unit) (fun _=>True) (fun _=>CX (Ver.owned m.aC 0 m.bx.length)) (fun _=>ck cb mb m):=by
 have hN:=hf.aL;have hB:=hf.boxes;obtain⟨W,hW⟩:∃W,W=Ver.owned m.aC 0 m.bx.length:=⟨_,rfl⟩;rw[←hW];have hnu:m.aC.aL.length=m.us.length:=by simp
 refine JE [ptr cb] Tryz.func47 Tryz.ntmps47 fun w S=>?_
 (refine Jn ?_);apply aB.fact m.Small (fun w hm=>(nW.1 (hm.has tk)).small);intro hsm
 repeat(refine Jy ?_;try intro b)
 obtain⟨wb,rfl⟩:∃x,x=b:=⟨_,rfl⟩;obtain⟨pc,rfl⟩:∃x,x=b:=⟨_,rfl⟩;apply aB.loop (σ:=Nat) (fun k=>k≤m.bx.length∧W=Ver.owned m.aC k (m.bx.length-k)) (fun k=>[(0,ptr cb),(1,ptr pc),(2,ptr wb),(16, .int .i64 (m.bx.length:Int)),(17, .int .i64 (k:Int))]) (fun _=>aI w S::md m::aD wb [.int .i64 0, .int .i64 0, .int .i64 0] 51::aD pc [ptr cb] 126::ck cb mb m) (fun k=>m.bx.length-k) 0
 rotate_left
 exact sb;exact aK;intro bx hs K1 hK1;(refine Jn ?_)
 rotate_left
 ·exact⟨bP _,hW⟩
 obtain⟨hb,hWb⟩:=hs
 by_cases hbl:bx<m.bx.length
 ·rw[show m.bx.length-bx=(m.bx.length-(bx+1))+1 by omega]at hWb
  repeat(refine Jy ?_;try intro b)
  obtain⟨sl,rfl⟩:∃x,x=b:=⟨_,rfl⟩;obtain⟨bb,rfl⟩:∃x,x=b:=⟨_,rfl⟩;apply aB.imp (fun w hm=>hm.mJ (f:=aT) (n:=2) tk [26,27] rfl rfl (by unfold maxLen;omega));apply aB.loop (σ:=Nat) (fun j=>j≤2∧(0<j→¬1<Ver.jR m.aC 26 bx)∧(1<j→¬1<Ver.jR m.aC 27 bx)) (fun j=>[(0,ptr cb),(1,ptr pc),(2,ptr wb),(3,ptr bb),(16, .int .i64 (m.bx.length:Int)),(17, .int .i64 (bx:Int)),(20, .slice (some ⟨sl,0,none⟩) 2 2),(21, .int .i64 ((2:Nat):Int)),(22, .int .i64 (j:Int))]) (fun _=>aI w S::md m::aD wb [.int .i64 0, .int .i64 0, .int .i64 0] 51::aD pc [ptr cb] 126::arr (some ⟨sl,0,none⟩) 2 2 3 aT [26,27]::BM bb bx::ck cb mb m) (fun j=>2-j) 0
  rotate_left
  exact sb;exact aK;intro j hs K2 hK2;(refine Jn ?_)
  rotate_left
  ·exact⟨by omega,by omega,by omega⟩
  obtain⟨hj,hj0,hj1⟩:=hs
  by_cases hj2:j<2
  ·have hop:([26,27]:List Int).getD j default=26∧j=0∨([26,27]:List Int).getD j default=27∧j=1:=by
    rcases(by omega:j=0∨j=1)with rfl|rfl
    ·exact .inl ⟨rfl,rfl⟩
    ·exact .inr ⟨rfl,rfl⟩
   repeat(refine Jy ?_;try intro b)
   obtain⟨ob,rfl⟩:∃x,x=b:=⟨_,rfl⟩;generalize([26,27]:List Int).getD j default=op at *;apply aB.loop (σ:=Nat×Nat) (fun s=>s.1≤m.us.length∧s.2=Ver.xN m.aC op bx s.1) (fun s=>[(0,ptr cb),(1,ptr pc),(2,ptr wb),(3,ptr bb),(5,ptr ob),(6, .int .i64 (s.2:Int)),(16, .int .i64 (m.bx.length:Int)),(17, .int .i64 (bx:Int)),(20, .slice (some ⟨sl,0,none⟩) 2 2),(21, .int .i64 ((2:Nat):Int)),(22, .int .i64 (j:Int)),(32, .slice m.uo m.us.length m.uc),(33, .int .i64 (m.us.length:Int)),(34, .int .i64 (s.1:Int))]) (fun _=>aI w S::md m::aD wb [.int .i64 0, .int .i64 0, .int .i64 0] 51::aD pc [ptr cb] 126::arr (some ⟨sl,0,none⟩) 2 2 3 aT [26,27]::BM bb bx::BM ob op::ck cb mb m) (fun s=>m.us.length-s.1) (0,0)
   rotate_left
   exact sb;exact aK;intro s hs K3 hK3;(refine Jn ?_)
   rotate_left
   ·exact⟨bP _,rfl⟩
   obtain⟨k,n⟩:=s;obtain⟨hk,hn⟩:=hs;simp only at hk hn hK3⊢;have hnk:=Ver.aHU m.aC op bx k
   by_cases hkl:k<m.us.length
   ·have hro:Ver.iH m.us.length (Ver.reach m.aC k):=Ver.MG hf.calls _ _ _ (Ver.iH.one hkl);have hrl:=hro.len;have hfn:∀x∈Ver.reach m.aC k,Fn Tryz.prog 79 (#[.int .i64 x] ++[ptr pc,ptr ob,ptr bb].toArray) [md m] (oc pc ob bb cb mb op bx m) (σ:=Unit) (fun _=>True) (fun _=> .bool ((m.us.getD x.toNat default).u.code.any fun i=>decide (i.op=op)&&decide (i.a=bx))) (fun _=>oc pc ob bb cb mb op bx m):=fun x hx=>by
     obtain⟨h1,h2⟩:=hro.ok x hx;obtain⟨y,rfl⟩:=JI h1;exact aDk pc ob bb cb mb op bx m y (by omega) hsm
    have hus:Ver.hY m.aC op bx k=(Ver.reach m.aC k).any fun x=>(m.us.getD x.toNat default).u.code.any fun i=>decide (i.op=op)&&decide (i.a=bx):=by
     unfold Ver.hY;simp only[wT]
    have hsu:=Ver.aHV m.aC op bx k;rw[ML.jI,hus]at hsu
    repeat' (first|(refine JQ (aEd cb mb m hf k hkl) ?_;intro s hs;(refine Jn ?_))|(refine Jc ?_;refine aA.aZ (spec:=PL _ _ _ (Ver.reach m.aC k) rfl (by omega) _ [ptr pc,ptr ob,ptr bb] (md m) m9 (oc pc ob bb cb mb op bx m) (by simp[kG]) (fun x=>(m.us.getD x.toNat default).u.code.any fun i=>decide (i.op=op)&&decide (i.a=bx)) (by kernel_rfl) hfn) (k:=?_);intro s hs;(refine Jn ?_))|refine Jo ?_|(refine JB ?_;intro b)|(refine JA ?_;intro ao cap)|refine gG (k:=fun h=>?_) (k':=fun h=>?_)|fail)
    ·rw[if_pos (by rw[JX,JV];exact⟨by assumption,h⟩)]at hsu;refine End.bK hK3 (k+1,n+1) ?_ ?_
     ·exact⟨by simp only;omega,by simp only;omega⟩
     ·simp only;omega
    ·rw[if_neg (by rw[JX];intro h';rw[h'.2]at h;cases h)]at hsu;refine End.bK hK3 (k+1,n) ?_ ?_
     ·exact⟨by simp only;omega,by simp only;omega⟩
     ·simp only;omega
    ·rw[if_neg (by rw[JX,JV];intro h';exact h h'.1)]at hsu;refine End.bK hK3 (k+1,n) ?_ ?_
     ·exact⟨by simp only;omega,by simp only;omega⟩
     ·simp only;omega
   ·have hkN:k=m.us.length:=by omega
    subst hkN;have hnu2:n=Ver.jR m.aC op bx:=by
     rw[hn];unfold Ver.jR Ver.xN;rw[hnu]
    repeat' (first|refine Jo ?_|(refine JB ?_;intro b)|(refine JA ?_;intro ao cap)|refine gG (k:=fun h=>?_) (k':=fun h=>?_)|fail)
    ·have hWx:W=⟨8,0,bx⟩:=by
      rw[hWb];refine Ver.LS ?_;rcases hop with⟨rfl, -⟩|⟨rfl, -⟩
      ·exact .inl (by omega)
      ·exact .inr (by omega)
     (refine End.eK (()) (he:=by exact mO hWx) (hp:=?_));trivial
    ·refine End.bK hK2 (j+1) ?_ ?_
     ·rcases hop with⟨rfl,rfl⟩|⟨rfl,rfl⟩
      ·exact⟨by omega,fun _=>by omega,fun h=>by omega⟩
      ·exact⟨by omega,fun _=>hj0 (by omega),fun _=>by omega⟩
     ·omega
  ·have hj2':j=2:=by omega
   rw[Ver.LU (fun h=>h.elim (hj0 (by omega)) (hj1 (by omega)))]at hWb
   repeat(refine Jy ?_)
   refine End.bK hK1 (bx+1) ?_ ?_
   ·exact⟨by omega,hWb⟩
   ·omega
 ·rw[show m.bx.length-bx=0 by omega]at hWb
  repeat(refine Jy ?_)
  (refine End.eK (()) (he:=by exact mO hWb) (hp:=?_));trivial
end
end Vw
namespace Ver
open ImgM
theorem HO:∀(l:List (Int×Int)) (i:Nat),(boxes i l).err=0↔∀b∈l,plain b.1=true∧1≤b.2∧b.2≤20
 |[],i=>by simp[boxes,kF.ok]
 |b::r,i=>by
  by_cases h1:plain b.1=false
  ·rw[OZ h1];simp[h1]
  ·have h1':plain b.1=true:=by simpa using h1
   by_cases h2:b.2<1∨20<b.2
   ·rw[HN h1' h2];simp only[AT];constructor
    ·intro h;simp at h
    ·rintro⟨⟨-,h3,h4⟩, -⟩;omega
   ·rw[O0 h1' h2,HO r (i+1)];simp only[AT,h1',true_and];constructor
    ·intro h;exact⟨by omega,h⟩
    ·rintro⟨-,h⟩;exact h
theorem RP{M:aG}{u:bS}{k:Nat}:∀(l:List aY) (j:Nat),(pU M u k j l).err=0↔∀i∈l,gP M u i=0
 |[],j=>by simp[pU,kF.ok]
 |i::r,j=>by
  by_cases h:gP M u i=0
  ·rw[RO h,RP r (j+1)];simp[h]
  ·rw[RN h];simp[h]
theorem W9{M:aG}{k:Nat}{u:bS}:(unit M k u).err=0↔head M u=0∧∀i∈u.code,gP M u i=0:=by
 by_cases h:head M u=0
 ·rw[W7 h,RP];simp[h]
 ·rw[W6 h];simp[h]
theorem NT{M:aG}:∀(l:List bS) (k:Nat),(aL M k l).err=0↔∀u∈l,head M u=0∧∀i∈u.code,gP M u i=0
 |[],k=>by simp[aL,kF.ok]
 |u::r,k=>by
  by_cases h:(unit M k u).err=0
  ·rw[NS h,NT r (k+1)];have:=W9.1 h;simp only[AT];exact⟨fun h=>⟨this,h⟩,fun h=>h.2⟩
  ·rw[NR h];simp only[AT];exact⟨fun h'=>absurd h' h,fun h'=>absurd (W9.2 h'.1) h⟩
structure AN(M:aG):Prop where
 SO:M.boxes.length≤30
 S3:M.aL.length≤30
 boxes:∀b∈M.boxes,plain b.1=true∧1≤b.2∧b.2≤20
 aL:∀u∈M.aL,head M u=0∧∀i∈u.code,gP M u i=0
 task:∃u∈M.aL,u.kind=4
theorem IW{M:aG}:(form M).err=0↔AN M:=by
 by_cases h:30<M.boxes.length∨30<M.aL.length
 ·rw[QW h];constructor
  ·intro h;simp at h
  ·intro h';have:=h'.SO;have:=h'.S3;omega
 by_cases hb:¬(Ver.boxes 0 M.boxes).err=0
 ·rw[D3 h rfl hb];exact⟨fun h'=>absurd h' hb,fun h'=>absurd ((HO _ _).2 h'.boxes) hb⟩
 have hb:(Ver.boxes 0 M.boxes).err=0:=vW.1 hb
 by_cases hu:¬(Ver.aL M 0 M.aL).err=0
 ·rw[IV h hb rfl hu];exact⟨fun h'=>absurd h' hu,fun h'=>absurd ((NT _ _).2 h'.aL) hu⟩
 have hu:(Ver.aL M 0 M.aL).err=0:=vW.1 hu
 by_cases ht:(M.aL.filter (fun u=>decide (u.kind=4))).length=0
 ·rw[QX h hb hu ht];constructor
  ·intro h;simp at h
  ·rintro⟨-, -, -, -,u,h1,h2⟩;have:u∈M.aL.filter (fun u=>decide (u.kind=4)):=lP.2 ⟨h1,by simpa using h2⟩;rw[pE ht]at this
   cases this
 ·rw[QY h hb hu ht];refine⟨fun _=>⟨by omega,by omega,(HO _ _).1 hb,(NT _ _).1 hu,?_⟩,fun _=>rfl⟩
  cases hf:M.aL.filter (fun u=>decide (u.kind=4))with
  |nil=>rw[hf]at ht;exact absurd rfl ht
  |cons u r=>
   have:u∈M.aL.filter (fun u=>decide (u.kind=4)):=by rw[hf];exact gU
   rw[lP]at this;exact⟨u,this.1,by simpa using this.2⟩
theorem PH{M:aG}{k n:Nat}(h:¬(code M k).err=0):lS M k (n+1)=code M k:=by unfold lS;rw[if_pos h]
theorem PJ{M:aG}{k n:Nat}(h:(code M k).err=0):lS M k (n+1)=lS M (k+1) n:=by
 conv=>lhs;unfold lS
 rw[if_neg (fun h'=>h' h)]
theorem H0{M:aG}:∀(n k:Nat),(lS M k n).err=0↔∀j,k≤j→j<k+n→(code M j).err=0
 |0,k=>by
  unfold lS;exact⟨fun _ j h1 h2=>by omega,fun _=>rfl⟩
 |n+1,k=>by
  by_cases h:(code M k).err=0
  ·rw[PJ h,H0 n (k+1)];constructor
   ·intro h' j h1 h2
    by_cases hj:j=k
    ·subst hj;exact h
    ·exact h' j (by omega) (by omega)
   ·intro h' j h1 h2;exact h' j (by omega) (by omega)
  ·rw[PH h];exact⟨fun h'=>absurd h' h,fun h'=>absurd (h' k (cG _) (by omega)) h⟩
theorem NU{M:aG}(h:¬(form M).err=0):verify M=form M:=by unfold verify;rw[if_pos h]
theorem NV{M:aG}(h:(form M).err=0)(h2:¬(lS M 0 M.aL.length).err=0):verify M=lS M 0 M.aL.length:=by
 unfold verify;rw[if_neg (fun h'=>h' h),if_pos h2]
theorem NW{M:aG}(h:(form M).err=0)(h2:(lS M 0 M.aL.length).err=0):verify M=owned M 0 M.boxes.length:=by
 unfold verify;rw[if_neg (fun h'=>h' h),if_neg (fun h'=>h' h2)]
end Ver
namespace Vw
open Go.RowKit Img
section
attribute [local irreducible] aE aB End aA Still aM aP RunT Fn aO
theorem formed{m:ML}(h:Ver.AN m.aC):sJ m:=by
 have hu:∀k,k<m.us.length→(m.us.getD k default).u∈m.aC.aL:=fun k hk=>fD.2 ⟨_,ML.nI hk,rfl⟩
 exact⟨h.SO,by simpa using h.S3,fun k hk=>(h.aL _ (hu k hk)).1,fun k hk=>(h.aL _ (hu k hk)).2⟩
theorem aB.only{P:Program}{Q:Exit→Act→World→Prop}{N:Nd}{E:Env}{c:Code}{L F:List Chunk}(cs:List Chunk)(t:aQ cs L F)(h:aB P Q N c E cs):aB P Q N c E L:=
 aB.imp (fun w hm=>(hm.aS t).left) h
theorem XH(m:ML)(hwf:m.Wf):Fn Tryz.prog 18 #[m.val] [md m] [] (σ:=Unit) (fun _=>True) (fun _=>CX (Ver.verify m.aC)) (fun _=>[]):=by
 obtain⟨W,hW⟩:∃W,W=Ver.verify m.aC:=⟨_,rfl⟩;rw[←hW];have hnu:m.aC.aL.length=m.us.length:=by simp
 refine JE [m.val] Tryz.func18 Tryz.ntmps18 fun w S=>?_
 (refine Jn ?_);apply aB.fact m.Small (fun w hm=>(nW.1 (hm.has tk)).small);intro hsm;have hs2:=hsm.us
 repeat(refine Jy ?_;try intro b)
 obtain⟨cb,rfl⟩:∃x,x=b:=⟨_,rfl⟩;obtain⟨wb,rfl⟩:∃x,x=b:=⟨_,rfl⟩;obtain⟨mb,rfl⟩:∃x,x=b:=⟨_,rfl⟩;(refine JQ (aBT cb mb m hwf) ?_;intro s hs;(refine Jn ?_))
 by_cases hf:(Ver.form m.aC).err=0
 ·have hF:=formed (Ver.IW.1 hf)
  repeat(refine Jy ?_;try intro b)
  refine aB.only ((fun _=>aI w S::md m::aD wb [.int .i64 0, .int .i64 0, .int .i64 0] 51::ck cb mb m) 0) (aK) ?_;apply aB.loop (σ:=Nat) (fun k=>k≤m.us.length∧Ver.lS m.aC 0 m.aC.aL.length=Ver.lS m.aC k (m.us.length-k)) (fun k=>[(1,ptr mb),(2,ptr wb),(3,ptr cb),(17, .int .i64 (m.us.length:Int)),(18, .int .i64 (k:Int))]) (fun _=>aI w S::md m::aD wb [.int .i64 0, .int .i64 0, .int .i64 0] 51::ck cb mb m) (fun k=>m.us.length-k) 0
  rotate_left
  exact sb;exact aK;intro k hs K1 hK1;(refine Jn ?_)
  rotate_left
  ·exact⟨bP _,by simp⟩
  obtain⟨hk,hc⟩:=hs
  by_cases hkl:k<m.us.length
  ·rw[show m.us.length-k=(m.us.length-(k+1))+1 by omega]at hc
   repeat(refine Jy ?_)
   (refine JQ (aAG cb mb m k hkl hF hwf) ?_;intro s hs;(refine Jn ?_))
   by_cases he:(Ver.code m.aC k).err=0
   ·rw[Ver.PJ he]at hc
    repeat(refine Jy ?_;try intro b)
    refine End.bK hK1 (k+1) ?_ ?_
    ·exact⟨by omega,hc⟩
    ·omega
   ·rw[Ver.PH he]at hc;have hWx:W=Ver.code m.aC k:=by
     rw[hW,Ver.NV hf (by rw[hc];exact he),hc]
    repeat(refine Jy ?_;try intro b)
    (refine End.eK (()) (he:=by exact mO hWx) (hp:=?_));trivial
  ·have hWx:W=Ver.owned m.aC 0 m.bx.length:=by
    rw[hW,Ver.NW hf (by rw[hc,show m.us.length-k=0 by omega];rfl)]
   repeat(refine Jy ?_)
   (refine JQ (aDl cb mb m hF) ?_;intro s hs;(refine Jn ?_))
   repeat(refine Jy ?_)
   (refine End.eK (()) (he:=by exact mO hWx) (hp:=?_));trivial
 ·have hWx:W=Ver.form m.aC:=by rw[hW,Ver.NU hf]
  repeat(refine Jy ?_;try intro b)
  (refine End.eK (()) (he:=by exact mO hWx) (hp:=?_));trivial
end
end Vw
namespace Fr
abbrev aF:=List UInt8
def letter(c:UInt8):Bool:=(decide (97≤c.toNat)&&decide (c.toNat≤122))||decide (c.toNat=95)
def digit(c:UInt8):Bool:=decide (48≤c.toNat)&&decide (c.toNat≤57)
def word(c:UInt8):Bool:=letter c||digit c
def eO(ok:UInt8→Bool)(s:aF):Nat:=(s.takeWhile ok).length
def CY:aF:=[32,98,111,120,32,102,110,32,103,101,110,32,116,97,115,107,32,116,97,107,101,115,32,121,105,101,108,100,115,32,108,101,116,32,105,102,32,101,108,115,101,32,119,104,105,108,101,32,114,101,116,117,114,110,32,115,116,111,112,32,115,101,110,100,32,111,117,116,32,100,111,32,114,101,99,118,32,121,105,101,108,100,32,115,116,97,114,116,32,114,101,115,117,109,101,32,97,108,105,118,101,32,110,117,109,32,98,111,111,108,32,116,114,117,101,32,102,97,108,115,101,32,97,110,100,32,111,114,32,110,111,116,32]
def named(s:aF):Bool:=decide (1≤s.length)&&decide (s.length≤12)&&letter (s.headD 0)&& !Go.Lib.contains CY ([32] ++s ++[32])&&decide (eO word s=s.length)
def rZ:List aF:=[[61,61],[33,61],[60,61],[62,61],[60],[62],[61],[43],[45],[42],[47],[37],[40],[41],[123],[125],[44],[59]]
def sign(s:aF):aF:=(rZ.find? fun x=>x.isPrefixOf s).getD []
def space:Nat→aF→Nat
 |0,_=>0
 |_,[]=>0
 |n+1,c::r=>if c.toNat=32∨c.toNat=9∨c.toNat=10 then space n r+1 else if c.toNat=35 then(let k:=eO (fun c=>!decide (c.toNat=10)) (c::r);space n ((c::r).drop k)+k)else 0
structure Tok where
 kind:Int
 text:aF
 num:Int
 at_:Nat
 deriving DecidableEq
instance:Inhabited Tok:=⟨⟨0,[],0,0⟩⟩
def numOf(s:aF):Int:=s.foldl (fun n c=>n*10+((c.toNat:Int)-48)) 0
def o8(at_:Nat)(s:aF):Option Tok:=
 let c:=s.headD 0
 if letter c=true then some ⟨1,s.take (eO word s),0,at_⟩
 else if digit c=true then(if 15<eO digit s then none else some ⟨2,s.take (eO digit s),numOf (s.take (eO digit s)),at_⟩)
 else if sign s=[]then none else some ⟨3,sign s,0,at_⟩
def vH:Nat→Nat→aF→Option (List Tok)
 |0,_,_=>some []
 |n+1,at_,s=>
  let k:=space s.length s
  if s.length≤k then some []
  else match o8 (at_+k) (s.drop k)with
   |none=>none
   |some t=>(vH n (at_+k+t.text.length) (s.drop (k+t.text.length))).map (t::·)
def tokens(s:aF):Option (List Tok):=if 6000<s.length then none else vH (s.length+1) 0 s
end Fr
namespace Vw
open Go.RowKit Img
section
attribute [local irreducible] aE aB End aA Still aM aP RunT Fn aO
section
abbrev AA(c:UInt8):Value:= .int .u8 (c.toNat:Int)
abbrev xQ(f:FuncId)(ok:UInt8→Bool):Prop:=∀c:UInt8,Fn Tryz.prog f #[AA c] [] [] (σ:=Unit) (fun _=>True) (fun _=> .bool (ok c)) (fun _=>[])
theorem EI:xQ 83 Fr.letter:=fun c=>by
 refine JE [AA c] Tryz.func83 Tryz.ntmps83 fun w S=>?_;refine Jn ?_
 repeat' (first|(refine Fy ?_)|refine gG (k:=fun h=>?_) (k':=fun h=>?_)|fail)
 all_goals refine End.aH () (he:=by refine iP ?_;(first|(simp[Fr.letter, *];done)|(simp[Fr.letter];omega)|(rw[rI];simp[Fr.letter];omega)|(simp[Fr.letter, *];intros;omega))) (hp:=trivial)
theorem DR:xQ 86 Fr.digit:=fun c=>by
 refine JE [AA c] Tryz.func86 Tryz.ntmps86 fun w S=>?_;refine Jn ?_
 repeat' (first|(refine Fy ?_)|refine gG (k:=fun h=>?_) (k':=fun h=>?_)|fail)
 all_goals refine End.aH () (he:=by refine iP ?_;(first|(simp[Fr.digit, *];done)|(simp[Fr.digit];omega)|(rw[rI];simp[Fr.digit];omega)|(simp[Fr.digit, *];intros;omega))) (hp:=trivial)
theorem aCI:xQ 125 (fun c=>!decide (c.toNat=10)):=fun c=>by
 refine JE [AA c] Tryz.func125 Tryz.ntmps125 fun w S=>?_;refine Jn ?_
 repeat(refine Fy ?_)
 refine End.aH () (he:=by refine iP ?_;(first|(simp[*];done)|(simp[];omega)|(rw[rI];simp[];omega)|(simp[*];intros;omega))) (hp:=trivial)
attribute [local irreducible] Fr.letter Fr.digit
theorem X9:xQ 85 Fr.word∧xQ 156 Fr.word:=by
 constructor
 ·intro c;refine JE [AA c] Tryz.func85 Tryz.ntmps85 fun w S=>?_;refine Jn ?_
  repeat' (first|(refine Fy ?_)|(refine JQ (EI c) ?_;intro s hs;refine Jn ?_)|(refine JQ (DR c) ?_;intro s hs;refine Jn ?_)|refine gG (k:=fun h=>?_) (k':=fun h=>?_)|fail)
  all_goals refine End.aH () (he:=by refine iP ?_;unfold Fr.word;simp[*]) (hp:=trivial)
 ·intro c;refine JE [AA c] Tryz.func156 Tryz.ntmps156 fun w S=>?_;refine Jn ?_
  repeat' (first|(refine Fy ?_)|(refine JQ (EI c) ?_;intro s hs;refine Jn ?_)|(refine JQ (DR c) ?_;intro s hs;refine Jn ?_)|refine gG (k:=fun h=>?_) (k':=fun h=>?_)|fail)
  all_goals refine End.aH () (he:=by refine iP ?_;unfold Fr.word;simp[*]) (hp:=trivial)
theorem N0{ok:UInt8→Bool}:∀{s:List UInt8} {n:Nat},n≤s.length→(∀j,j<n→ok (s.getD j 0)=true)→(n<s.length→ok (s.getD n 0)=false)→Fr.eO ok s=n
 |[],n,h,_,_=>by simp at h;subst h;rfl
 |c::r,0,_,_,h2=>by
  have:=h2 (by simp);unfold Fr.eO;rw[AV]
  simp_all
 |c::r,n+1,h,h1,h2=>by
  have h0:=h1 0 (by omega);have ih:=N0 (ok:=ok) (s:=r) (n:=n) (by simpa using h) (fun j hj=>by simpa using h1 (j+1) (by omega)) (fun hn=>by simpa using h2 (by simpa using hn));unfold Fr.eO at *;rw[AV]
  simp_all
theorem AI(ok:UInt8→Bool)(s:List UInt8):Fr.eO ok s≤s.length:=(List.takeWhile_sublist _).length_le
theorem GO(t:List UInt8)(ht:t.length≤6000)(f:FuncId)(ok:UInt8→Bool)(hf:xQ f ok)(hc:fM Tryz.prog f=true):
  Fn Tryz.prog 84 #[sv t, .func (.func f) #[] #[]] [] [] (σ:=Unit) (fun _=>True) (fun _=> .int .i64 (Fr.eO ok t:Nat)) (fun _=>[]):=by
 refine JE [sv t, .func (.func f) #[] #[]] Tryz.func84 Tryz.ntmps84 fun w S=>?_;refine Jn ?_
 repeat(refine Fy ?_)
 apply aB.loop (σ:=Nat) (fun k=>k≤t.length∧∀j,j<k→ok (t.getD j 0)=true) (fun k=>[(0,sv t),(1, .func (.func f) #[] #[]),(5, .int .i64 (k:Int))]) (fun k=>[aI w S]) (fun k=>t.length-k) 0
 rotate_left
 exact sb;exact aK;intro k hk K hK;(refine Jn ?_)
 rotate_left
 ·exact⟨bP _,fun j hj=>absurd hj (wC _)⟩
 by_cases h:k<t.length
 ·repeat(refine Fy ?_)
  refine aE.gL (h:=?_);refine aA.aZ (hc:=hc) (spec:=hf _) (k:=?_);intro s hs;refine Jn ?_
  cases h2:ok (t.getD k 0)with
  |true=>
   repeat(refine Fy ?_)
   refine End.o3 hK (k+1) ⟨h,fun j hj=>?_⟩ (by omega)
   by_cases hjk:j=k
   ·rw[hjk];exact h2
   ·exact hk.2 j (by omega)
  |false=>
   repeat(refine Fy ?_)
   exact End.aH () (he:=by rw[N0 hk.1 hk.2 (fun _=>h2)]) (hp:=trivial)
 ·repeat(refine Fy ?_)
  exact End.aH () (he:=by rw[N0 hk.1 hk.2 (fun hn=>absurd hn h)]) (hp:=trivial)
theorem aET(a b:List UInt8)(ha:a.length≤6000)(hb:b.length≤6000):Fn Tryz.prog 154 #[sv a,sv b] [] [] (σ:=Unit) (fun _=>True) (fun _=> .bool (b.isPrefixOf a)) (fun _=>[]):=by
 refine JE [sv a,sv b] Tryz.func154 Tryz.ntmps154 fun w S=>?_;refine Jn ?_
 by_cases h:b.length≤a.length
 ·repeat(refine Fy ?_)
  refine End.aH () (he:=by refine iP ?_;rw[rI,JV,List.isPrefixOf_iff_prefix,List.prefix_iff_eq_take];exact eq_comm) (hp:=trivial)
 ·repeat(refine Fy ?_)
  refine End.aH () (he:=by refine iP ?_;rw[eq_comm,Bool.eq_false_iff];intro h';exact h (List.isPrefixOf_iff_prefix.1 h').length_le) (hp:=trivial)
theorem aEU(a b:List UInt8)(ha:a.length≤6000)(hb:b.length≤6000):Fn Tryz.prog 128 #[sv a,sv b] [] [] (σ:=Unit) (fun _=>True) (fun _=> .bool (b.isPrefixOf a)) (fun _=>[]):=by
 refine JE [sv a,sv b] Tryz.func128 Tryz.ntmps128 fun w S=>?_;refine Jn ?_
 repeat(refine Fy ?_)
 refine JQ (aET a b ha hb) ?_;intro s hs;refine Jn ?_
 repeat(refine Fy ?_)
 exact End.aH () (he:=rfl) (hp:=trivial)
def eW(s:List UInt8):List Value:=[sv s]
instance:bF eW:=⟨fun _=>rfl,by decide,fun a u hu=>by simp[eW]at hu;subst hu;rfl⟩
theorem aBM{α:Type} [Inhabited α]{p:α→Bool}{l:List α}(h:∀j,j<l.length→p (l.getD j default)=false):l.find? p=none:=by
 rw[List.find?_eq_none];intro x hx;obtain⟨j,hj,rfl⟩:=mS hx;have:=h j hj;rw[Jd,Je hj]at this;simpa using this
theorem QP{α:Type} [Inhabited α]{p:α→Bool}:∀{l:List α} {k:Nat},k<l.length→(∀j,j<k→p (l.getD j default)=false)→p (l.getD k default)=true→l.find? p=some (l.getD k default)
 |[],k,h,_,_=>absurd h (wC _)
 |a::r,0,_,_,h2=>by rw[xW];simp_all
 |a::r,k+1,h,h1,h2=>by
  have h0:=h1 0 (by omega);rw[xW];have ih:=QP (p:=p) (l:=r) (k:=k) (by simpa using h) (fun j hj=>by simpa using h1 (j+1) (by omega)) (by simpa using h2)
  simp_all
theorem aFd(k:Nat):(Fr.rZ.getD k default).length≤6000:=by
 by_cases h:k<18
 ·have:∀j<18,(Fr.rZ.getD j default).length≤6000:=by decide
  exact this k h
 ·rw[Jd,tV (by show 18≤k;omega)];exact bP _
theorem aFb(t:List UInt8)(ht:t.length≤6000):Fn Tryz.prog 88 #[sv t] [] [] (σ:=Unit) (fun _=>True) (fun _=>sv (Fr.sign t)) (fun _=>[]):=by
 refine JE [sv t] Tryz.func88 Tryz.ntmps88 fun w S=>?_;refine Jn ?_
 have hl:Fr.rZ.length=18:=rfl
 repeat(refine Fy ?_;try intro b)
 apply aB.imp (fun w hm=>hm.mJ (f:=eW) .head Fr.rZ (n:=18) (by rfl) (by rfl) (by unfold maxLen;simp));apply aB.loop (σ:=Nat) (fun k=>k≤18∧∀j,j<k→(Fr.rZ.getD j default).isPrefixOf t=false) (fun k=>[(0,sv t),(5, .slice (some ⟨b,0,none⟩) 18 18),(6, .int .i64 (18:Int)),(7, .int .i64 (k:Int))]) (fun k=>[aI w S,arr (some ⟨b,0,none⟩) 18 18 9 eW Fr.rZ]) (fun k=>18-k) 0
 rotate_left
 exact sb;exact aK;intro k hk K hK;(refine Jn ?_)
 rotate_left
 ·exact⟨bP _,fun j hj=>absurd hj (wC _)⟩
 by_cases h:k<18
 ·repeat(refine Fy ?_)
  refine JQ (aEU t (Fr.rZ.getD k default) ht (aFd k)) ?_;intro s hs;refine Jn ?_
  cases h2:(Fr.rZ.getD k default).isPrefixOf t with
  |true=>
   repeat(refine Fy ?_)
   exact End.aH () (he:=by unfold Fr.sign;rw[QP (by omega) hk.2 h2];rfl) (hp:=trivial)
  |false=>
   repeat(refine Fy ?_)
   refine End.o3 hK (k+1) ⟨h,fun j hj=>?_⟩ (by omega)
   by_cases hjk:j=k
   ·rw[hjk];exact h2
   ·exact hk.2 j (by omega)
 ·repeat(refine Fy ?_)
  refine End.aH () (he:=by unfold Fr.sign;rw[aBM (fun j hj=>hk.2 j (by omega))];rfl) (hp:=trivial)
end
theorem MT:∀(n:Nat) (s:List UInt8),s.length≤n→∀m,s.length≤m→Fr.space n s=Fr.space m s
 |0,s,h,m,_=>by
  obtain rfl:s=[]:=pE (by omega)
  cases m<;>rfl
 |n+1,[],h,m,_=>by cases m<;>rfl
 |n+1,c::r,h,0,h2=>by simp at h2
 |n+1,c::r,h,m+1,h2=>by
  have h:r.length≤n:=by simpa using h
  have h2:r.length≤m:=by simpa using h2
  unfold Fr.space;rw[MT n r h m h2]
  split
  ·rfl
  ·split
   ·rename_i hc _
    have hj:1≤Fr.eO (fun c=>!decide (c.toNat=10)) (c::r):=by
     unfold Fr.eO;rw[AV]
     simp_all
    dsimp only;rw[MT n _ (by rw[fC,JW];omega) m (by rw[fC,JW];omega)]
   ·rfl
def sp(s:List UInt8):Nat:=Fr.space s.length s
theorem VX{c:UInt8}{r:List UInt8}(h:c.toNat=32∨c.toNat=9∨c.toNat=10):sp (c::r)=1+sp r:=by
 unfold sp;rw[JW,Fr.space,if_pos h,Nat.add_comm]
theorem VZ{c:UInt8}{r:List UInt8}(h:¬(c.toNat=32∨c.toNat=9∨c.toNat=10))(h2:c.toNat=35):
  1≤Fr.eO (fun c=>!decide (c.toNat=10)) (c::r)∧sp (c::r)=Fr.eO (fun c=>!decide (c.toNat=10)) (c::r)+sp ((c::r).drop (Fr.eO (fun c=>!decide (c.toNat=10)) (c::r))):=by
 have hj:1≤Fr.eO (fun c=>!decide (c.toNat=10)) (c::r):=by
  unfold Fr.eO;rw[AV]
  simp_all
 refine⟨hj,?_⟩;unfold sp;rw[JW,Fr.space,if_neg h,if_pos h2,Nat.add_comm,MT _ _ (by rw[fC,JW];omega) _ (cG _)]
theorem VY{c:UInt8}{r:List UInt8}(h:¬(c.toNat=32∨c.toNat=9∨c.toNat=10))(h2:¬c.toNat=35):sp (c::r)=0:=by
 unfold sp;rw[JW,Fr.space,if_neg h,if_neg h2]
theorem MS:∀(n:Nat) (s:List UInt8),s.length≤n→sp s≤s.length
 |0,s,h=>by
  obtain rfl:s=[]:=pE (by omega);exact cG _
 |n+1,[],_=>cG _
 |n+1,c::r,h=>by
  have h:r.length≤n:=by simpa using h
  by_cases h1:c.toNat=32∨c.toNat=9∨c.toNat=10
  ·rw[VX h1,JW];have:=MS n r h;omega
  ·by_cases h2:c.toNat=35
   ·obtain⟨h3,h4⟩:=VZ (r:=r) h1 h2;rw[h4];have h5:=AI (fun c=>!decide (c.toNat=10)) (c::r);have h6:=MS n ((c::r).drop (Fr.eO (fun c=>!decide (c.toNat=10)) (c::r))) (by rw[fC,JW];omega);rw[fC]at h6;omega
   ·rw[VY h1 h2];exact bP _
attribute [local irreducible] Fr.letter Fr.digit Fr.word
theorem V0(t:List UInt8)(ht:t.length≤6000):Fn Tryz.prog 82 #[sv t] [] [] (σ:=Unit) (fun _=>True) (fun _=> .int .i64 (sp t:Nat)) (fun _=>[]):=by
 refine JE [sv t] Tryz.func82 Tryz.ntmps82 fun w S=>?_;refine Jn ?_
 repeat(refine Fy ?_)
 apply aB.loop (σ:=Nat) (fun k=>k≤t.length∧sp t=k+sp (t.drop k)) (fun k=>[(0,sv t),(3, .int .i64 (k:Int))]) (fun k=>[aI w S]) (fun k=>t.length-k) 0
 rotate_left
 exact sb;exact aK;intro k hk K hK;(refine Jn ?_)
 rotate_left
 ·exact⟨bP _,by simp⟩
 obtain⟨hk,hs⟩:=hk
 by_cases h:k<t.length
 ·have hd:t.drop k=t.getD k 0::t.drop (k+1):=drop_cons h;have hw:=AI (fun c=>!decide (c.toNat=10)) (t.drop k);rw[fC]at hw;have hj:=fun a b=>(VZ (c:=t.getD k 0) (r:=t.drop (k+1)) a b)
  rw[←hd,List.drop_drop]at hj;have he:=fun a b=>(VY (c:=t.getD k 0) (r:=t.drop (k+1)) a b)
  have hb:=fun a=>(VX (c:=t.getD k 0) (r:=t.drop (k+1)) a)
  rw[←hd]at he hb
  repeat' (first|(refine Fy ?_)|(refine JQ (GO (t.drop k) (by rw[fC];omega) _ _ aCI (by kernel_rfl)) ?_;intro s hs;refine Jn ?_)|refine gG (k:=fun h=>?_) (k':=fun h=>?_)|fail)
  ·exact End.o3 hK (k+1) ⟨by omega,by rw[hs,hb (by omega)];omega⟩ (by omega)
  ·exact End.o3 hK (k+1) ⟨by omega,by rw[hs,hb (by omega)];omega⟩ (by omega)
  ·exact End.o3 hK (k+1) ⟨by omega,by rw[hs,hb (by omega)];omega⟩ (by omega)
  ·obtain⟨h3,h4⟩:=hj (by omega) (by omega);exact End.o3 hK (k+Fr.eO (fun c=>!decide (c.toNat=10)) (t.drop k)) ⟨by omega,by omega⟩ (by omega)
  ·exact End.aH () (he:=by rw[hs,he (by omega) (by omega)];rfl) (hp:=trivial)
 ·repeat(refine Fy ?_)
  exact End.aH () (he:=by rw[hs,lD (by omega)];rfl) (hp:=trivial)
end
end Vw
namespace Vw
open Go.RowKit Img Go.Shelf
abbrev yG:Nat:=2
def aCF:Go.Shelf.Ren:=⟨fun|144=>155|143=>174|219=>183|217=>191|225=>192|224=>193|267=>194|266=>204|314=>205|n=>n,fun|9=>9|4=>4|3=>3|5=>5|46=>117|146=>345|51=>344|n=>n,fun|1=>yG|n=>n⟩
theorem aCE:Go.Proofs.Lays.n144 Tryz.prog aCF:={
 mixed:=by kernel_rfl
 f143:=Tryz.func174.trans (congrArg some (by kernel_rfl))
 f144:=Tryz.func155.trans (congrArg some (by kernel_rfl))
 f217:=Tryz.func191.trans (congrArg some (by kernel_rfl))
 f219:=Tryz.func183.trans (congrArg some (by kernel_rfl))
 f224:=Tryz.func193.trans (congrArg some (by kernel_rfl))
 f225:=Tryz.func192.trans (congrArg some (by kernel_rfl))
 f266:=Tryz.func204.trans (congrArg some (by kernel_rfl))
 f267:=Tryz.func194.trans (congrArg some (by kernel_rfl))
 f314:=Tryz.func205.trans (congrArg some (by kernel_rfl))
 t3:=Tryz.underlying3
 a3:=Tryz.isAgg3
 z3:=Tryz.sizeOf3
 v3:=Tryz.zeroValue3
 t4:=Tryz.underlying4
 a4:=Tryz.isAgg4
 z4:=Tryz.sizeOf4
 v4:=Tryz.zeroValue4
 t5:=Tryz.underlying5
 a5:=Tryz.isAgg5
 z5:=Tryz.sizeOf5
 v5:=Tryz.zeroValue5
 t9:=Tryz.underlying9
 a9:=Tryz.isAgg9
 z9:=Tryz.sizeOf9
 v9:=Tryz.zeroValue9
 t46:=Tryz.underlying117
 a46:=Tryz.isAgg117
 z46:=Tryz.sizeOf117
 v46:=Tryz.zeroValue117
 t51:=Tryz.underlying344
 a51:=Tryz.isAgg344
 z51:=Tryz.sizeOf344
 v51:=Tryz.zeroValue344
 t146:=Tryz.underlying345
 a146:=Tryz.isAgg345
 z146:=Tryz.sizeOf345
 v146:=Tryz.zeroValue345
 g1:=by kernel_rfl}
@[irreducible] def bN : Chunk where
 holds w:=∃m,w.cell? ⟨yG,0,none⟩=some (.int .i64 m)
 cO b:=b=yG
 bB:=false
 kY k hs h:=by
  obtain⟨m,h⟩:=h;have hlt:=World.block_lt_of_cell? _ _ h;exact⟨m,by rw[k.cell (p:=⟨yG,0,none⟩) hlt (hs _ rfl)];exact h⟩
 lt h b hb:=by
  obtain⟨m,h⟩:=h;subst hb;exact World.block_lt_of_cell? _ _ h
theorem RA{w:World}:bN.holds w↔∃m,w.cell? ⟨yG,0,none⟩=some (.int .i64 m):=by unfold bN;exact Iff.rfl
@[simp] theorem I1 : bN.bB = false := by unfold bN; rfl
theorem aGh(a b:List UInt8)(ha:a.length≤6000):Fn Tryz.prog 155 #[sv a,sv b] [bN] [] (σ:=Unit) (fun _=>True) (fun _=> .bool (Go.Lib.contains a b)) (fun _=>[]):=fun w hm=>by
 obtain⟨m,h⟩:=RA.1 (hm.all bN (by simp));refine(Any.strings_Contains aCE ⟨a.toArray⟩ ⟨b.toArray⟩ m w (by rw[vC];omega) h).mono ?_;rintro e w' ⟨rfl,rfl⟩;exact⟨(),trivial,rfl,by simp,(zO (by simp) hm).sub (by simp)⟩
end Vw
section
open Go.RowKit Go.ChangeShapes Go.WideShapes Go.ChangeAt
section
variable{H:Type}{enc:TypeId×Value→H}{P:Program}{w:World}
def Fits(P:Program)(t:TypeId)(d:DataW H):Prop:=∀n∈d.weights P t,n≤reachBytes
theorem aCD{f:Func}{s:ChangeSpec}{W W':World}{args:Array Value}{ds gs:List (DataW H)}{before:List MemPlace}{tb:TypeId}
  (hl:laidOutB P=true) (hr:∀t∈f.params.toList,P.readableRec t=true∧t<P.types.size) (hrt:f.resultTypes= #[tb]) (htb:P.underlying tb=some .bool) (hsv:s.vars=[])
  (hW:DataW.Whole enc P f.params.toList s.vars false W args.toList ds gs before) (hfn:(s.fn H (ds ++gs))={results:=[.lit (.bool true)],args:=ds}) (hb:Below W.heap.size W W'):
  s.post enc P f false true false false W args (.bool true) W':=by
 have hlt:=hW.lt;have hW0:=hW;obtain⟨p,q,hA,hV,rfl,hfz,hnd⟩:=hW;rw[hsv]at hV;obtain⟨rfl,rfl⟩:=trodVars_none hV;have key:∀(ts:List TypeId) (vs:List Value) (ds:List (DataW H)) (p:List MemPlace),(∀t∈ts,P.readableRec t=true∧t<P.types.size)→(∀x∈p,x.block<W.heap.size)→
   DataW.TrodAll enc P W 0 (fun _=>true) true ts vs ds p→DataW.TrodAll enc P W' 0 (fun b=>decide (b<W.heap.size)) true ts vs ds p:=by
  intro ts
  induction ts with
  |nil=>intro vs ds p _ _ h;cases vs<;>cases ds<;>simp_all[DataW.TrodAll]
  |cons t ts ih=>
   intro vs ds p h1 h2 h
   cases vs with
   |nil=>simp[DataW.TrodAll]at h
   |cons v vs=>
    cases ds with
    |nil=>simp[DataW.TrodAll]at h
    |cons d ds=>
     obtain⟨p1,p2,h3,h4,rfl⟩:=h;have ht:=h1 t (by simp);exact⟨p1,p2,Below.trod hl ht.1 ht.2 h3 hb (fun x hx=>h2 x (by simp[hx])),ih vs ds p2 (fun t ht=>h1 t (by simp[ht])) (fun x hx=>h2 x (by simp[hx])) h4,rfl⟩
 refine⟨ds,[],_,[],p,[],hW0,?_,?_,?_,hb.frame _,fun h=>by cases h⟩
 ·rw[hfn,hrt];exact trodAll_mk1 (shut_bool htb true)
 ·rw[hfn];exact key _ _ _ _ hr (fun x hx=>hlt x (by simp[hx])) hA
 ·rw[hfn,hsv];rfl
end
end
end Go.Proofs.YtofckcabpchcmaaGreatDoor
