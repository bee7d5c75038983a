/- The parser, walked: names, numbers, types, levels down. -/
import Derived.Test.YtofckcabpchcmaaGreatDoorM27
set_option linter.unusedVariables false
set_option linter.unusedSimpArgs false
set_option linter.unusedSectionVars false
set_option maxRecDepth 100000
namespace Go.Proofs.YtofckcabpchcmaaGreatDoor
namespace Vw
open Go.RowKit Img
attribute [local irreducible] aE aG End aB Still aN aU RunT Fn aS
section
theorem aD5{l:List Fr.Tok}(h:0<l.length):Fr.name l=if(l.getD 0 default).kind=1∧Fr.named (l.getD 0 default).text=true then some ((l.getD 0 default).text,l.drop 1)else none:=by
 cases l with
 |nil=>simp at h
 |cons t r=>rfl
theorem aDs{l:List Fr.Tok}(h:0<l.length):Fr.number l=if(l.getD 0 default).kind=2 then some ((l.getD 0 default).num,l.drop 1)else none:=by
 cases l with
 |nil=>simp at h
 |cons t r=>rfl
theorem T2{l:List Fr.Tok}(h:¬0<l.length):Fr.name l=none∧Fr.number l=none:=by
 cases l with
 |nil=>exact⟨rfl,rfl⟩
 |cons t r=>simp at h
variable{pb:Nat}{en:Int}
theorem pV(s:PS):Pf pb en 90 [ptr pb] [cF] s (Fr.name s.l) (G:=aH) id sv (fun _=>[]):=by
 refine PE [ptr pb] Tryz.func90 Tryz.ntmps90 fun w S=>?_;refine Jn ?_
 by_cases h:0<s.l.length
 ·have hn:=aD5 h
  by_cases hk:(s.l.getD 0 default).kind=1
  ·refine a8 ?_;refine bU (AJ (s.l.getD 0 default).text) fun b hb=>?_
   cases h3:Fr.named (s.l.getD 0 default).text with
   |true=>
    repeat(refine Fy ?_;try intro ao cap)
    rw[show s.l.length-(0+1)=(s.l.drop (0+1)).length by rw[fM]];exact P1 ((s.l.getD 0 default).text,⟨ao,cap,s.l.drop 1,s.deep⟩) ⟨by rw[hn,if_pos ⟨hk,h3⟩];rfl,rfl,by show(s.l.drop 1).length≤_;rw[fM];omega⟩ rfl
   |false=>
    refine a8 ?_;refine oO (pU s) fun a ha=>?_;refine PQ (oU s (RG a)) ?_ ?_;(intro q hq;refine PO ?_;refine PX ((RG a,s)) ?_;(rw[hn,if_neg (fun h=>by rw[h3]at h;cases h.2)]));intro z _;exact z.elim
  ·refine a8 ?_;refine oO (pU s) fun a ha=>?_;refine PQ (oU s (qM a)) ?_ ?_;(intro q hq;refine PO ?_;refine PX ((qM a,s)) ?_;(rw[hn,if_neg (fun h=>hk h.1)]));intro z _;exact z.elim
 ·refine a8 ?_;refine oO (pU s) fun a ha=>?_;refine PQ (oU s (qM a)) ?_ ?_;(intro q hq;refine PO ?_;refine PX ((qM a,s)) ?_;exact(T2 h).1);intro z _;exact z.elim
theorem U3(s:PS):Pf pb en 92 [ptr pb] [] s (Fr.number s.l) (G:=Int) id (fun n=> .int .i64 n) (fun _=>[]):=by
 refine PE [ptr pb] Tryz.func92 Tryz.ntmps92 fun w S=>?_;refine Jn ?_
 by_cases h:0<s.l.length
 ·have hn:=aDs h
  by_cases hk:(s.l.getD 0 default).kind=2
  ·repeat(refine Fy ?_;try intro ao cap)
   rw[show s.l.length-(0+1)=(s.l.drop (0+1)).length by rw[fM]];exact P1 ((s.l.getD 0 default).num,⟨ao,cap,s.l.drop 1,s.deep⟩) ⟨by rw[hn,if_pos hk];rfl,rfl,by show(s.l.drop 1).length≤_;rw[fM];omega⟩ rfl
  ·refine a8 ?_;refine oO (pU s) fun a ha=>?_;refine PQ (oU s (qM a)) ?_ ?_;(intro q hq;refine PO ?_;refine PX ((qM a,s)) ?_;rw[hn,if_neg hk]);intro z _;exact z.elim
 ·refine a8 ?_;refine oO (pU s) fun a ha=>?_;refine PQ (oU s (qM a)) ?_ ?_;(intro q hq;refine PO ?_;refine PX ((qM a,s)) ?_;exact(T2 h).2);intro z _;exact z.elim
abbrev tyV(t:Fr.Ty):Value:= .agg #[.int .i64 t.kind,sv t.gen]
theorem AQ(s:PS):Pf pb en 91 [ptr pb] [cF] s (Fr.j7 s.l) (G:=Fr.Ty) id tyV (fun _=>[]):=by
 refine PE [ptr pb] Tryz.func91 Tryz.ntmps91 fun w S=>?_;refine Jn ?_;obtain⟨ρ,hρ⟩:∃ρ,ρ=Fr.j7 s.l:=⟨_,rfl⟩;rw[←hρ];unfold Fr.j7 at hρ
 repeat(refine Fy ?_;try intro b)
 refine PI (iH s Fr.Y1) ?_ ?_
 ·intro y hi dy ly;rw[hi]at hρ;refine a8 ?_;exact PC ((⟨1,[]⟩:Fr.Ty),y) ⟨hρ,by(try dsimp only);omega,by(try dsimp only);omega⟩ aV
 intro hi;rw[hi]at hρ;refine a8 ?_;refine PI (iH s Fr.YS) ?_ ?_
 ·intro y hi dy ly;rw[hi]at hρ;refine a8 ?_;exact PC ((⟨2,[]⟩:Fr.Ty),y) ⟨hρ,by(try dsimp only);omega,by(try dsimp only);omega⟩ aV
 intro hi;rw[hi]at hρ;refine a8 ?_;refine dQ (pV s) ?_;intro g y hi dy ly;refine bT fun hρ=>?_;exact PC ((⟨3,g⟩:Fr.Ty),y) ⟨hρ,by(try dsimp only);omega,by(try dsimp only);omega⟩ aV
end
section
variable{pb:Nat}{en:Int}
abbrev PS.to(s:PS)(d:Int):PS:={s with deep:=d}
theorem MJ(s:PS)(h0:0≤s.deep)(h1:s.deep≤200):qB (σ:=Nat) (fun _=>s.deep<200) (fun xb=> .func (.func 157) #[] #[ptr xb]) (fun xb=>aF xb [ptr pb] 136::dN pb en (s.to (s.deep+1))) (τ:=mP×PS) (fun _=>s.deep=200) (fun y=>rR y.1) (fun y=>dN pb en y.2) Tryz.prog 131 #[ptr pb] [] (dN pb en s):=by
 refine PE [ptr pb] Tryz.func131 Tryz.ntmps131 fun w S=>?_;refine Jn ?_
 repeat(refine Fy ?_;try intro b)
 obtain⟨xb,rfl⟩:=a7 b
 by_cases h:s.deep<200
 ·refine a8 ?_;exact P1 xb h rfl
 ·refine a8 ?_;refine b8 3 [aF xb [ptr pb] 136] 4 ?_;refine gP [0,1] ?_;refine jF 2 (pU (s.to (s.deep+1))) fun a ha=>?_;(refine JT 3 ?_;refine aB.II (oU (s.to (s.deep+1)) (RF a)) ?_ ?_;(intro q hq;refine PO ?_;refine PX ((RF a,s.to (s.deep+1))) ?_;omega);intro z _;exact z.elim)
theorem U4(s:PS)(xb:Nat):tB Tryz.prog 157 #[ptr xb] [] (aF xb [ptr pb] 136::dN pb en s) (σ:=Unit) (fun _=>True) (fun _=>aF xb [ptr pb] 136::dN pb en (s.to (IntKind.i64.wrap (s.deep-1)))):=by
 refine tB.enter (args:=[ptr xb]) Tryz.func157 rfl _ Tryz.ntmps157 rfl aW (fun w S=>?_);refine a8 ?_;exact End.dL () (hp:=trivial)
theorem TL{fn:Func}{R':Ending→World→Prop}{n:Nat}{E:Env}{L F:List Chunk}{s:PS}{xb:Nat}(k:fU Tryz.prog fn R' ⟨n,[]⟩ .returning E (aF xb [ptr pb] 136::(dN pb en (s.to (IntKind.i64.wrap (s.deep-1))) ++F)))(t:aR (aF xb [ptr pb] 136::dN pb en s) L F:=by exact cA):
  fU Tryz.prog fn R' ⟨n,[{target:= .fn (.func 157) #[ptr xb],args:= #[]}]⟩ .returning E L:=
 fU.call b7 (U4 s xb) t (fun w=> .nil) (fun _ _=>k)
theorem aDE{fn:Func}{R':Ending→World→Prop}{L F:List Chunk}{v:Value}{s:PS}{xb:Nat}(k:rH Tryz.prog fn R' [] (n8 v) (aF xb [ptr pb] 136::(dN pb en (s.to (IntKind.i64.wrap (s.deep-1))) ++F)))(t:aR (aF xb [ptr pb] 136::dN pb en s) L F:=by exact cA):
  rH Tryz.prog fn R' [{target:= .fn (.func 157) #[ptr xb],args:= #[]}] (n8 v) L:=
 rH.call b7 (U4 s xb) t (fun w=> .nil) (fun _ _=>k)
theorem aC5{u:aH}{l r:List Fr.Tok}(h:Fr.is u l=some r):r.length+1=l.length:=by
 by_cases h0:0<l.length
 ·rw[FN h0]at h
  split at h<;>cases h
  rw[fM];omega
 ·rw[FM h0]at h;cases h
theorem mY(s:PS)(b:Nat)(u:aH):Pf pb en 93 [ptr pb, .slice (some ⟨b,0,none⟩) 1 1] [rd (some ⟨b,0,none⟩) 1 1 gL [u]] s ((Fr.qR [u] s.l).map fun r=>((),r)) (G:=Unit) id (fun _=> .tuple #[]) (fun _=>[]):=aEQ s (some ⟨b,0,none⟩) 1 [u] aW
section
variable{Q:Exit→Act→World→Prop}{N:Nd}{E:Env}{L F:List Chunk}{dst:Option Tmp}{ty:TypeId}{pos:String}{aft:Array Edge}{gd:Option (Nat×Bool)}{C:Env→List Chunk→Prop}
theorem aB.T4{s:PS}{u:aH}{vs:List Value}{R:List Chunk}{args:List Operand}{eI:Array TypeId}(sp:Pf pb en 93 vs R s ((Fr.qR [u] s.l).map fun r=>((),r)) (G:=Unit) id (fun _=> .tuple #[]) (fun _=>[]))
  (hp:Fr.is u s.l=none→∀e y,End Q N (.panic (n8 (rR e))) E (dN pb en y ++F)) (k:∀y,Fr.is u s.l=some y.l→y.deep=s.deep→y.l.length<s.l.length→C (cP dst (.tuple #[]) E) (dN pb en y ++F))
  (hv:gD E args vs:=by exact n4) (hd:cR N dst=true:=by exact rfl) (t:aR (dN pb en s) L F:=by exact cA) (r:∀w,Reads w R F:=by intro w;exact qV):
  aB Tryz.prog Q N ⟨dst, .call ⟨.value (.func 93),args.toArray,eI⟩,ty,pos,aft,gd⟩ E L C:=
 aB.pf sp (fun h=>hp (by
  cases hi:Fr.is u s.l with
  |none=>rfl
  |some r=>rw[Fr.qR,hi]at h;exact absurd h (by simp[Fr.qR]))) (fun g y h h2 h3=>by
  cases hi:Fr.is u s.l with
  |none=>rw[Fr.qR,hi]at h;exact absurd h aW
  |some r=>
   rw[Fr.qR,hi]at h;obtain rfl:r=y.l:=by simpa[Fr.qR]using h
   exact k y hi h2 (by have:=aC5 hi;omega)) rfl hv b7 hd t r
theorem PN{A B G T:Prop}(spec:T)(hp:B)(k:G)(h:T→Bx B→Bx G→A:=by intro sp hb hk;apply aE.op;exact rfl;exact aB.T4 sp hb.out hk.out):A:=h spec ⟨hp⟩ ⟨k⟩
end
section
variable{σ:Type}{post:σ→Prop}{val:σ→Value}{mem:σ→List Chunk}{bad:mP×PS→Prop}{fn:Func}{w0:World}{S:Nat→Prop}{n xb:Nat}{E:Env}{L F L' F2:List Chunk}
abbrev IW(xb:Nat):Deferred:={target:= .fn (.func 157) #[ptr xb],args:= #[]}
abbrev PS.up(s:PS):PS:=s.to (IntKind.i64.wrap (s.deep-1))
theorem B0(e:mP)(y:PS)(hb:bad (e,y.up))(t:aR (aF xb [ptr pb] 136::dN pb en y) L F:=by exact cA)(ht:aR (aO w0 S::dN pb en y.up) (aF xb [ptr pb] 136::(dN pb en y.up ++F)) F2:=by exact cA):
  End (nD Tryz.prog fn (qI post val mem bad (fun y=>rR y.1) (fun y=>dN pb en y.2) w0 S)) ⟨n,[IW xb]⟩ (.panic (n8 (rR e))) E L:=
 End.U9 (aDE (rH.nil fun w hm=> .inr ⟨(e,y.up),hb,rfl,by exact pM,(hm.aP ht).left⟩) t)
theorem O3{tm:Tmp}{ty bt:TypeId}{b s' b':Nat}{fs:List (Nat×TypeId)}{z' cs:List Value}{why:mP×PS→Value}{memE:mP×PS→List Chunk}(x:σ)(y:PS)(hp:post x)(he: .agg cs.toArray=val x)(hr:fn.results= #[.cell tm ty]:=by exact rfl)(hv:look E tm=some (.pointer (some ⟨b,0,none⟩)):=by exact rfl)(hty:bB Tryz.prog ty=some ⟨.struct fs,s',b',z'⟩:=by exact rfl)
  (t:aR (aF xb [ptr pb] 136::dN pb en y) L F:=by exact cA) (hm:Take (aF b cs bt) (aF xb [ptr pb] 136::(dN pb en y.up ++F)) L':=by exact tk) (hl:cs.length=s':=by exact rfl) (hx:∀c∈mem x,c.bE=true:=by exact pM) (hF:aR (aO w0 S::mem x) (aF xb [ptr pb] 136::(dN pb en y.up ++F)) F2:=by exact cA):
  End (nD Tryz.prog fn (qI post val mem bad why memE w0 S)) ⟨n,[IW xb]⟩ .ret E L:=
 End.AY (TL (TK hr hv hty hm hl fun w hm=> .inl ⟨x,hp,by rw[he],hx,(hm.aP hF).left⟩) t)
theorem P1u{tm:Tmp}{v:Value}{why:mP×PS→Value}{memE:mP×PS→List Chunk}(x:σ)(y:PS)(hp:post x)(he:v=val x)(hr:fn.results= #[.tmp tm]:=by exact rfl)(hv:look E tm=some v:=by exact rfl)
  (t:aR (aF xb [ptr pb] 136::dN pb en y) L F:=by exact cA) (hx:∀c∈mem x,c.bE=true:=by exact pM) (hF:aR (aO w0 S::mem x) (aF xb [ptr pb] 136::(dN pb en y.up ++F)) F2:=by exact cA):
  End (nD Tryz.prog fn (qI post val mem bad why memE w0 S)) ⟨n,[IW xb]⟩ .ret E L:=
 End.AY (TL (fU.one hr hv fun w hm=> .inl ⟨x,hp,by rw[he],hx,(hm.aP hF).left⟩) t)
end
end
section
attribute [local irreducible] Fr.is Fr.expr
variable{pb:Nat}{en:Int}
abbrev CC(x:EL):Value:= .agg (eK x).toArray
abbrev s9(pb:Nat)(en:Int)(f:Nat):Prop:=∀s:PS,s.deep=200-(f:Int)→Pf pb en 158 [ptr pb] [cF] s (Fr.expr f s.l) EL.ex CC (fun x=>[bC x.mem])
structure rB where
 o:Option Addr
 c:Nat
 l:List EL
abbrev rB.ml(x:rB):List Chunk:=[arr x.o x.l.length x.c 257 eK x.l,bC (EL.dM x.l)]
theorem TD{α:Type}(one:Fr.Rd α)(n:Nat)(first:Bool)(l:List Fr.Tok):Fr.listed one n first l=match Fr.is Fr.qT l with
  |some r=>some ([],r)
  |none=>match n with
   |0=>none
   |n+1=>(if first then some l else Fr.is Fr.yA l).bind fun l=>(one l).bind fun(x,r)=>(Fr.listed one n false r).map fun(xs,r)=>(x::xs,r):=by
 rw[Fr.listed.eq_def];try rfl
theorem UZ(f:Nat)(hE:s9 pb en f)(s:PS)(hs:s.deep=200-(f:Int)):Pf pb en 207 [ptr pb] [cF] s (Fr.args (Fr.expr f) s.l) (fun x:rB=>x.l.map EL.ex) (fun x=> .slice x.o x.l.length x.c) rB.ml:=by
 refine PE [ptr pb] Tryz.func207 Tryz.ntmps207 fun w S=>?_;refine Jn ?_;obtain⟨ρ,hρ⟩:∃ρ,ρ=Fr.args (Fr.expr f) s.l:=⟨_,rfl⟩;rw[←hρ];unfold Fr.args at hρ
 repeat(refine Fy ?_;try intro b)
 refine oQ (mY s b Fr.pW) ?_;intro y hi dy ly;refine bT fun hρ=>?_;apply aG.imp (fun w hm=>(hm.cU 257 eK).gH);refine cK (σ:=rB×PS) (fun z=>z.1.l.length≤6∧z.2.deep=s.deep∧z.2.l.length≤s.l.length∧ρ=(Fr.listed (Fr.expr f) (6-z.1.l.length) z.1.l.isEmpty z.2.l).map fun x=>(z.1.l.map EL.ex ++x.1,x.2)) (fun z=>[(0,ptr pb),(3, .slice z.1.o z.1.l.length z.1.c)]) (fun z:rB×PS=>aO w S::cF::(z.1.ml ++dN pb en z.2)) (fun z=>7-z.1.l.length) (⟨none,0,[]⟩,y) ?_ fun z hz K hK=>?_
 ·refine⟨aW,dy,Nat.le_of_lt ly,?_⟩;rw[hρ];simp
 refine Jn ?_;clear hρ hi dy ly;clear y;obtain⟨x,y⟩:=z;obtain⟨hx,dy,ly,hρ⟩:=hz;dsimp only at hx dy ly hρ⊢;rw[TD]at hρ;refine a8 ?_;refine PI (iH y Fr.qT) ?_ ?_
 ·intro u hi du lu;refine bT fun hρ=>?_;exact P1 (x,u) ⟨by rw[hρ];simp,by dsimp only;omega,by dsimp only;omega⟩ rfl
 intro hi;refine kC fun hρ=>?_
 by_cases h0:0<x.l.length
 ·rw[show x.l.isEmpty=false by cases hx:x.l<;>simp_all]at hρ
  repeat(refine Fy ?_;try intro b)
  refine PN (mY y b Fr.yA) ?_ ?_;(intro hq e y;refine PO ?_;refine PX (e,y) ?_;(rw[hρ,hq];cases 6-x.l.length<;>rfl));intro u hi du lu;refine kC fun hρ=>?_
  by_cases h6:x.l.length=6
  ·rw[show 6-x.l.length=0 by omega]at hρ;refine a8 ?_;refine oO (pU u) fun a ha=>?_;refine PQ (oU u (vI a)) ?_ ?_;(intro q hq;refine PO ?_;refine PX ((vI a,u)) ?_;exact hρ);intro z _;exact z.elim
  ·obtain⟨m,hm⟩:∃m,6-x.l.length=m+1:=⟨5-x.l.length,aA⟩;rw[hm]at hρ;simp only[BV,if_false,eR]at hρ;refine a8 ?_;refine dQ (hE u aA) ?_;intro g v hi dv lv;refine kC fun hρ=>?_
   repeat(refine Fy ?_;try first|intro ao cap|intro b)
   rw[show x.l.length+1=(x.l ++[g]).length by simp];apply End.imp (fun w hm=>Mem.zJ (cs:=EL.dM x.l) (ds:=g.mem) hm tk tk);rw[←LO];refine End.bK hK (⟨ao,cap,x.l ++[g]⟩,v) ⟨by simp;omega,by dsimp only;omega,by dsimp only;omega,?_⟩ (by simp;omega);rw[hρ,show 6-(x.l ++[g]).length=m by simp;omega,show(⟨ao,cap,x.l ++[g]⟩:rB).l.isEmpty=false by simp];simp[w7]
 ·rw[show x.l.isEmpty=true by cases hx:x.l<;>simp_all,show 6-x.l.length=5+1 by omega]at hρ;simp only[if_true,eR]at hρ;refine a8 ?_;refine dQ (hE y aA) ?_;intro g v hi dv lv;refine kC fun hρ=>?_
  repeat(refine Fy ?_;try first|intro ao cap|intro b)
  rw[show x.l.length+1=(x.l ++[g]).length by simp];apply End.imp (fun w hm=>Mem.zJ (cs:=EL.dM x.l) (ds:=g.mem) hm tk tk);rw[←LO];refine End.bK hK (⟨ao,cap,x.l ++[g]⟩,v) ⟨by simp;omega,by dsimp only;omega,by dsimp only;omega,?_⟩ (by simp;omega);rw[hρ,show 6-(x.l ++[g]).length=5 by simp;omega,show(⟨ao,cap,x.l ++[g]⟩:rB).l.isEmpty=false by simp];simp[w7]
end
section
attribute [local irreducible] Fr.is Fr.expr
variable{pb:Nat}{en:Int}
theorem aBs(one:Fr.Rd Fr.Ex)(n:Nat)(first:Bool)(l:List Fr.Tok):Fr.xQ one n first l=match n with
  |0=>some ([],l)
  |n+1=>(if first then some l else Fr.is Fr.yA l).bind fun l=>(one l).bind fun(x,r)=>(Fr.xQ one n false r).map fun(xs,r)=>(x::xs,r):=by
 cases n<;>rfl
theorem MI(f:Nat)(hE:s9 pb en f)(s:PS)(hs:s.deep=200-(f:Int))(kd:Int)(n:Nat)(hn:n≤2):Pf pb en 206 [ptr pb, .int .i64 kd, .int .i64 n] [cF] s (Fr.fixed (Fr.expr f) kd n s.l) EL.ex CC (fun x=>[bC x.mem]):=by
 refine PE [ptr pb, .int .i64 kd, .int .i64 n] Tryz.func206 Tryz.ntmps206 fun w S=>?_;refine Jn ?_;obtain⟨ρ,hρ⟩:∃ρ,ρ=Fr.fixed (Fr.expr f) kd n s.l:=⟨_,rfl⟩;rw[←hρ];unfold Fr.fixed at hρ
 repeat(refine Fy ?_;try intro b)
 rename_i rb xb
 refine oQ (mY s b Fr.pW) ?_;intro y hi dy ly;refine bT fun hρ=>?_;apply aG.imp (fun w hm=>(hm.cU 257 eK).gH);refine cK (σ:=rB×PS) (fun z=>z.1.l.length≤n∧z.2.deep=s.deep∧z.2.l.length≤s.l.length∧ρ=(Fr.xQ (Fr.expr f) (n-z.1.l.length) z.1.l.isEmpty z.2.l).bind fun x=>(Fr.is Fr.qT x.2).map fun r=>(.mk kd 0 [] (z.1.l.map EL.ex ++x.1),r)) (fun z=>[(0,ptr pb),(6,ptr rb),(7,ptr xb),(14, .int .i64 n),(15, .int .i64 z.1.l.length)]) (fun z:rB×PS=>aO w S::cF::aF rb [.int .i64 0, .int .i64 0,sv [], .slice none 0 0] 257::aF xb [.int .i64 kd, .int .i64 0,sv [], .slice z.1.o z.1.l.length z.1.c] 257::(z.1.ml ++dN pb en z.2)) (fun z=>n-z.1.l.length) (⟨none,0,[]⟩,y) ?_ fun z hz K hK=>?_
 ·refine⟨bQ _,dy,Nat.le_of_lt ly,?_⟩;rw[hρ];simp
 refine Jn ?_;clear hρ hi dy ly;clear y;obtain⟨x,y⟩:=z;obtain⟨hx,dy,ly,hρ⟩:=hz;dsimp only at hx dy ly hρ⊢;rw[aBs]at hρ
 by_cases hlt:x.l.length<n
 ·obtain⟨m,hm⟩:∃m,n-x.l.length=m+1:=⟨n-x.l.length-1,aA⟩;rw[hm]at hρ;refine a8 ?_;refine CA (σ:=PS) (fun u=>u.deep=s.deep∧u.l.length≤s.l.length∧ρ=((Fr.expr f u.l).bind fun x=>(Fr.xQ (Fr.expr f) m false x.2).map fun z=>(x.1::z.1,z.2)).bind fun z=>(Fr.is Fr.qT z.2).map fun r=>(.mk kd 0 [] (x.l.map EL.ex ++z.1),r)) (fun u=>[(0,ptr pb),(6,ptr rb),(7,ptr xb),(14, .int .i64 n),(15, .int .i64 x.l.length)]) (fun u=>aO w S::cF::aF rb [.int .i64 0, .int .i64 0,sv [], .slice none 0 0] 257::aF xb [.int .i64 kd, .int .i64 0,sv [], .slice x.o x.l.length x.c] 257::(x.ml ++dN pb en u)) ?_ ?_
  ·intro u ⟨du,lu,hρ⟩;refine a8 ?_;refine b8 7 [aF xb [.int .i64 kd, .int .i64 0,sv [], .slice x.o x.l.length x.c] 257] 8 ?_;refine gP [0,1,2] ?_;(refine JT 3 ?_;refine aB.pf (hE u aA) ?_ ?_;(intro hq e y;refine PO ?_;refine PX (e,y) ?_;simp only[hρ,hq,D6,yY]);intro g v hi dv lv;simp only[hi,eR,pA,id]at hρ;refine JG ?_;refine Jn ?_);refine iF 4 fun b=>?_;(refine JT 5 ?_;refine aB.jN (a:=g) (k:=?_);intro ao cap;refine JG ?_;refine Jn ?_);refine gP [6] ?_;refine gWl [7] ?_;refine b6 ?_;refine a8 ?_;rw[show x.l.length+1=(x.l ++[g]).length by simp,show(x.l.length:Int)+1=((x.l ++[g]).length:Int) by simp];apply End.imp (fun w hm=>Mem.zJ (cs:=EL.dM x.l) (ds:=g.mem) hm tk tk);rw[←LO];refine End.bK hK (⟨ao,cap,x.l ++[g]⟩,v) ⟨by simp;omega,by dsimp only;omega,by dsimp only;omega,?_⟩ (by simp;omega);rw[hρ,show n-(x.l ++[g]).length=m by simp;omega,show(⟨ao,cap,x.l ++[g]⟩:rB).l.isEmpty=false by simp];simp[w7]
   cases Fr.xQ (Fr.expr f) m false v.l<;>rfl
  intro K' hK'
  by_cases h0:0<x.l.length
  ·rw[show x.l.isEmpty=false by cases hx:x.l<;>simp_all]at hρ;simp only[BV,if_false]at hρ
   repeat(refine Fy ?_;try intro b)
   refine oQ (mY y b Fr.yA) ?_;intro u hi du lu;refine bT fun hρ=>?_;refine End.some_ hK' u ?_;exact⟨aA,aA,hρ⟩
  ·rw[show x.l.isEmpty=true by cases hx:x.l<;>simp_all]at hρ;simp only[if_true,eR]at hρ;refine a8 ?_;refine End.some_ hK' y ?_;exact⟨dy,ly,hρ⟩
 ·rw[show n-x.l.length=0 by omega]at hρ;dsimp only at hρ;rw[eR]at hρ;dsimp only at hρ
  repeat(refine Fy ?_;try intro b)
  refine oQ (mY y b Fr.qT) ?_;intro u hi du lu;refine bT fun hρ=>?_;apply End.imp (fun w hm=>Mem.AI kd 0 [] hm (tk (c:=arr x.o x.l.length x.c 257 eK x.l)) tk);exact PC (EL.mk kd 0 [] x.o x.c x.l,u) ⟨by rw[hρ];simp[EL.ex,tP],by dsimp only;omega,by dsimp only;omega⟩ aV
end
section
attribute [local irreducible] Fr.is Fr.expr Fr.args Fr.fixed Fr.name Fr.number
variable{pb:Nat}{en:Int}
set_option maxHeartbeats 2000000 in
theorem aER(f:Nat)(hE:s9 pb en f)(s:PS)(hs:s.deep=200-(f:Int)):Pf pb en 195 [ptr pb] [cF] s (Fr.vT (Fr.expr f) s.l) EL.ex CC (fun x=>[bC x.mem]):=by
 refine PE [ptr pb] Tryz.func195 Tryz.ntmps195 fun w S=>?_;refine Jn ?_;obtain⟨ρ,hρ⟩:∃ρ,ρ=Fr.vT (Fr.expr f) s.l:=⟨_,rfl⟩;rw[←hρ];unfold Fr.vT at hρ;rw[show s.l.headD default=s.l.getD 0 default by cases s.l<;>rfl]at hρ
 by_cases h0:0<s.l.length∧(s.l.getD 0 default).kind=2
 ·rw[if_pos h0]at hρ;obtain⟨h1,h2⟩:=h0
  repeat(refine Fy ?_;try intro b)
  refine dQ (U3 s) ?_;intro g y hi dy ly;refine bT fun hρ=>?_;apply End.imp (fun w hm=>Mem.zZ 1 g [] hm);exact PC (EL.mk 1 g [] none 0 [],y) ⟨hρ,by(try dsimp only);omega,by(try dsimp only);omega⟩ aV
 rw[if_neg h0]at hρ;have h1:¬0<s.l.length∨(0<s.l.length∧¬(s.l.getD 0 default).kind=2):=by
  by_cases h1:0<s.l.length
  ·exact .inr ⟨h1,fun h2=>h0 ⟨h1,h2⟩⟩
  ·exact .inl h1
 clear h0;rcases h1 with h1|⟨h1,h2⟩
 all_goals
  repeat(refine Fy ?_;try intro b)
  refine PI (iH s Fr.ZD) ?_ ?_
  ·intro y hi dy ly;refine bT fun hρ=>?_;apply End.imp (fun w hm=>Mem.zZ 2 1 [] hm);exact PC (EL.mk 2 1 [] none 0 [],y) ⟨hρ,by(try dsimp only);omega,by(try dsimp only);omega⟩ aV
  intro hi;refine bT fun hρ=>?_;refine PI (iH s Fr.YW) ?_ ?_
  ·intro y hi dy ly;refine bT fun hρ=>?_;apply End.imp (fun w hm=>Mem.zZ 2 0 [] hm);exact PC (EL.mk 2 0 [] none 0 [],y) ⟨hρ,by(try dsimp only);omega,by(try dsimp only);omega⟩ aV
  intro hi;refine bT fun hρ=>?_;refine PI (iH s Fr.pW) ?_ ?_
  ·intro y hi dy ly;refine bT fun hρ=>?_;refine dQ (hE y aA) ?_;intro g u hi du lu;refine kC fun hρ=>?_
   repeat(refine Fy ?_;try intro b)
   refine oQ (mY u b Fr.qT) ?_;intro v hi dv lv;refine bT fun hρ=>?_;exact PC (g,v) ⟨hρ,by(try dsimp only);omega,by(try dsimp only);omega⟩ aV
  intro hi;refine bT fun hρ=>?_;refine PI (iH s Fr.Y4) ?_ ?_
  ·intro y hi dy ly;refine kC fun hρ=>?_
   repeat(refine Fy ?_;try intro b)
   refine oQ (mY y b Fr.pW) ?_;intro u hi du lu;refine bT fun hρ=>?_;refine dQ (pV u) ?_;intro g v hi dv lv;refine kC fun hρ=>?_
   repeat(refine Fy ?_;try intro b)
   refine oQ (mY v b Fr.qT) ?_;intro t hi dt lt;refine bT fun hρ=>?_;apply End.imp (fun w hm=>Mem.zZ 20 0 g hm);exact PC (EL.mk 20 0 g none 0 [],t) ⟨hρ,by(try dsimp only);omega,by(try dsimp only);omega⟩ aV
  intro hi;refine bT fun hρ=>?_;refine PI (iH s Fr.ZF) ?_ ?_
  ·intro y hi dy ly;refine bT fun hρ=>?_;refine dQ (MI f hE y aA 21 1 aK) ?_;intro g u hi du lu;refine bT fun hρ=>?_;exact PC (g,u) ⟨hρ,by(try dsimp only);omega,by(try dsimp only);omega⟩ aV
  intro hi;refine bT fun hρ=>?_;refine PI (iH s Fr.Y5) ?_ ?_
  ·intro y hi dy ly;refine bT fun hρ=>?_;refine dQ (MI f hE y aA 23 2 aK) ?_;intro g u hi du lu;refine bT fun hρ=>?_;exact PC (g,u) ⟨hρ,by(try dsimp only);omega,by(try dsimp only);omega⟩ aV
  intro hi;refine bT fun hρ=>?_;refine PI (iH s Fr.YR) ?_ ?_
  ·intro y hi dy ly;refine bT fun hρ=>?_;refine dQ (MI f hE y aA 24 1 aK) ?_;intro g u hi du lu;refine bT fun hρ=>?_;exact PC (g,u) ⟨hρ,by(try dsimp only);omega,by(try dsimp only);omega⟩ aV
  intro hi;refine bT fun hρ=>?_;refine PI (iH s Fr.Y8) ?_ ?_
  ·intro y hi dy ly;refine bT fun hρ=>?_;refine dQ (pV y) ?_;intro g u hi du lu;refine bT fun hρ=>?_;refine dQ (UZ f hE u aA) ?_;intro x v hi dv lv;refine bT fun hρ=>?_;apply End.imp (fun w hm=>Mem.AI 22 0 g hm (tk (c:=arr x.o x.l.length x.c 257 eK x.l)) tk);exact PC (EL.mk 22 0 g x.o x.c x.l,v) ⟨by rw[hρ,EL.ex,tP],by(try dsimp only);omega,by(try dsimp only);omega⟩ aV
  intro hi;refine bT fun hρ=>?_;refine dQ (pV s) ?_;intro g u hi du lu;refine bT fun hρ=>?_;refine bU (U6 u Fr.pW) fun z hz=>?_
  cases ho:Fr.is Fr.pW u.l with
  |none=>
   simp only[ho]at hρ;refine a8 ?_;apply End.imp (fun w hm=>Mem.zZ 3 0 g hm);exact PC (EL.mk 3 0 g none 0 [],u) ⟨hρ,by(try dsimp only);omega,by(try dsimp only);omega⟩ aV
  |some r=>
   simp only[ho]at hρ;refine a8 ?_;refine dQ (UZ f hE u aA) ?_;intro x v hi dv lv;refine bT fun hρ=>?_;apply End.imp (fun w hm=>Mem.AI 19 0 g hm (tk (c:=arr x.o x.l.length x.c 257 eK x.l)) tk);exact PC (EL.mk 19 0 g x.o x.c x.l,v) ⟨by rw[hρ,EL.ex,tP],by(try dsimp only);omega,by(try dsimp only);omega⟩ aV
end
section
attribute [local irreducible] Fr.is Fr.expr Fr.vT
variable{pb:Nat}{en:Int}
abbrev EF(pb:Nat)(en:Int)(f:Nat):Prop:=∀s:PS,s.deep=200-(f:Int)→Pf pb en 185 [ptr pb] [cF] s ((Fr.exprs f).2 s.l) EL.ex CC (fun x=>[bC x.mem])
def FH:Nat→Fr.Rd Fr.Ex
 |0=>fun _=>none
 |f+1=>(Fr.exprs f).2
theorem aHn(f:Nat):(Fr.exprs f).2=Fr.unary (FH f) (Fr.vT (Fr.expr f)):=by cases f<;>(unfold Fr.expr;rfl)
theorem aC6{u v:aH}{l r:List Fr.Tok}(h:Fr.is u l=some r)(hn:u≠v):Fr.is v l=none:=by
 by_cases h0:0<l.length
 ·rw[FN h0]at h⊢
  split at h
  ·rename_i hu
   rw[if_neg (by rw[hu];exact hn)]
  ·cases h
 ·exact FM h0
def yH:List (aH×Int):=[(Fr.C8,4),(Fr.DT,5)]
set_option maxHeartbeats 1000000 in
theorem U7(f:Nat)(hf:f≤200)(hE:s9 pb en f)(hU:∀f',f=f'+1→EF pb en f'):EF pb en f:=fun s hs=>by
 refine PE [ptr pb] Tryz.func185 Tryz.ntmps185 fun w S=>?_;refine Jn ?_;obtain⟨ρ,hρ⟩:∃ρ,ρ=(Fr.exprs f).2 s.l:=⟨_,rfl⟩;rw[←hρ];rw[aHn]at hρ;unfold Fr.unary at hρ
 repeat(refine Fy ?_;try intro b)
 apply aE.op aV;refine aB.pO (κ:=aH) (fun v:Int=> .int .i64 v) rfl (fun mb=>?_);apply aE.op aV;refine aB.insert (key:=Fr.C8) (a:=(4:Int)) rfl rfl rfl rfl rfl tk ⟨rfl,rfl⟩ rfl ?_;apply aE.op aV;refine aB.insert (key:=Fr.DT) (a:=(5:Int)) rfl rfl rfl rfl rfl tk ⟨rfl,rfl⟩ rfl ?_;refine a8 ?_;refine aE.AG (l:=yH) tk (fun bs ck=>?_);apply aE.op aV;refine aB.range rfl rfl .head rfl (fun ib=>?_);refine a8 ?_;obtain⟨rb,rfl⟩:=a7 b;refine cK (σ:=List Nat) (fun vis=>vis.Nodup∧∀j∈vis,j<2∧Fr.is (yH.getD j default).1 s.l=none) (fun vis=>[(0,ptr pb),(2,ptr rb),(7,ptr ib)]) (fun vis=>aO w S::cF::qP ib mb bs ck vis::mpr mb (fun v:Int=> .int .i64 v) yH bs ck::aF rb [.int .i64 0, .int .i64 0,sv [], .slice none 0 0] 257::dN pb en s) (fun vis=>(if 0∈vis then 0 else 1)+(if 1∈vis then 0 else 1)) [] ?_ fun vis hv K hK=>?_
 ·exact⟨List.nodup_nil,fun j hj=>by cases hj⟩
 refine Jn ?_;obtain⟨hnd,hv⟩:=hv;refine a8 ?_;apply aE.op aV;refine aB.next (l:=yH) rfl tk tk (fun j hj=>(hv j hj).1) rfl (fun hall=>?_) (fun i p hp hni=>?_)
 ·have h1:Fr.is Fr.C8 s.l=none:=(hv 0 (hall 0 aK)).2;have h2:Fr.is Fr.DT s.l=none:=(hv 1 (hall 1 aK)).2;simp only[h1,h2]at hρ;refine a8 ?_;refine dQ (aER f hE s hs) ?_;intro g y hi dy ly;refine bT fun hρ=>?_;exact PC (g,y) ⟨hρ,by(try dsimp only);omega,by(try dsimp only);omega⟩ aV
 ·have hi2:i<2:=by
   by_cases h:i<2
   ·exact h
   ·rw[yZ (by show 2≤i;omega)]at hp;cases hp
  have hp':p=yH.getD i default:=by rw[Jd,hp];rfl
  refine a8 ?_;apply aE.op aV;refine aB.bP (h:=Still.entry rfl tk tk hp) (k:=?_);refine a8 ?_;refine PI (iH s p.1) ?_ ?_
  ·intro y hi dy ly;refine Jn ?_;have hρ':ρ=(FH f y.l).map fun x=>(.mk p.2 0 [] [x.1],x.2):=by
    have h2:i=0∨i=1:=aA;rw[hp']at hi⊢;rcases h2 with rfl|rfl
    ·rw[show(yH.getD 0 default).1=Fr.C8 from rfl]at hi;rw[hρ,hi];rfl
    ·rw[show(yH.getD 1 default).1=Fr.DT from rfl]at hi;rw[hρ,hi,aC6 hi aK];rfl
   clear hρ;refine a8 ?_;refine PQ (MJ y aA aA) ?_ ?_
   ·intro q hq;refine PO ?_;refine PX q ?_;obtain rfl:f=0:=aA;exact hρ'
   intro xb hlt;obtain⟨f',rfl⟩:∃f',f=f'+1:=⟨f-1,aA⟩;refine a8 ?_;refine PD ?_;refine a8 ?_;refine PK (hU f' rfl (y.to (y.deep+1)) (by dsimp only;omega)) ?_ ?_
   ·intro hq e v;refine PO ?_;refine B0 e v ?_;rw[hρ',FH,show y.l=(y.to (y.deep+1)).l from rfl,hq];rfl
   intro g v hi dv lv;refine Jn ?_
   repeat(refine Fy ?_;try intro b)
   dsimp only at dv lv hi;apply End.imp (fun w hm=>Mem.aC8 (g:=g) p.2 0 [] hm (tk (c:=aF b (eK g) 257)) tk rfl);refine O3 (EL.mk p.2 0 [] (some ⟨b,0,none⟩) 1 [g],v.up) v ⟨by rw[hρ',FH,hi];rfl,?_,by dsimp only;omega⟩ aV;dsimp only;rw[dv,dX aA];omega
  ·intro hi;refine a8 ?_;refine End.bK hK (vis ++[i]) ⟨?_,?_⟩ ?_
   ·rw[r9];exact⟨hnd,aW,fun a ha b hb h=>hni (by simp at hb;rw[←hb,←h];exact ha)⟩
   ·intro j hj;rcases dF.1 hj with hj|hj
    ·exact hv j hj
    ·obtain rfl:j=i:=by simpa using hj
     exact⟨hi2,by rw[←hp'];exact hi⟩
   ·have h2:i=0∨i=1:=aA;rcases h2 with rfl|rfl<;>simp[hni]<;>split<;>omega
end
section
attribute [local irreducible] Fr.is Fr.expr Fr.vT
variable{pb:Nat}{en:Int}
abbrev F3(bs:List Nat):List Chunk:=[mp (bs.getD 0 0) (fun v:Int=> .int .i64 v) (Fr.ops 0).1,mp (bs.getD 1 0) (fun v:Int=> .int .i64 v) (Fr.ops 1).1,mp (bs.getD 2 0) (fun v:Int=> .int .i64 v) (Fr.ops 2).1,mp (bs.getD 3 0) (fun v:Int=> .int .i64 v) (Fr.ops 3).1,mp (bs.getD 4 0) (fun v:Int=> .int .i64 v) (Fr.ops 4).1]
def CQ(x:Nat×Bool):List Value:=[.map (some x.1), .bool x.2]
instance:bH CQ:=⟨fun _=>rfl,aK,fun a u hu=>by simp[CQ]at hu;rcases hu with rfl|rfl<;>rfl⟩
abbrev AF(bs:List Nat):List (Nat×Bool):=[(bs.getD 0 0,false),(bs.getD 1 0,false),(bs.getD 2 0,true),(bs.getD 3 0,false),(bs.getD 4 0,false)]
set_option maxHeartbeats 1000000 in
theorem TC:Fn Tryz.prog 184 #[] [] [] (σ:=Nat×List Nat) (fun _=>True) (fun x=> .slice (some ⟨x.1,0,none⟩) 5 5) (fun x=>arr (some ⟨x.1,0,none⟩) 5 5 329 CQ (AF x.2)::F3 x.2):=by
 refine JE [] Tryz.func184 Tryz.ntmps184 fun w S=>?_;refine a8 ?_
 repeat(first|(refine Fy ?_;try intro b)|(apply aE.op aV;first|(refine aB.pO (κ:=aH) (fun v:Int=> .int .i64 v) rfl (fun b=>?_))|refine aB.insert (κ:=aH) rfl rfl aV rfl rfl tk ⟨rfl,rfl⟩ rfl ?_))
 rename_i b0 b1 b2 b3 b4
 apply End.imp (fun w hm=>hm.jB (f:=CQ) .head (AF [b0,b1,b2,b3,b4]) (n:=5) (by rfl) (by rfl) (by unfold maxLen;simp));exact End.aX (b,[b0,b1,b2,b3,b4]) (he:=rfl) (hx:=by simp[dU,gU]) (hp:=trivial)
theorem TU{κ α:Type} [DecidableEq κ](k:κ):∀l:List (κ×α),bG l k=(l.find? fun x=>decide (x.1=k)).map (·.2)
 |[]=>rfl
 |(q,a)::r=>by
  unfold bG;rw[y8,TU k r]
  by_cases h:q=k<;>simp[h]
section
variable{E:Env}{L F:List Chunk}{dst:Option Tmp}{ty:TypeId}{pos:String}{aft:Array Edge}{gu:Option (Nat×Bool)}{N:Nd}
theorem aCz{bs:List Nat}{n:Nat}{x y:Operand}{u:aH}(hn:n<5)(hx:ev E x=some (.map (some ((AF bs).getD n default).1)))(hy:ev E y=some (sv u))(t:aR (F3 bs) L F):
  Still Tryz.prog N ⟨dst, .lookup 149 x y false,ty,pos,aft,gu⟩ E L (.int .i64 (Fr.oT n u)):=by
 have e:((AF bs).getD n default).1=bs.getD n 0:=by
  match n,hn with
  |0,_|1,_|2,_|3,_|4,_=>rfl
 have hm:mp (bs.getD n 0) (fun v:Int=>Value.int .i64 v) (Fr.ops n).1∈F3 bs:=by
  match n,hn with
  |0,_|1,_|2,_|3,_|4,_=>simp
 obtain⟨L2,h⟩:=Take.L9 (t.perm.mem_iff.2 (kY _ hm));rw[e]at hx;have h2:=Still.F0 (P:=Tryz.prog) (N:=N) (dst:=dst) (ty:=ty) (pos:=pos) (aft:=aft) (gu:=gu) (t:=149) (kt:=9) (et:=3) (z:= .int .i64 0) hx hy aV aV aV h ⟨rfl,rfl⟩;have hv:((bG (Fr.ops n).1 u).map fun v:Int=>Value.int .i64 v).getD (.int .i64 0)= .int .i64 (Fr.oT n u):=by
  unfold Fr.oT;rw[TU]
  cases(Fr.ops n).1.find? fun x=>decide (x.1=u)<;>rfl
 rw[←hv];exact h2
end
theorem aDC(bs:List Nat){n:Nat}(hn:n<5):((AF bs).getD n default).2=(Fr.ops n).2:=by
 match n,hn with
 |0,_|1,_|2,_|3,_|4,_=>rfl
abbrev zC(pb:Nat)(en:Int)(f k:Nat):Prop:=∀s:PS,s.deep=200-(f:Int)→Pf pb en 175 [ptr pb, .int .i64 (5-(k:Int))] [cF] s (Fr.levels (Fr.exprs f).2 k s.l) EL.ex CC (fun x=>[bC x.mem])
theorem aEP(f:Nat)(hU:EF pb en f):zC pb en f 0:=fun s hs=>by
 refine PE [ptr pb, .int .i64 (5-((0:Nat):Int))] Tryz.func175 Tryz.ntmps175 fun w S=>?_;refine Jn ?_;obtain⟨ρ,hρ⟩:∃ρ,ρ=Fr.levels (Fr.exprs f).2 0 s.l:=⟨_,rfl⟩;rw[←hρ];rw[Fr.levels]at hρ
 repeat(refine Fy ?_;try intro b)
 refine oO (TC) fun z hz=>?_;refine dQ (hU s hs) ?_;intro g y hi dy ly;refine bT fun hρ=>?_;exact PC (g,y) ⟨hρ,by(try dsimp only);omega,by(try dsimp only);omega⟩ aV
theorem aDY(n:Nat)(next:Fr.Rd Fr.Ex)(k:Nat)(x:Fr.Ex)(l:List Fr.Tok)(h:0<l.length):Fr.more n next (k+1) x l=if Fr.oT n (l.getD 0 default).text=0 then some (x,l)else(next (l.drop 1)).bind fun z=>if(Fr.ops n).2=true then some (.mk (Fr.oT n (l.getD 0 default).text) 0 [] [x,z.1],z.2)else Fr.more n next k (.mk (Fr.oT n (l.getD 0 default).text) 0 [] [x,z.1]) z.2:=by
 cases l with
 |nil=>simp at h
 |cons t r=>rfl
set_option maxHeartbeats 1000000 in
theorem aEO(f k:Nat)(hk:k<5)(hL:zC pb en f k):zC pb en f (k+1):=fun s hs=>by
 refine PE [ptr pb, .int .i64 (5-((k+1:Nat):Int))] Tryz.func175 Tryz.ntmps175 fun w S=>?_;refine Jn ?_;obtain⟨ρ,hρ⟩:∃ρ,ρ=Fr.levels (Fr.exprs f).2 (k+1) s.l:=⟨_,rfl⟩;rw[←hρ];rw[Fr.levels]at hρ;obtain⟨n,hn⟩:∃n,n=4-k:=⟨_,rfl⟩;rw[←hn]at hρ;rw[show(5:Int)-((k+1:Nat):Int)=(n:Int) by omega];have hn5:n<5:=aA;unfold zC at hL;rw[show(5:Int)-(k:Int)=(n:Int)+1 by omega]at hL
 repeat(refine Fy ?_;try intro b)
 obtain⟨rb,rfl⟩:=a7 b;refine bU (TC) fun z hz=>?_;obtain⟨lb,bs⟩:=z;dsimp only;refine a8 ?_;refine dQ (hL s hs) ?_;intro g y hi dy ly;refine kC fun hρ=>?_
 repeat(refine Fy ?_;try intro b)
 obtain⟨xb,rfl⟩:=a7 b;obtain⟨next,hnx⟩:∃x,x=Fr.levels (Fr.exprs f).2 k:=⟨_,rfl⟩;rw[←hnx]at hρ hL;refine cK (σ:=EL×PS) (fun z=>z.2.deep=s.deep∧z.2.l.length≤s.l.length∧∃m,z.2.l.length<m∧ρ=Fr.more n next m z.1.ex z.2.l) (fun z=>[(0,ptr pb),(1, .int .i64 n),(4,ptr rb),(5, .slice (some ⟨lb,0,none⟩) 5 5),(6,ptr xb)]) (fun z:EL×PS=>aO w S::cF::aF rb [.int .i64 0, .int .i64 0,sv [], .slice none 0 0] 257::aF xb (eK z.1) 257::bC z.1.mem::arr (some ⟨lb,0,none⟩) 5 5 329 CQ (AF bs)::(F3 bs ++dN pb en z.2)) (fun z=>z.2.l.length) (g,y) ?_ fun z hz K hK=>?_
 ·exact⟨dy,ly,_,Nat.lt_succ_self _,hρ⟩
 refine Jn ?_;clear hρ dy ly hi;clear y g;obtain⟨x,y⟩:=z;obtain⟨dy,ly,m,hm,hρ⟩:=hz;dsimp only at dy ly hm hρ⊢
 by_cases h0:0<y.l.length
 ·obtain⟨m',rfl⟩:∃m',m=m'+1:=⟨m-1,aA⟩;rw[aDY _ _ _ _ _ h0]at hρ;refine a8 ?_;refine aN.bP (h:=aCz hn5 aV aV cA) (k:=?_);refine a8 ?_
  by_cases hop:Fr.oT n (y.l.getD 0 default).text=0
  ·rw[if_pos hop]at hρ;refine a8 ?_;exact PC (x,y) ⟨hρ,by(try dsimp only);omega,by(try dsimp only);omega⟩ aV
  rw[if_neg hop]at hρ
  repeat(refine Fy ?_;try intro ao cap)
  rw[show y.l.length-(0+1)=(y.l.drop (0+1)).length by rw[fM]];have hdl:(y.l.drop (0+1)).length=y.l.length-1:=by rw[fM]
  refine b8 8 [aF xb (eK x) 257] 9 ?_;refine gP [0,1,2,3,4] ?_;(refine JT 5 ?_;refine aB.pf (hL ⟨ao,cap,y.l.drop (0+1),y.deep⟩ (by dsimp only;omega)) ?_ ?_;(intro hq e y;refine PO ?_;refine PX (e,y) ?_;simp only[hρ,hq,D6,yY]);intro g u hi du lu;simp only[hi,eR,pA,id]at hρ;refine JG ?_;refine Jn ?_);dsimp only at du lu;refine iF 6 fun b=>?_;refine gP [7] ?_;refine gWl [8] ?_;refine b6 ?_;obtain⟨v,hv⟩:∃v,v=EL.mk (Fr.oT n (y.l.getD 0 default).text) 0 [] (some ⟨b,0,none⟩) 2 [x,g]:=⟨_,rfl⟩;have hvx:v.ex= .mk (Fr.oT n (y.l.getD 0 default).text) 0 [] [x.ex,g.ex]:=by rw[hv];rfl
  rw[←hvx]at hρ;have hO:=aDC bs hn5;apply End.imp (fun w hm=>by
   have h:=Mem.aC9 (g:=x) (x:=g) (Fr.oT n (y.l.getD 0 default).text) 0 [] hm (tk (c:=aF b (eK x ++eK g) 257)) tk tk rfl;rw[←hv]at h;exact h)
  cases ho:(Fr.ops n).2 with
  |true=>
   rw[ho]at hρ hO;rw[if_pos rfl]at hρ;refine a8 ?_;refine PC (v,u) ⟨hρ,by dsimp only;omega,by dsimp only;omega⟩ (by rw[hv])
  |false=>
   rw[ho]at hρ hO;rw[if_neg aK]at hρ;refine a8 ?_;subst hv;refine End.bK hK (EL.mk (Fr.oT n (y.l.getD 0 default).text) 0 [] (some ⟨b,0,none⟩) 2 [x,g],u) ⟨by dsimp only;omega,by dsimp only;omega,m',by dsimp only;omega,hρ⟩ (by dsimp only;omega)
 ·refine a8 ?_;refine PC (x,y) ⟨?_,dy,ly⟩ aV;rw[hρ,qC (by omega:y.l.length=0)]
  cases m<;>rfl
theorem U1(f:Nat)(hf:f≤200)(hL:∀f',f=f'+1→zC pb en f' 5):s9 pb en f:=fun s hs=>by
 refine PE [ptr pb] Tryz.func158 Tryz.ntmps158 fun w S=>?_;refine Jn ?_
 repeat(refine Fy ?_;try intro b)
 refine PQ (MJ s aA aA) ?_ ?_
 ·intro q hq;refine PO ?_;refine PX q ?_;obtain rfl:f=0:=aA;unfold Fr.expr;rfl
 intro xb hlt;obtain⟨f',rfl⟩:∃f',f=f'+1:=⟨f-1,aA⟩;refine a8 ?_;refine PD ?_;refine a8 ?_;have e:Fr.levels (Fr.exprs f').2 5 s.l=Fr.expr (f'+1) s.l:=by unfold Fr.expr;rfl
 have hL':=hL f' rfl (s.to (s.deep+1)) (by dsimp only;omega);refine PK (hL') ?_ ?_
 ·intro hq e' v;refine PO ?_;refine B0 e' v ?_;rw[←e];exact hq
 intro g v hi dv lv;refine a8 ?_;dsimp only at dv lv hi;refine O3 (g,v.up) v ⟨by rw[←e];exact hi,?_,lv⟩ aV;dsimp only;rw[dv,dX aA];omega
theorem RQ:∀f,f≤200→s9 pb en f∧EF pb en f
 |0,_=>by
  have hE:s9 pb en 0:=U1 0 aA (fun f' h=>aA);exact⟨hE,U7 0 aA hE (fun f' h=>aA)⟩
 |f+1,h=>by
  have hU:=(RQ f aA).2;have hL:∀k,k≤5→zC pb en f k:=fun k=>by
   induction k with
   |zero=>exact fun _=>aEP f hU
   |succ k ih=>exact fun hk=>aEO f k aA (ih aA)
  have hE:s9 pb en (f+1):=U1 (f+1) h (fun f' hf=>by obtain rfl:f=f':=aA;exact hL 5 (bS _));exact⟨hE,U7 (f+1) h hE (fun f' hf=>by obtain rfl:f=f':=aA;exact hU)⟩
end
attribute [local irreducible] Fr.is Fr.expr Fr.name Fr.body Fr.sX
variable{pb:Nat}{en:Int}
structure zE where
 o:Option Addr
 c:Nat
 l:List aM
abbrev zE.ml(x:zE):List Chunk:=[arr x.o x.l.length x.c 259 fS x.l,bC (aM.dM x.l)]
abbrev stV(x:aM):Value:= .agg (fS x).toArray
abbrev BN(pb:Nat)(en:Int)(f:Nat):Prop:=∀s:PS,s.deep=200-(f:Int)→Pf pb en 95 [ptr pb] [cF] s (Fr.body f s.l) (fun x:zE=>aM.bV x.l) (fun x=> .slice x.o x.l.length x.c) zE.ml
set_option maxHeartbeats 4000000 in
theorem aET(f:Nat)(hf:f≤200)(hB:BN pb en f)(s:PS)(hs:s.deep=200-(f:Int)):Pf pb en 132 [ptr pb] [cF] s (Fr.stat (Fr.expr f) (Fr.body f) s.l) aM.st stV (fun x=>[bC x.mem]):=by
 have hE:s9 pb en f:=(RQ f hf).1;refine PE [ptr pb] Tryz.func132 Tryz.ntmps132 fun w S=>?_;refine Jn ?_;obtain⟨ρ,hρ⟩:∃ρ,ρ=Fr.stat (Fr.expr f) (Fr.body f) s.l:=⟨_,rfl⟩;rw[←hρ];unfold Fr.stat at hρ
 repeat(refine Fy ?_;try intro b)
 rename_i rb
 obtain⟨xb,rfl⟩:=a7 b;refine aBB (σ:=(Int×aH×EL)×PS) (fun z=>ρ=Fr.sX z.1.1 z.1.2.1 z.1.2.2.ex z.2.l∧z.2.deep=s.deep∧z.2.l.length≤s.l.length) (fun z=>[(0,ptr pb),(2,ptr rb),(3,ptr xb)]) (fun z=>aO w S::cF::aF rb (fS default) 259::aF xb (fS (.mk z.1.1 z.1.2.1 z.1.2.2 none 0 [] none 0 [])) 259::bC z.1.2.2.mem::dN pb en z.2) ?_ ?_
 ·intro z hz;obtain⟨⟨k,u,x⟩,y⟩:=z;obtain⟨hρ,dy,ly⟩:=hz;dsimp only at hρ dy ly⊢;unfold Fr.sX at hρ
  repeat(refine Fy ?_;try intro b)
  refine oQ (mY y b Fr.GO) ?_;intro v hi dv lv;refine bT fun hρ=>?_;apply End.imp (fun w hm=>Mem.aCh (x:=x) k u hm tk);exact PC (aM.mk k u x none 0 [] none 0 [],v) ⟨hρ,by dsimp only;omega,by dsimp only;omega⟩ aV
 intro K' hK';refine PI (iH s Fr.YZ) ?_ ?_
 ·intro y hi dy ly;refine bT fun hρ=>?_;refine dQ (hE y aA) ?_;intro x u hi du lu;refine bT fun hρ=>?_;refine dQ (hB u aA) ?_;intro g v hi dv lv;refine bT fun hρ=>?_;refine PI (iH v Fr.YV) ?_ ?_
  ·intro t hi dt lt;refine bT fun hρ=>?_;refine dQ (hB t aA) ?_;intro e r hi dr lr;refine bT fun hρ=>?_;apply End.imp (fun w hm=>Mem.GC (x:=x) (b:=g.l) (e:=e.l) 3 [] hm tk tk tk tk tk);exact PC (aM.mk 3 [] x g.o g.c g.l e.o e.c e.l,r) ⟨hρ,by dsimp only;omega,by dsimp only;omega⟩ aV
  intro hi;refine bT fun hρ=>?_;apply End.imp (fun w hm=>Mem.GC (x:=x) (b:=g.l) (e:=[]) 3 [] (hm.gH.cU 259 fS) tk tk tk tk tk);exact PC (aM.mk 3 [] x g.o g.c g.l none 0 [],v) ⟨hρ,by dsimp only;omega,by dsimp only;omega⟩ aV
 intro hi;refine bT fun hρ=>?_;refine PI (iH s Fr.ZE) ?_ ?_
 ·intro y hi dy ly;refine bT fun hρ=>?_;refine dQ (hE y aA) ?_;intro x u hi du lu;refine bT fun hρ=>?_;refine dQ (hB u aA) ?_;intro g v hi dv lv;refine bT fun hρ=>?_;apply End.imp (fun w hm=>Mem.GC (x:=x) (b:=g.l) (e:=[]) 4 [] (hm.gH.cU 259 fS) tk tk tk tk tk);exact PC (aM.mk 4 [] x g.o g.c g.l none 0 [],v) ⟨hρ,by dsimp only;omega,by dsimp only;omega⟩ aV
 intro hi;refine bT fun hρ=>?_;refine PI (iH s Fr.Y0) ?_ ?_
 ·intro y hi dy ly;refine bT fun hρ=>?_;refine dQ (pV y) ?_;intro g u hi du lu;refine kC fun hρ=>?_
  repeat(refine Fy ?_;try intro b)
  refine oQ (mY u b Fr.GN) ?_;intro v hi dv lv;refine bT fun hρ=>?_;refine dQ (hE v aA) ?_;intro x t hi dt lt;refine bT fun hρ=>?_;refine End.some_ hK' ((1,g,x),t) ?_;exact⟨hρ,by dsimp only;omega,by dsimp only;omega⟩
 intro hi;refine bT fun hρ=>?_;refine PI (iH s Fr.Y6) ?_ ?_
 ·intro y hi dy ly;refine bT fun hρ=>?_;refine dQ (hE y aA) ?_;intro x t hi dt lt;refine bT fun hρ=>?_;refine End.some_ hK' ((5,[],x),t) ?_;exact⟨hρ,by dsimp only;omega,by dsimp only;omega⟩
 intro hi;refine bT fun hρ=>?_;refine PI (iH s Fr.Y9) ?_ ?_
 ·intro y hi dy ly;refine bT fun hρ=>?_;apply End.imp (fun w hm=>Mem.zZ 0 0 [] hm);refine End.some_ hK' ((6,[],EL.mk 0 0 [] none 0 []),y) ?_;exact⟨hρ,by dsimp only;omega,by dsimp only;omega⟩
 intro hi;refine bT fun hρ=>?_;refine PI (iH s Fr.Y7) ?_ ?_
 ·intro y hi dy ly;refine bT fun hρ=>?_;refine dQ (pV y) ?_;intro g u hi du lu;refine bT fun hρ=>?_;refine dQ (hE u aA) ?_;intro x t hi dt lt;refine bT fun hρ=>?_;refine End.some_ hK' ((7,g,x),t) ?_;exact⟨hρ,by dsimp only;omega,by dsimp only;omega⟩
 intro hi;refine bT fun hρ=>?_;refine PI (iH s Fr.Y3) ?_ ?_
 ·intro y hi dy ly;refine bT fun hρ=>?_;refine dQ (hE y aA) ?_;intro x t hi dt lt;refine bT fun hρ=>?_;refine End.some_ hK' ((8,[],x),t) ?_;exact⟨hρ,by dsimp only;omega,by dsimp only;omega⟩
 intro hi;refine bT fun hρ=>?_;refine PI (iH s Fr.YU) ?_ ?_
 ·intro y hi dy ly;refine bT fun hρ=>?_;refine dQ (hE y aA) ?_;intro x t hi dt lt;refine bT fun hρ=>?_;refine End.some_ hK' ((9,[],x),t) ?_;exact⟨hρ,by dsimp only;omega,by dsimp only;omega⟩
 intro hi;refine bT fun hρ=>?_;refine dQ (pV s) ?_;intro g u hi du lu;refine kC fun hρ=>?_
 repeat(refine Fy ?_;try intro b)
 refine oQ (mY u b Fr.GN) ?_;intro v hi dv lv;refine bT fun hρ=>?_;refine dQ (hE v aA) ?_;intro x t hi dt lt;refine bT fun hρ=>?_;refine End.some_ hK' ((2,g,x),t) ?_;exact⟨hρ,by dsimp only;omega,by dsimp only;omega⟩
end Vw
end Go.Proofs.YtofckcabpchcmaaGreatDoor
