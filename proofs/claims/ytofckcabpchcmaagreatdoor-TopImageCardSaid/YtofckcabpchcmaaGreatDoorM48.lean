/- image.Parse, walked, on bytes that were written. -/
import Derived.Test.YtofckcabpchcmaaGreatDoorM47
set_option linter.unusedVariables false
set_option linter.unusedSimpArgs false
set_option linter.unusedSectionVars false
set_option maxRecDepth 100000
namespace Go.Proofs.YtofckcabpchcmaaGreatDoor
section
open Go Go.RowKit
section
variable{P:Program} [eT P]{fn:Func}{t u:Tmp}{R':Ending→World→Prop}{E:Env}{L L':List Chunk}
theorem aDD{n:Nat}{ty ty2 bt bt2:TypeId}{b b2 s' b':Nat}{v:Value}{ti:jX}{fs:List (Nat×TypeId)}{z' cs:List Value}{L2:List Chunk}(hr:fn.results= #[.cell t ty2, .cell u ty])(hu:look E t=some (.pointer (some ⟨b2,0,none⟩)))(hv:look E u=some (.pointer (some ⟨b,0,none⟩)))(ht:bB P ty=some ti)(hd:ti.d.row=false)(ht2:bB P ty2=some ⟨.struct fs,s',b',z'⟩)
  (hm:Take (aF b [v] bt) L L') (hm2:Take (aF b2 cs bt2) L L2) (hl:cs.length=s') (h:∀w,Mem w L→R' (.returned (.tuple #[.agg cs.toArray,v])) w):fU P fn R' ⟨n,[]⟩ .returning E L:=fun a w hs hM=>by
 have hb:=jO.1 (hM.has hm);have hc:w.cell? ⟨b,0,none⟩=some v:=by rw[hb.cell];rfl
 have h1:(loadVar ty ⟨b,0,none⟩).run P w= .ok v w:=by simp[loadVar,(cI ht).isAgg hd,load,Sem.run,hc]
 have h2:=uL ht2 (jO.1 (hM.has hm2)) hl;exact⟨.tuple #[.agg cs.toArray,v],by simp[results,hr,hs.slot t _ hu,hs.slot u _ hv,asAddr,h1,h2],h w hM⟩
end
end
namespace Vw
open Go.RowKit Img
section
theorem CF{α:Type}(f:α→List Int)(k:Nat):∀l:List α,(∀x∈l,k≤(f x).length)→l.length*k≤(l.flatMap f).length
 |[],_=>Nat.le_of_eq (Nat.zero_mul k)
 |a::l,h=>by
  have:=CF f k l fun x hx=>h x (.tail _ hx);have:=h a (.head _);rw[qE,Jl,JW,Nat.succ_mul];omega
theorem wrap_u16(n:Int):IntKind.u16.wrap n=n % 65536:=by simp[IntKind.wrap,IntKind.bits,IntKind.signed]
theorem aED(s:Int)(h:0≤s∧s<65536):bits BinOp.or IntKind.u16 (((s/256).toNat*256:Nat):Int) ((s % 256).toNat:Int)=s:=by
 obtain⟨x,y,hx,hy,rfl⟩:∃x y:Nat,x<256∧y<256∧s=((x*256+y:Nat):Int):=⟨(s/256).toNat,(s % 256).toNat,aA,aA,aA⟩;rw[show(((x*256+y:Nat):Int)/256).toNat=x by omega,show(((x*256+y:Nat):Int) % 256).toNat=y by omega];have:=(bits_nat .u16 16 aK (fun n h0 h1=>by rw[wrap_u16];omega) (x*256) y aA aA).2;refine this.trans ?_;have h8:y<2^8:=aA;have:=Nat.two_pow_add_eq_or_of_lt h8 x;rw[show x*256=2^8*x by omega,←this]
attribute [local irreducible] aE aG End aB Still aN aU RunT Fn aS
theorem aES(mb eb:Nat):∀w,Mem w ([] ++[])→CallsD Tryz.prog 40 #[ptr mb,ptr eb] .returning w fun x u1 w'=>u1= .returning∧eJ (σ:=Unit) (fun _=>True) (fun _=> .tuple #[]) (fun _=>[]) w (e7 []) x w':=by
 refine MZ (args:=[ptr mb,ptr eb]) (v:= .nilIface) Tryz.func40 rfl Tryz.ntmps40 rfl rfl aW (fun c0 cs h=> .inr ⟨?_,rfl,rfl⟩) (fun w S=>?_)
 ·simp[recoverD,h]
 refine Jn ?_
 repeat(refine Fy ?_;try first|intro ao cap|intro b)
 exact End.dL () (hp:=trivial)
abbrev U8(m:ML):Value:= .tuple #[m.val, .int .i64 0]
abbrev aBE(rb fb:Nat):Deferred:={target:= .fn (.func 40) #[ptr rb,ptr fb],args:= #[]}
theorem aEN{w0:World}{S:Nat→Prop}{n:Nat}{E:Env}{L L' F F2:List Chunk}{M:ImgM.aL}(mb eb:Nat)(x:ML)(hp:x.aC=M)(hm:Take (aF mb [.slice x.bo x.bx.length x.bc, .slice x.uo x.us.length x.uc] 26) L F)(hm2:Take (aF eb [.int .i64 0] 33) L F2)(h:aR [aO w0 S,bC (qQ x)] L L':=by exact cA)(h2:look E 2=some (ptr mb):=by exact rfl)(h3:look E 3=some (ptr eb):=by exact rfl):
  End (vC Tryz.prog Tryz.f16 2 3 (eJ (fun m:ML=>m.aC=M) U8 (fun m=>[bC (qQ m)]) w0 S)) ⟨n,[aBE mb eb]⟩ .ret E L:=
 End.M0 (fU.quiet b7 (aES mb eb) .nil (fun w=> .nil) (fun _ _=>aDD rfl h2 h3 rfl rfl rfl hm2 hm rfl fun w hm=>⟨x,hp,rfl,fun c hc=>by rw[dY.1 hc];exact iB,(hm.aP h).left⟩))
theorem aEY(M:ImgM.aL)(hw:∀n∈ImgM.iO M,ImgM.In64 n)(ao:Option Addr)(cap:Nat)(hl:(nW M).length≤60000):Fn Tryz.prog 16 #[.slice ao (nW M).length cap] [rd ao (nW M).length cap eQ (nW M)] [] (σ:=ML) (fun m=>m.aC=M) U8 (fun m=>[bC (qQ m)]):=by
 obtain⟨B,hB⟩:∃B,B=nW M:=⟨_,rfl⟩;have hBl:B.length=(ImgM.body M).length+2:=by rw[hB,nW,Jl];rfl
 have hBt:B.take (ImgM.body M).length=ImgM.body M:=by rw[hB,nW,List.take_left]
 have hB0:B.getD (ImgM.body M).length default=(kI (ImgM.body M)/256).toNat:=by rw[hB,nW,Jd,rD (bS _),Nat.sub_self];rfl
 have hB1:B.getD ((ImgM.body M).length+1) default=(kI (ImgM.body M) % 256).toNat:=by rw[hB,nW,Jd,rD aA,show(ImgM.body M).length+1-(ImgM.body M).length=1 by omega];rfl
 rw[←hB]at hl⊢;clear hB;obtain⟨n,hn⟩:∃n,n=(ImgM.body M).length:=⟨_,rfl⟩;rw[←hn]at hBl hBt hB0 hB1;rw[hBl]at hl⊢;refine OW.enter (args:=[.slice ao (n+2) cap]) 2 3 _ Tryz.func16 Tryz.ntmps16 (fun w S=>?_);refine Jn ?_
 repeat(refine Fy ?_;try first|intro ao cap|intro b)
 rename_i mb
 obtain⟨eb,rfl⟩:=a7 b;rw[show((n+2:Nat):Int)-2=(n:Int) by omega];have hsr:=XM (ImgM.body M);have hsum:∀a1 c1,Fn Tryz.prog 39 #[.slice a1 n c1] [rd a1 n c1 eQ (ImgM.body M)] [] (σ:=Unit) (fun _=>True) (fun _=> .int .u16 (kI (ImgM.body M))) (fun _=>[]):=fun a1 c1=>by rw[hn];exact XN a1 c1 _ aA
 generalize kI (ImgM.body M)=z at *;refine b8 17 [rd ao (n+2) cap eQ B] 18 ?_;refine RunT.fT 0 (h:=?_);refine RunT.fT 1 (h:=?_);refine RunT.fT 4 (h:=?_);refine RunT.fT 5 (h:=?_);refine RunT.fT 10 (h:=?_);refine RunT.fT 11 (h:=?_);refine RunT.fT 6 (h:=?_);refine RunT.fT 7 (h:=?_);refine RunT.fT 8 (h:=?_);refine RunT.fT 9 (hy:=Still.shl (z:=((B.getD n default*256:Nat):Int)) rfl rfl aA (by rw[wrap_u16];show(_:Int)*2^8 % 65536=_;omega)) (h:=?_);refine RunT.fT 12 (h:=?_);refine RunT.fT 13 (h:=?_);refine RunT.fT 14 (h:=?_);refine RunT.fT 15 (h:=?_);refine RunT.fT 16 (h:=?_);(refine JT 2 ?_;refine aB.ER (hi:=n) (k:=?_);intro a1 c1;refine JG ?_);rw[hBt];refine lN 3 (hsum a1 c1) fun u hu=>?_;rw[hB0,hB1,aED z hsr];clear hB0 hB1 hsr hsum;(refine JT 17 ?_;refine aB.bP (k:=?_);refine JG ?_);refine b6 ?_;have hzz:(!decide (z=z))=false:=aW
 repeat(refine Fy ?_;try first|intro ao cap|intro b)
 refine PD ?_
 repeat(refine Fy ?_;try first|intro ao cap|intro b)
 obtain⟨rb,rfl⟩:=a7 b;obtain⟨c2,rfl⟩:=a7 cap;obtain⟨a2,rfl⟩:=a7 ao;rw[hBt];obtain⟨bl,ul⟩:=M;obtain⟨R,hR⟩:∃R,R=ImgM.num (ul.length:Int) ++ImgM.bI (ul.flatMap ImgM.dI):=⟨_,rfl⟩;have hbd:ImgM.body ⟨bl,ul⟩=ImgM.num (bl.length:Int) ++(ImgM.bI (bl.flatMap ImgM.eU) ++R):=by rw[hR];simp[ImgM.body,ImgM.iO,ImgM.bI]
 obtain⟨C,hC⟩:∃C,C=rd a2 n c2 eQ (ImgM.body ⟨bl,ul⟩):=⟨_,rfl⟩;rw[←hC];have hx:C.bE=false:=by rw[hC];exact eO
 have hT:Tl C eQ a2 c2 (ImgM.num (bl.length:Int) ++(ImgM.bI (bl.flatMap ImgM.eU) ++R)):=by rw[hC,hn,←hbd];exact Tl.base
 have hnl:n=(ImgM.num (bl.length:Int) ++(ImgM.bI (bl.flatMap ImgM.eU) ++R)).length:=by rw[hn,hbd]
 have hrl:(ImgM.num (bl.length:Int) ++(ImgM.bI (bl.flatMap ImgM.eU) ++R)).length≤100000:=aA;clear hC hbd hn hBt hBl hzz;subst hnl;have l1:=lC hrl;have wb:∀b∈bl,ImgM.In64 b.1∧ImgM.In64 b.2:=fun b hb=>⟨hw _ (by simp[ImgM.iO];exact .inr (.inl ⟨b.1,b.2,hb,by simp[ImgM.eU]⟩)),hw _ (by simp[ImgM.iO];exact .inr (.inl ⟨b.1,b.2,hb,by simp[ImgM.eU]⟩))⟩;have wu:∀u∈ul,∀n∈ImgM.dI u,ImgM.In64 n:=fun u hu n hn=>hw _ (by simp[ImgM.iO];exact .inr (.inr (.inr ⟨u,hu,hn⟩)));(refine Jc ?_;refine aB.bA (spec:=GQ C hx rb a2 c2 bl.length 2 aK aK _ l1 (by rw[Jl];have:=uC (bl.flatMap ImgM.eU);have:=CF ImgM.eU 2 bl fun x _=>bS _;omega) hT) (r:=(fun w=>Reads.any (tk) hx .nil)) (k:=?_);intro s hs;refine Jn ?_)
 repeat(refine Fy ?_;try first|intro ao cap|intro b)
 apply aG.imp (fun w hm=>hm.cU 91 jE);clear hT;have hR2:R.length≤100000:=lC l1;have hbl:bl.length≤100000:=by have:=uC (bl.flatMap ImgM.eU);have:=CF ImgM.eU 2 bl fun x _=>bS _;rw[Jl]at l1;omega
 refine cK (σ:=Nat×(Option Addr×Nat)×(Option Addr×Nat)) (fun y=>y.1≤bl.length∧Tl C eQ y.2.1.1 y.2.1.2 (ImgM.bI ((bl.drop y.1).flatMap ImgM.eU) ++R)) (fun y=>[(2,ptr mb),(3,ptr eb),(5,ptr rb),(42, .int .i64 bl.length),(43, .int .i64 y.1)]) (fun y:Nat×(Option Addr×Nat)×(Option Addr×Nat)=>[aO w S,C,aF eb [.int .i64 0] 33,aF mb [.slice y.2.2.1 (bl.take y.1).length y.2.2.2, .slice none 0 0] 26,aF rb [.slice y.2.1.1 (ImgM.bI ((bl.drop y.1).flatMap ImgM.eU) ++R).length y.2.1.2] 121,arr y.2.2.1 (bl.take y.1).length y.2.2.2 91 jE (bl.take y.1)]) (fun y=>bl.length-y.1) (0,s,(none,0)) ?_ fun y hy K1 hK1=>?_
 ·exact⟨bQ _,hs⟩
 refine Jn ?_;obtain⟨k,⟨a3,c3⟩,bo,bc⟩:=y;obtain⟨hk,hT1⟩:=hy;dsimp only at hk hT1⊢
 by_cases hkn:k<bl.length
 ·obtain⟨x1,x2,hxe⟩:∃x1 x2,bl.getD k default=(x1,x2):=⟨_,_,rfl⟩;have hd:bl.drop k=(x1,x2)::bl.drop (k+1):=by rw[←hxe];exact drop_cons hkn
  have hts:bl.take (k+1)=bl.take k ++[(x1,x2)]:=by rw[←hxe];exact mM hkn
  have hv:=wb (x1,x2) (by rw[←hxe];exact dW hkn);have e1:ImgM.bI ((bl.drop k).flatMap ImgM.eU) ++R=ImgM.num x1 ++(ImgM.num x2 ++(ImgM.bI ((bl.drop (k+1)).flatMap ImgM.eU) ++R)):=by rw[hd];simp[ImgM.eU,ImgM.bI,Jt]
  have l9:(ImgM.bI ((bl.drop k).flatMap ImgM.eU) ++R).length≤100000:=by
   have h1:(ImgM.bI ((bl.take k).flatMap ImgM.eU) ++(ImgM.bI ((bl.drop k).flatMap ImgM.eU) ++R)).length≤100000:=by rw[←Jt,←ImgM.mX,←r8,y6];exact l1
   exact lC h1
  rw[e1]at hT1 l9⊢;have l10:=lC l9;have l11:=lC l10;have hlt:(bl.take k).length=k:=by rw[jM];omega
  repeat(refine Fy ?_;try first|intro ao cap|intro b)
  refine b8 10 [aF mb [.slice bo (bl.take k).length bc, .slice none 0 0] 26] 11 ?_;refine RunT.fT 0 (h:=?_);refine RunT.fT 1 (h:=?_);refine RunT.fT 2 (h:=?_);refine RunT.fT 4 (h:=?_);(refine JT 3 ?_;refine aB.bA (spec:=uJ C hx rb a3 c3 x1 hv.1 _ l10 hT1) (r:=fun w=>Reads.any (tk) hx .nil) (k:=?_);intro s1 hs1;refine JG ?_;refine Jn ?_);(refine JT 5 ?_;refine aB.bA (spec:=uJ C hx rb s1.1 s1.2 x2 hv.2 _ l11 hs1) (r:=fun w=>Reads.any (tk) hx .nil) (k:=?_);intro s2 hs2;refine JG ?_;refine Jn ?_);refine RunT.fT 6 (h:=?_);(refine JT 7 ?_;(first|refine Jw ?_|(refine Jb ?_;intro b)|(refine Ja ?_;intro ao cap));refine JG ?_);(refine JT 8 ?_;(refine aB.jN (a:=((x1,x2):Int×Int)) (k:=?_);intro ao cap);refine JG ?_);refine RunT.fT 9 (h:=?_);(refine JT 10 ?_;(first|refine Jw ?_|(refine Jb ?_;intro b)|(refine Ja ?_;intro ao cap));refine JG ?_);refine b6 ?_;rw[show(bl.take k).length+1=(bl.take (k+1)).length by rw[hts,Jl];rfl,←hts]
  repeat(refine Fy ?_;try first|intro ao cap|intro b)
  refine End.bK hK1 (k+1,s2,(ao,cap)) ?_ ?_
  ·exact⟨hkn,hs2⟩
  ·dsimp only;omega
 obtain rfl:k=bl.length:=aA;clear hK1 hs;rw[iS (bS _),show ImgM.bI (([]:List (Int×Int)).flatMap ImgM.eU) ++R=R from rfl]at hT1;rw[iS (bS _),show ImgM.bI (([]:List (Int×Int)).flatMap ImgM.eU) ++R=R from rfl,kN (bS _)];rw[hR]at hT1 hR2⊢
 repeat(refine Fy ?_;try first|intro ao cap|intro b)
 have l2:=lC hR2;(refine Jc ?_;refine aB.bA (spec:=GQ C hx rb a3 c3 ul.length 6 aK aK _ l2 (by have:=uC (ul.flatMap ImgM.dI);have:=CF ImgM.dI 6 ul (fun x _=>by simp[ImgM.dI];omega);omega) hT1) (r:=(fun w=>Reads.any (tk) hx .nil)) (k:=?_);intro s hs;refine Jn ?_)
 repeat(refine Fy ?_;try first|intro ao cap|intro b)
 apply aG.imp (fun w hm=>(hm.cU 88 m6).gH);clear hT1;have hul:ul.length≤100000:=by have:=uC (ul.flatMap ImgM.dI);have:=CF ImgM.dI 6 ul (fun x _=>by simp[ImgM.dI];omega);omega
 refine cK (σ:=Nat×List UC×(Option Addr×Nat)×(Option Addr×Nat)) (fun y=>y.1≤ul.length∧y.2.1.map (·.u)=ul.take y.1∧Tl C eQ y.2.2.1.1 y.2.2.1.2 (ImgM.bI ((ul.drop y.1).flatMap ImgM.dI))) (fun y=>[(2,ptr mb),(3,ptr eb),(5,ptr rb),(57, .int .i64 ul.length),(58, .int .i64 y.1)]) (fun y:Nat×List UC×(Option Addr×Nat)×(Option Addr×Nat)=>[aO w S,C,aF eb [.int .i64 0] 33,aF mb [.slice bo bl.length bc, .slice y.2.2.2.1 y.2.1.length y.2.2.2.2] 26,aF rb [.slice y.2.2.1.1 (ImgM.bI ((ul.drop y.1).flatMap ImgM.dI)).length y.2.2.1.2] 121,arr bo bl.length bc 91 jE bl,arr y.2.2.2.1 y.2.1.length y.2.2.2.2 88 m6 y.2.1,bC (y.2.1.flatMap j8)]) (fun y=>ul.length-y.1) (0,[],s,(none,0)) ?_ fun y hy K2 hK2=>?_
 ·exact⟨bQ _,rfl,hs⟩
 refine Jn ?_;obtain⟨k,us,⟨a4,c4⟩,uo,uc⟩:=y;obtain⟨hk2,hus,hT2⟩:=hy;dsimp only at hk2 hus hT2⊢;have hul2:us.length=k:=by have:=congrArg List.length hus;rw[Jf,jM]at this;omega
 by_cases hkn2:k<ul.length
 ·obtain⟨u,hue⟩:∃u,u=ul.getD k default:=⟨_,rfl⟩;have hd:ul.drop k=u::ul.drop (k+1):=by rw[hue];exact drop_cons hkn2
  have hts:ul.take (k+1)=ul.take k ++[u]:=by rw[hue];exact mM hkn2
  have hv:=wu u (by rw[hue];exact dW hkn2);clear hue;have e1:ImgM.bI ((ul.drop k).flatMap ImgM.dI)=ImgM.bI (ImgM.dI u) ++ImgM.bI ((ul.drop (k+1)).flatMap ImgM.dI):=by rw[hd,qE,ImgM.mX]
  have l9:(ImgM.bI ((ul.drop k).flatMap ImgM.dI)).length≤100000:=by
   have h1:(ImgM.bI ((ul.take k).flatMap ImgM.dI) ++ImgM.bI ((ul.drop k).flatMap ImgM.dI)).length≤100000:=by rw[←ImgM.mX,←r8,y6];exact l2
   exact lC h1
  rw[e1]at hT2 l9⊢
  repeat(refine Fy ?_;try first|intro ao cap|intro b)
  refine b8 7 [aF mb [.slice bo bl.length bc, .slice uo us.length uc] 26] 8 ?_;refine RunT.fT 0 (h:=?_);refine RunT.fT 1 (h:=?_);refine RunT.fT 2 (h:=?_);(refine JT 3 ?_;refine aB.bA (spec:=aEu C hx rb a4 c4 u hv _ l9 hT2) (r:=fun w=>Reads.any (tk) hx .nil) (k:=?_);intro s1 hs1;refine JG ?_;refine Jn ?_);obtain⟨⟨a5,c5⟩,⟨lo,lc⟩,co,cc⟩:=s1;dsimp only at hs1⊢;(refine JT 4 ?_;(first|refine Jw ?_|(refine Jb ?_;intro b)|(refine Ja ?_;intro ao cap));refine JG ?_);(refine JT 5 ?_;(refine aB.jN (a:=(⟨u,lo,lc,co,cc⟩:UC)) (k:=?_);intro ao cap);refine JG ?_);refine RunT.fT 6 (h:=?_);(refine JT 7 ?_;(first|refine Jw ?_|(refine Jb ?_;intro b)|(refine Ja ?_;intro ao cap));refine JG ?_);refine b6 ?_
  repeat(refine Fy ?_;try first|intro ao cap|intro b)
  apply End.imp (fun w hm=>hm.nC (cs:=us.flatMap j8 ++j8 ⟨u,lo,lc,co,cc⟩) (ds:=j8 ⟨u,lo,lc,co,cc⟩) (es:=us.flatMap j8) tk (.cons tk (.cons tk .nil)) pB (by simp[dU]));rw[show us.flatMap j8 ++j8 ⟨u,lo,lc,co,cc⟩=(us ++[(⟨u,lo,lc,co,cc⟩:UC)]).flatMap j8 by simp,show us.length+1=(us ++[(⟨u,lo,lc,co,cc⟩:UC)]).length by simp];refine End.bK hK2 (k+1,us ++[⟨u,lo,lc,co,cc⟩],(a5,c5),(ao,cap)) ?_ ?_
  ·exact⟨hkn2,by rw[Jq,hus,hts];rfl,hs1⟩
  ·dsimp only;omega
 obtain rfl:k=ul.length:=aA;clear hK2 hs;rw[iS (bS _),show ImgM.bI (([]:List ImgM.bM).flatMap ImgM.dI)=[]from rfl]at hT2;rw[iS (bS _),show ImgM.bI (([]:List ImgM.bM).flatMap ImgM.dI)=[]from rfl];rw[kN (bS _)]at hus
 repeat(refine Fy ?_;try first|intro ao cap|intro b)
 apply End.imp (fun w hm=>Mem.TV ⟨bl,bo,bc,us,uo,uc⟩ hm tk tk tk);exact aEN mb eb ⟨bl,bo,bc,us,uo,uc⟩ (by rw[ML.aC,hus]) tk tk
end
section
attribute [local irreducible] aE aG End aB Still aN aU RunT Fn aS
structure jD.Eq(a b:jD):Prop where
 ends:a.ends.map nF=b.ends.map nF
 rows:a.rows.map (·.l)=b.rows.map (·.l)
 n:a.n=b.n
theorem jD.Is.eq{a b:jD}{c:Vm.Ma}(ha:a.Is c)(hb:b.Is c):a.Eq b:=⟨ha.ends.trans hb.ends.symm,ha.rows.trans hb.rows.symm,ha.n.trans hb.n.symm⟩
set_option maxHeartbeats 2000000 in
theorem aFh(r v:jD)(h:r.Eq v):Fn Tryz.prog 20 #[.agg r.cells.toArray, .agg v.cells.toArray] [ed r.el,fd r.fl,ed v.el,fd v.fl] [] (σ:=Unit) (fun _=>True) (fun _=> .bool true) (fun _=>[]):=by
 have hn:=h.n;refine Fn.enter (args:=[.agg r.cells.toArray, .agg v.cells.toArray]) Tryz.func20 rfl _ Tryz.ntmps20 rfl (by simp[tN,tQ]) (fun w S=>?_);refine Jn ?_
 repeat(refine Jy ?_;try first|intro ao cap|intro b)
 (refine Jc ?_;refine aB.bA (spec:=aFj r.el v.el h.ends) (r:=(fun w=>Reads.any (tk) tN (Reads.any (tk) tN .nil))) (k:=?_);intro s hs;refine Jn ?_)
 repeat(refine Jy ?_;try first|intro ao cap|intro b)
 (refine Jc ?_;refine aB.bA (spec:=aFi r.fl v.fl h.rows) (r:=(fun w=>Reads.any (tk) tQ (Reads.any (tk) tQ .nil))) (k:=?_);intro s hs;refine Jn ?_)
 repeat(refine Jy ?_;try first|intro ao cap|intro b)
 exact fZ ()
end
theorem aDK{t:aH}{M:ImgM.aL}(h:Fr.module t=some M)(hb:M.boxes.length≤30)(hu:M.aJ.length≤30)(hc:∀u∈M.aJ,u.locals.length≤200∧u.code.length≤4000):∀n∈ImgM.iO M,ImgM.In64 n:=by
 obtain⟨h1,h2⟩:=Fr.TY h;have hs:∀k:Nat,k≤4000→ImgM.In64 (k:Int):=fun k hk=>by unfold ImgM.In64;omega
 intro n hn;simp only[ImgM.iO,w9,cY,dF,qF]at hn;rcases hn with rfl|⟨b,hb',hn⟩|rfl|⟨u,hu',hn⟩
 ·exact hs _ aA
 ·simp only[ImgM.eU,cY,List.not_mem_nil,or_false]at hn;rcases hn with rfl|rfl
  ·exact(h1 b hb').1
  ·exact(h1 b hb').2
 ·exact hs _ aA
 ·have g:=h2 u hu';have c:=hc u hu';simp only[ImgM.dI,w9,Jk,cY,dF,List.not_mem_nil,or_false,or_assoc]at hn;rcases hn with rfl|rfl|rfl|hn|rfl|rfl|rfl|hn
  ·exact g.kind
  ·exact g.params
  ·exact hs _ aA
  ·exact g.locals _ hn
  ·exact g.result
  ·exact g.aP
  ·exact hs _ aA
  ·obtain⟨i,hi,hn⟩:=qF.1 hn;have gi:=g.code i hi;simp only[ImgM.tV,cY,List.not_mem_nil,or_false]at hn;rcases hn with rfl|rfl|rfl
   ·exact gi.1
   ·exact gi.2.1
   ·exact gi.2.2
theorem I9{α:Type}(f:α→List Int)(k:Nat):∀l:List α,(∀x∈l,(f x).length≤k)→(l.flatMap f).length≤k*l.length
 |[],_=>bQ _
 |a::l,h=>by
  have:=I9 f k l fun x hx=>h x (.tail _ hx);have:=h a (.head _);rw[qE,Jl,JW,Nat.mul_succ];omega
theorem aDJ{M:ImgM.aL}(hb:M.boxes.length≤30)(hu:M.aJ.length≤30)(hc:∀u∈M.aJ,u.locals.length≤200∧u.code.length≤4000):(ImgM.iO M).length≤90000000:=by
 have h1:=I9 ImgM.eU 2 M.boxes fun x _=>bS _;have h2:=I9 ImgM.dI 12206 M.aJ fun u hu'=>by
  have c:=hc u hu';have:=EO u.code;simp only[ImgM.dI,Jl,JW,kZ];omega
 simp only[ImgM.iO,Jl,JW];omega
theorem aF5{m n:ML}(h:n.aC=m.aC){ps:List (Int×Int)}{x y:mB}(hx:B5 m ps x)(hy:B5 n ps y):x.w.Eq y.w:=by
 unfold B5 at hx hy;rw[h]at hy
 by_cases h0:Vm.kX m.aC ps.length=0
 ·rw[if_pos h0]at hx hy;have:=hy.w;rw[h]at this;exact hx.w.eq this
 ·rw[if_neg h0]at hx hy;subst hx hy;exact⟨rfl,rfl,rfl⟩
attribute [local irreducible] aE aG End aB Still aN aU RunT Fn aS
attribute [local irreducible] Fr.module Vm.kX Vm.iI Ver.verify
set_option maxHeartbeats 1000000 in
theorem aCT(t:aH)(hn:t.length≤9223372036854775807)(ps:sG):Fn Tryz.prog 5 #[sv t,ps.val] [cF,vR ps] [] (σ:=Unit) (fun _=>True) (fun _=> .bool true) (fun _=>[]):=by
 refine Fn.enter (args:=[sv t,ps.val]) Tryz.func5 rfl _ Tryz.ntmps5 rfl (by simp[FE,eO]) (fun w S=>?_);refine Jn ?_
 repeat(refine Fm ?_;try first|intro ao cap|intro b)
 refine bU (Z5) fun u hu=>?_
 repeat(refine Fm ?_;try first|intro ao cap|intro b)
 refine bU (TX t hn) fun r hr=>?_;obtain⟨m,ok⟩:=r;rcases hr with⟨rfl,hm⟩|⟨rfl,hm⟩
 rotate_left
 ·repeat(refine Fm ?_;try first|intro ao cap|intro b)
  exact fZ ()
 have hwf:m.Wf:=LU hm;have hv:=Fr.aDX hm;have hF:=formed (Ver.wO.1 hv).form;have hb30:m.aC.boxes.length≤30:=hF.boxes;have hu30:m.aC.aJ.length≤30:=by simpa using hF.aJ
 have hlc:∀k,k<m.us.length→(m.us.getD k default).u.locals.length≤200∧(m.us.getD k default).u.code.length≤4000:=fun k hk=>by
  obtain⟨q1,q2,q3,q4,q5,q6⟩:=xW (hF.head k hk);exact⟨q1,q6⟩
 have hlc':∀u∈m.aC.aJ,u.locals.length≤200∧u.code.length≤4000:=fun u hu=>by
  obtain⟨q1,q2,q3,q4,q5,q6⟩:=xW ((Ver.wO.1 hv).form.aJ u hu).1;exact⟨q1,q6⟩
 have hw:=aDK hm hb30 hu30 hlc';have hL:=aDJ hb30 hu30 hlc';clear hlc'
 repeat(refine Fm ?_;try first|intro ao cap|intro b)
 obtain⟨mb,rfl⟩:=a7 b;apply aE.imp' (fun w hm=>LS m (by exact tk) hm);(refine Jc ?_;refine aB.bA (spec:=aAX m hw hL hb30 hF.aJ hlc) (r:=(fun w=>Reads.md (tk) .nil)) (k:=?_);intro s hs;refine Jn ?_);obtain⟨e,o,c,B⟩:=s;rcases hs with⟨h1,h2⟩|⟨h1,h2,h3⟩
 ·dsimp only at h1 h2
  cases h2
  subst h1
  repeat(refine Jy ?_;try first|intro ao cap|intro b)
  exact fZ ()
 dsimp only at h1 h2 h3;subst h1;subst h2;dsimp only
 repeat(refine Jy ?_;try first|intro ao cap|intro b)
 (refine Jc ?_;refine aB.bA (spec:=aEY m.aC hw o c h3) (r:=(fun w=>Reads.arr (tk) .nil)) (k:=?_);intro s hs;refine Jn ?_);obtain⟨n,rfl⟩:=a7 s;have hs0:n.aC=m.aC:=hs;clear hw hL h3;have hwn:n.Wf:=LU (t:=t) (by rw[hs0];exact hm);clear hm
 repeat(refine Jy ?_;try first|intro ao cap|intro b)
 obtain⟨nb,rfl⟩:=a7 b;apply aE.imp' (fun w hm=>LS n (by exact tk) hm);(refine Jc ?_;refine aB.bA (spec:=aFl m n hs0.symm ⟨dP hF.boxes aK,dP hF.aJ aK,fun k hk=>⟨dP (hlc k hk).1 aK,dP (hlc k hk).2 aK⟩⟩) (r:=(fun w=>Reads.md (tk) (Reads.md (tk) .nil))) (k:=?_);intro s hs;refine Jn ?_)
 repeat(refine Jy ?_;try first|intro ao cap|intro b)
 (refine Jc ?_;refine aB.bA (spec:=YP n hwn) (r:=(fun w=>Reads.md (tk) .nil)) (k:=?_);intro s hs;refine Jn ?_)
 repeat(refine Jy ?_;try first|intro ao cap|intro b)
 (refine aE.eE (h:=?_);refine aB.bP (h:=by exact Still.aDg (a:=Ver.verify n.aC) (b:= .ok) (r:=false) rfl rfl rfl rfl (by rw[hs0,hv];rfl)) (k:=?_))
 repeat(refine Jy ?_;try first|intro ao cap|intro b)
 (refine Jc ?_;refine aB.bA (spec:=WH m hwf ps) (r:=(fun w=>Reads.md (tk) (Reads.rd (tk) .nil))) (k:=?_);intro s hs;refine Jn ?_);obtain⟨x,rfl⟩:=a7 s;have hx:=hs
 repeat(refine Jy ?_;try first|intro ao cap|intro b)
 obtain⟨xb,rfl⟩:=a7 b;(refine Jc ?_;refine aB.bA (spec:=WH n hwn ps) (r:=(fun w=>Reads.md (tk) (Reads.rd (tk) .nil))) (k:=?_);intro s hs;refine Jn ?_);obtain⟨y,rfl⟩:=a7 s;have hE:=aF5 hs0 hx hs;rw[hs0];clear hx hs;generalize Vm.kX m.aC ps.l.length=e at *
 repeat(refine Jy ?_;try first|intro ao cap|intro b)
 apply aE.imp' (fun w hm=>OM x.w (cA) hm);apply aE.imp' (fun w hm=>OM y.w (cA) hm);refine Jn ?_;(refine Jc ?_;refine aB.bA (spec:=aFh x.w y.w hE) (r:=(fun w=>Reads.any (tk) tN (Reads.any (tk) tQ (Reads.any (tk) tN (Reads.any (tk) tQ .nil))))) (k:=?_);intro s hs;refine Jn ?_)
 repeat(refine Jy ?_;try first|intro ao cap|intro b)
 exact fZ ()
end Vw
end Go.Proofs.YtofckcabpchcmaaGreatDoor
