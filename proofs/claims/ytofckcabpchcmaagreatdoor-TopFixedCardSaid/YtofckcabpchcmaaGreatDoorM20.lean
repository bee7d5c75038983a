/- The form of programs, walked: syn.Wrong. -/
import Derived.Test.YtofckcabpchcmaaGreatDoorM19
set_option linter.unusedVariables false
set_option linter.unusedSimpArgs false
set_option linter.unusedSectionVars false
set_option maxRecDepth 100000
namespace Go.Proofs.YtofckcabpchcmaaGreatDoor
namespace Vw
open Go.RowKit Img
attribute [local irreducible] aE aB End aA Still aM aP RunT Fn aO
section
attribute [local irreducible] Fr.named
structure nL(cs:List Chunk)(o:Option Addr)(c:Nat)(l:List DL):Prop where
 arr:Proofs.YtofckcabpchcmaaGreatDoor.arr o l.length c 145 jW l∈cs
 sub:∀d∈l,∀e∈d.mem,e∈cs
theorem nL.at{cs:List Chunk}{o:Option Addr}{c:Nat}{l:List DL}(h:nL cs o c l){i:Nat}(hi:i<l.length):xP cs (ob o) (oo o+i*sz jW) (l.getD i default):=⟨Has.elem h.arr hi,h.sub _ (dQ hi)⟩
theorem YJ(cs:List Chunk)(o:Option Addr)(c:Nat)(l:List DL)(h:nL cs o c l):Fn Tryz.prog 53 #[.slice o l.length c] [bE cs,bN] [] (σ:=Int×Int) (fun x=>(x.1=0∧x.2=0∧Fr.shaped (l.map DL.df)=true)∨(x.1≠0∧Fr.shaped (l.map DL.df)=false)) (fun x=> .agg #[.int .i64 x.1, .int .i64 x.2]) (fun _=>[]):=by
 have ha:=h.arr;have hs:Fr.shaped (l.map DL.df)=(decide (l.length≤30)&&(Fr.kW (l.map DL.df) 0).isSome):=by unfold Fr.shaped;rw[Jf]
 refine JE [.slice o l.length c] Tryz.func53 Tryz.ntmps53 fun w S=>?_;refine Jn ?_
 by_cases h30:30<l.length
 ·repeat(refine Fm ?_;try intro b)
  exact End.eK (5,0) (he:=rfl) (hp:= .inr ⟨show(5:Int)≠0 by decide,by rw[hs,decide_eq_false (by omega)];rfl⟩)
 have h31:decide (l.length≤30)=true:=decide_eq_true (by omega);rw[h31,sM]at hs
 repeat(refine Fm ?_;try intro b)
 rename_i rb
 refine aB.only ((fun s=>[aI w S,bE cs,bN,aD rb [.int .i64 0, .int .i64 0] 70,aD b [.int .i64 (s.2:Int)] 217]) (0,0)) (aK) ?_;apply aB.loop (σ:=Nat×Nat) (fun s=>s.1≤l.length∧s.2≤2000∧Fr.kW (l.map DL.df) 0=Fr.kW ((l.drop s.1).map DL.df) s.2) (fun s=>[(0, .slice o l.length c),(2,ptr rb),(3,ptr b),(13, .int .i64 (l.length:Int)),(14, .int .i64 (s.1:Int))]) (fun s=>[aI w S,bE cs,bN,aD rb [.int .i64 0, .int .i64 0] 70,aD b [.int .i64 (s.2:Int)] 217]) (fun s=>l.length-s.1) (0,0)
 rotate_left
 exact sb;exact aK;intro s hs' K hK;(refine Jn ?_)
 rotate_left
 ·exact⟨bP _,bP _,rfl⟩
 obtain⟨k,c2⟩:=s;obtain⟨hk',hc2,hr⟩:=hs';dsimp only at hk' hc2 hr⊢
 by_cases hlt:k<l.length
 ·have hz:Fr.kW ((l.drop k).map DL.df) c2=(Fr.nX (l.getD k default).df c2).bind (Fr.kW ((l.drop (k+1)).map DL.df)):=by
   rw[nR hlt,eG,Fr.kW]
  repeat(refine Fm ?_)
  refine FQ (aHZ b cs (l.getD k default) _ _ c2 (h.at hlt) hc2) ?_;intro e he;refine Jn ?_;obtain⟨e,c3⟩:=e;rcases he with⟨he,hn,hc3⟩|⟨he,hn⟩
  ·dsimp only at he hn hc3;subst he
   repeat(refine Fm ?_)
   exact End.bK hK (k+1,c3) ⟨hlt,hc3,by rw[hr,hz,hn];rfl⟩ (by dsimp only;omega)
  ·have he':decide (e=0)=false:=decide_eq_false he
   repeat(refine Fm ?_)
   exact End.eK (e,(k:Int)) (he:=rfl) (hp:= .inr ⟨he,by rw[hs,hr,hz,hn];rfl⟩)
 ·repeat(refine Fm ?_)
  exact End.eK (0,0) (he:=rfl) (hp:= .inl ⟨rfl,rfl,by rw[hs,hr,lD (by omega)];rfl⟩)
end
section
attribute [local irreducible] Fr.named
structure cI where
 o:Option Addr
 c:Nat
 l:List DL
abbrev cI.sU(x:cI):List Chunk:=arr x.o x.l.length x.c 145 jW x.l::x.l.flatMap DL.mem
theorem cI.bB(x:cI):∀c∈x.sU,c.bB=true:=fun c hc=>by
 rcases eB.1 hc with rfl|hc
 ·exact dX
 ·obtain⟨d, -,hd⟩:=wA.1 hc;exact d.s8 c hd
abbrev zI(t:aF)(x:cI×Int×Int):Prop:=(x.2.1=0∧Fr.parse t=some (x.1.l.map DL.df)∧Fr.shaped (x.1.l.map DL.df)=true)∨(x.2.1≠0∧∀p,Fr.parse t=some p→Fr.shaped p=false)
abbrev FN(x:cI×Int×Int):Value:= .tuple #[.slice x.1.o x.1.l.length x.1.c, .agg #[.int .i64 x.2.1, .int .i64 x.2.2]]
abbrev zH(x:cI×Int×Int):List Chunk:=[aR x.1.sU]
abbrev PY(rb fb:Nat):Deferred:={target:= .fn (.func 49) #[ptr rb,ptr fb],args:= #[]}
section
variable{t:aF}{w0:World}{S:Nat→Prop}{n:Nat}{E:Env}{L L' F F2:List Chunk}{v0 a0 a1:Value}{rb fb:Nat}
theorem Mem.LC{w:World}(h:Mem w L):Mem w (aR (cI.mk none 0 []).sU::L):=Mem.pack (cs:=(cI.mk none 0 []).sU) (h.bY 145 jW) (cI.bB _)
theorem Mem.aCq{w:World}{L1 L2:List Chunk}(x:cI)(h:Mem w L)(t1:Take (arr x.o x.l.length x.c 145 jW x.l) L L1)(t2:Take (aR (x.l.flatMap DL.mem)) L1 L2):Mem w (aR x.sU::L2):=by
 have h1:Mem w ([arr x.o x.l.length x.c 145 jW x.l,aR (x.l.flatMap DL.mem)] ++L2):=h.aS (.cons t1 (.cons t2 .nil));have h2:Mem w ([arr x.o x.l.length x.c 145 jW x.l] ++aR (x.l.flatMap DL.mem)::L2):=h1;exact Mem.pack (cs:=x.sU) (by simpa using Mem.AD h2) x.bB
theorem OE(rb fb:Nat)(e:lM)(hp:Fr.parse t=none)(tt:aQ [aD rb [v0] 68,aD fb [a0,a1] 70] L F:=by exact aK)(ht:Take (aI w0 S) F F2:=by exact tk)(h2:look E 2=some (ptr rb):=by exact rfl)(h3:look E 3=some (ptr fb):=by exact rfl):
  End (wJ Tryz.prog Tryz.f22 2 3 (fZ (zI t) FN zH w0 S)) ⟨n,[PY rb fb]⟩ (.panic (nA (qV e))) E L:=
 End.aDt (fY.recover (by kernel_rfl) (aE3 rb fb v0 a0 a1 e) rfl tt (fun w=> .nil) (fun _ _=>KT rfl rfl rfl rfl rfl rfl .head (.tail .head) rfl fun w hm=>⟨(⟨none,0,[]⟩,e.1), .inr ⟨e.2,fun p h=>by rw[hp]at h;cases h⟩,rfl,fun c hc=>by rw[gD.1 hc];exact jT,by
  have h1:=hm.take (.tail (.tail ht));exact Mem.left (L:=[aI w0 S,aR (cI.mk none 0 []).sU]) ((Mem.LC h1).perm (List.Perm.swap _ _ _))⟩)) h2 h3
theorem OD(rb fb:Nat)(x:cI×Int×Int)(hp:zI t x)(hm:Take (aD rb [.slice x.1.o x.1.l.length x.1.c] 68) L F)(hm2:Take (aD fb [.int .i64 x.2.1, .int .i64 x.2.2] 70) L F2)(h:aQ (aI w0 S::zH x) L L':=by exact aK)(h2:look E 2=some (ptr rb):=by exact rfl)(h3:look E 3=some (ptr fb):=by exact rfl):
  End (wJ Tryz.prog Tryz.f22 2 3 (fZ (zI t) FN zH w0 S)) ⟨n,[PY rb fb]⟩ .ret E L:=
 End.UX (fY.quiet (by kernel_rfl) (aE4 rb fb) .nil (fun w=> .nil) (fun _ _=>KT rfl h2 h3 rfl rfl rfl hm hm2 rfl fun w hm=>⟨x,hp,rfl,fun c hc=>by rw[gD.1 hc];exact jT,(hm.aS h).left⟩))
theorem YS(rb fb:Nat)(x:cI×Int×Int)(hp:zI t x)(hm:Take (aD rb [.slice x.1.o x.1.l.length x.1.c] 68) L F)(hm2:Take (aD fb [.int .i64 x.2.1, .int .i64 x.2.2] 70) L F2)(h:aQ (aI w0 S::zH x) L L':=by exact aK)(h2:look E 2=some (ptr rb):=by exact rfl)(h3:look E 3=some (ptr fb):=by exact rfl):
  End (wJ Tryz.prog Tryz.f22 2 3 (fZ (zI t) FN zH w0 S)) ⟨n,[]⟩ .ret E L:=
 End.UX (KT rfl h2 h3 rfl rfl rfl hm hm2 rfl fun w hm=>⟨x,hp,rfl,fun c hc=>by rw[gD.1 hc];exact jT,(hm.aS h).left⟩)
end
theorem aAZ(n:Nat):Fr.defs n []=some ([],[]):=by cases n<;>rfl
theorem aA1{l:List Fr.Tok}(h:0<l.length):Fr.defs 0 l=none:=by
 cases l with
 |nil=>simp at h
 |cons=>rfl
theorem aA0{n:Nat}{l:List Fr.Tok}(h:0<l.length):Fr.defs (n+1) l=(Fr.uL l).bind fun x=>(Fr.defs n x.2).map fun y=>(x.1::y.1,y.2):=by
 cases l with
 |nil=>simp at h
 |cons=>rfl
set_option maxHeartbeats 1000000 in
theorem aEe(t:aF)(hn:t.length≤9223372036854775807):Fn Tryz.prog 22 #[sv t] [bN] [] (σ:=cI×Int×Int) (zI t) FN zH:=by
 refine FnR.enter (args:=[sv t]) 2 3 _ Tryz.func22 Tryz.ntmps22 (fun w S=>?_);refine Jn ?_
 repeat(refine Fy ?_;try intro b)
 rename_i rb
 obtain⟨fb,rfl⟩:∃x,x=b:=⟨_,rfl⟩;refine FQ (aGo t hn) ?_;intro r hr;refine Jn ?_;rcases hr with⟨he,htk⟩|⟨he,htk⟩
 rotate_left
 ·have he':decide (r.e=0)=false:=decide_eq_false he
  repeat(refine Fy ?_)
  apply aB.draw 2 ([aD fb [.int .i64 r.e, .int .i64 r.a] 70]) (by kernel_rfl) 3 rfl;refine RunT.vD 0 (h:=?_);(refine JT 1 ?_;(refine Jw ?_);refine JG ?_);(refine JT 2 ?_;(refine Jw ?_);refine JG ?_);(apply RunT.done;kernel_rfl)
  repeat(refine Fy ?_)
  apply End.imp (fun w hm=>Mem.LC hm);exact YS rb fb (⟨none,0,[]⟩,r.e,r.a) (.inr ⟨he,fun p h=>by rw[Fr.parse,htk]at h;cases h⟩) tk tk
 repeat(refine Fy ?_)
 refine PD ?_
 repeat(refine Fy ?_;try intro b)
 obtain⟨pb,rfl⟩:∃x,x=b:=⟨_,rfl⟩;apply aB.imp (fun w hm=>(hm.bY 145 jW).eX);refine aB.only ((fun z:cI×PS=>aI w S::bN::aD rb [.slice z.1.o z.1.l.length z.1.c] 68::aD fb [.int .i64 r.e, .int .i64 r.a] 70::arr z.1.o z.1.l.length z.1.c 145 jW z.1.l::aR (z.1.l.flatMap DL.mem)::cK pb (t.length:Int) z.2) (⟨none,0,[]⟩,⟨r.o,r.c,r.l,0⟩)) (aK) ?_;apply aB.loop (σ:=cI×PS) (fun z=>z.1.l.length≤30∧z.2.deep=0∧Fr.parse t=(Fr.defs (30-z.1.l.length) z.2.l).map fun q=>z.1.l.map DL.df ++q.1) (fun z=>[(0,sv t),(2,ptr rb),(3,ptr fb),(5,ptr pb)]) (fun z:cI×PS=>aI w S::bN::aD rb [.slice z.1.o z.1.l.length z.1.c] 68::aD fb [.int .i64 r.e, .int .i64 r.a] 70::arr z.1.o z.1.l.length z.1.c 145 jW z.1.l::aR (z.1.l.flatMap DL.mem)::cK pb (t.length:Int) z.2) (fun z=>30-z.1.l.length) (⟨none,0,[]⟩,⟨r.o,r.c,r.l,0⟩)
 rotate_left
 exact sb;exact aK;intro z hz K hK;(refine Jn ?_)
 rotate_left
 ·exact⟨by simp,rfl,by rw[Fr.parse,htk];simp⟩
 obtain⟨x,y⟩:=z;obtain⟨hx,dy,hρ⟩:=hz;dsimp only at hx dy hρ⊢
 by_cases hl:0<y.l.length
 ·by_cases h30:x.l.length=30
  ·rw[h30,aA1 hl]at hρ
   repeat(refine Fy ?_)
   refine FQ (oZ y) ?_;intro a ha;refine Jn ?_
   repeat(refine Fy ?_)
   refine PQ (nZ y (uN a)) ?_ ?_
   ·intro q hq;refine PO ?_;exact OE rb fb (uN a) hρ
   ·intro z _;exact z.elim
  ·obtain⟨m,hm⟩:∃m,30-x.l.length=m+1:=⟨29-x.l.length,by omega⟩;rw[hm,aA0 hl]at hρ
   repeat(refine Fy ?_)
   apply aB.draw 5 ([aD rb [.slice x.o x.l.length x.c] 68]) (by kernel_rfl) 6 rfl;refine RunT.vD 0 (h:=?_);refine RunT.vD 1 (h:=?_);refine JT 2 ?_;refine aA.pf (aDn y dy) ?_ ?_
   ·intro hq e v;refine PO ?_;exact OE rb fb e (by rw[hρ,hq];rfl)
   intro g v hi dv lv;rw[hi,aU]at hρ;refine JG ?_;refine Jn ?_;(refine JT 3 ?_;(refine Jb ?_;intro b);refine JG ?_);(refine JT 4 ?_;(refine Ja ?_;intro ao cap);refine JG ?_);(refine JT 5 ?_;(refine Jw ?_);refine JG ?_);(apply RunT.done;kernel_rfl)
   repeat(refine Fy ?_)
   rw[show x.l.length+1=(x.l ++[g]).length by simp];apply End.imp (fun w hm=>Mem.x7 (cs:=x.l.flatMap DL.mem) (ds:=g.mem) hm tk tk);rw[show x.l.flatMap DL.mem ++g.mem=(x.l ++[g]).flatMap DL.mem by simp];refine End.bK hK (⟨ao,cap,x.l ++[g]⟩,v) ⟨by simp;omega,dv.trans dy,?_⟩ (by simp;omega);rw[hρ,show 30-(x.l ++[g]).length=m by simp;omega];simp[vX]
 ·have hnil:y.l=[]:=pE (by omega);rw[hnil,aAZ,a8,eH]at hρ
  repeat(refine Fy ?_)
  refine aE.imp (fun w hm=>Mem.aCq x hm tk tk) ?_;apply aE.op (by exact rfl);refine aA.aZ (spec:=YJ x.sU x.o x.c x.l ⟨gU,fun d hd e he=>iO _ (wA.2 ⟨d,hd,he⟩)⟩) (r:=fun w=>Reads.bE tk eZ) (k:=?_);intro f hf;refine Jn ?_;rcases hf with⟨h1, -,hsh⟩|⟨h1,hsh⟩
  ·repeat(refine Fy ?_;try intro b)
   apply aB.draw 3 ([aD rb [.slice x.o x.l.length x.c] 68,aD fb [.int .i64 r.e, .int .i64 r.a] 70]) (by kernel_rfl) 4 rfl;refine RunT.vD 0 (h:=?_);refine RunT.vD 1 (h:=?_);(refine JT 2 ?_;(refine Jw ?_);refine JG ?_);(refine JT 3 ?_;(refine Jw ?_);refine JG ?_);(apply RunT.done;kernel_rfl)
   repeat(refine Fy ?_)
   exact OD rb fb (x,r.e,r.a) (.inl ⟨he,hρ,hsh⟩) tk tk
  ·have h1':decide (f.1=0)=false:=decide_eq_false h1
   repeat(refine Fy ?_;try intro b)
   apply aB.draw 4 ([aD b [.int .i64 f.1, .int .i64 f.2] 70]) (by kernel_rfl) 5 rfl;refine RunT.vD 0 (h:=?_);refine RunT.vD 1 (h:=?_);refine RunT.vD 2 (h:=?_);(refine JT 3 ?_;(refine Jw ?_);refine JG ?_);(refine JT 4 ?_;(refine Jw ?_);refine JG ?_);(apply RunT.done;kernel_rfl)
   repeat(refine Fy ?_)
   apply End.imp (fun w hm=>Mem.LC hm);exact OD rb fb (⟨none,0,[]⟩,f.1,0) (.inr ⟨h1,fun p h=>by rw[hρ]at h;cases h;exact hsh⟩) tk tk
end
theorem aCm{s:aF}{l:List aF}(h:∀j,j<l.length→l.getD j default≠s):s∉l:=fun hs=>by
 obtain⟨j,hj,he⟩:=mS hs;exact h j hj (by rw[Jd,Je hj];exact he)
theorem aG5(ao:Option Addr)(cap:Nat)(l:List aF)(hm:l.length≤1000000000)(s:aF):Fn Tryz.prog 163 #[.slice ao l.length cap,sv s] [rd ao l.length cap eW l] [] (σ:=Int) (fun r=>decide (0≤r)=decide (s∈l)) (fun r=> .int .i64 r) (fun _=>[]):=by
 refine JE [.slice ao l.length cap,sv s] Tryz.func163 Tryz.ntmps163 fun w S=>?_;refine Jn ?_
 repeat(refine Fy ?_)
 refine aB.only ((fun k=>[aI w S,rd ao l.length cap eW l]) 0) (aK) ?_;apply aB.loop (σ:=Nat) (fun k=>k≤l.length∧∀j,j<k→l.getD j default≠s) (fun k=>[(0, .slice ao l.length cap),(1,sv s),(7, .int .i64 (l.length:Int)),(8, .int .i64 (k:Int))]) (fun k=>[aI w S,rd ao l.length cap eW l]) (fun k=>l.length-k) 0
 rotate_left
 exact sb;exact aK;intro k hk K hK;(refine Jn ?_)
 rotate_left
 ·exact⟨bP _,fun j hj=>by omega⟩
 obtain⟨h1,h2⟩:=hk
 by_cases hlt:k<l.length
 ·by_cases he:s=l.getD k default
  ·have he':decide (s=l.getD k default)=true:=decide_eq_true he
   repeat(refine Fy ?_)
   exact End.aH (k:Int) (he:=rfl) (hp:=by rw[decide_eq_true (by omega),decide_eq_true (by rw[he];exact dQ hlt)])
  ·have he':decide (s=l.getD k default)=false:=decide_eq_false he
   repeat(refine Fy ?_)
   refine End.bK hK (k+1) ⟨hlt,fun j hj=>?_⟩ (by omega);rcases vU.1 hj with hj|rfl
   ·exact h2 j hj
   ·exact fun h=>he h.symm
 ·obtain rfl:k=l.length:=by omega
  repeat(refine Fy ?_)
  exact End.aH (-1) (he:=rfl) (hp:=by rw[decide_eq_false (by decide),decide_eq_false (aCm h2)])
theorem F5(ao:Option Addr)(cap:Nat)(l:List aF)(hm:l.length≤1000000000)(s:aF):Fn Tryz.prog 138 #[.slice ao l.length cap,sv s] [rd ao l.length cap eW l] [] (σ:=Unit) (fun _=>True) (fun _=> .bool (decide (s∈l))) (fun _=>[]):=by
 refine JE [.slice ao l.length cap,sv s] Tryz.func138 Tryz.ntmps138 fun w S=>?_;refine Jn ?_
 repeat(refine Fy ?_)
 refine FQ (aG5 ao cap l hm s) ?_;intro r hr;refine Jn ?_
 repeat(refine Fy ?_)
 exact End.aH () (he:=congrArg Value.bool hr) (hp:=trivial)
abbrev fQ(t:Fr.Ty):Value:= .agg #[.int .i64 t.kind,sv t.gen]
theorem uZ(t:Fr.Ty):Fn Tryz.prog 178 #[fQ t] [] [] (σ:=Unit) (fun _=>True) (fun _=> .bool (Fr.cS t)) (fun _=>[]):=by
 refine JE [fQ t] Tryz.func178 Tryz.ntmps178 fun w S=>?_;refine Jn ?_
 repeat(refine Fy ?_;try intro b)
 exact End.aH () (he:=rfl) (hp:=trivial)
theorem zN(t:Fr.Ty):Fn Tryz.prog 179 #[fQ t] [] [] (σ:=Unit) (fun _=>True) (fun _=>fQ (Fr.bare t)) (fun _=>[]):=by
 refine JE [fQ t] Tryz.func179 Tryz.ntmps179 fun w S=>?_;refine Jn ?_
 repeat(refine Fy ?_;try intro b)
 refine FQ (uZ t) ?_;intro u hu;refine Jn ?_;rcases qC (Fr.cS t)with h|h
 ·repeat(refine Fy ?_)
  exact End.eK () (he:=by unfold Fr.bare;rw[if_pos h]) (hp:=trivial)
 ·repeat(refine Fy ?_)
  exact End.eK () (he:=by unfold Fr.bare;rw[if_neg (by rw[h];decide)]) (hp:=trivial)
theorem rV:Fn Tryz.prog 208 #[] [] [] (σ:=Unit) (fun _=>True) (fun _=>fQ Fr.kE) (fun _=>[]):=by
 refine JE [] Tryz.func208 Tryz.ntmps208 fun w S=>?_;refine Jn ?_
 repeat(refine Fy ?_;try intro b)
 exact End.eK () (he:=rfl) (hp:=trivial)
theorem tJ:Fn Tryz.prog 199 #[] [] [] (σ:=Unit) (fun _=>True) (fun _=>fQ Fr.gJ) (fun _=>[]):=by
 refine JE [] Tryz.func199 Tryz.ntmps199 fun w S=>?_;refine Jn ?_
 repeat(refine Fy ?_;try intro b)
 exact End.eK () (he:=rfl) (hp:=trivial)
abbrev eJ(x:cI)(i:Nat):Value:= .pointer (some ⟨ob x.o,oo x.o+i*sz jW,none⟩)
abbrev fO(q mb:Nat)(x:cI)(l:List (aF×Nat)):List Chunk:=[aD q [.slice x.o x.l.length x.c, .map (some mb)] 293,mp mb (eJ x) l]
abbrev IB(x:cI):Option Nat→Value
 |none=> .pointer none
 |some i=>eJ x i
def isKind(x:cI)(k:Int):Option Nat→Bool
 |none=>false
 |some i=>decide ((x.l.getD i default).kind=k)
theorem FW(q mb:Nat)(cs:List Chunk)(x:cI)(h:nL cs x.o x.c x.l)(l:List (aF×Nat))(hl:∀s i,bC l s=some i→i<x.l.length)(k:Int)(s:aF):Fn Tryz.prog 187 #[ptr q, .int .i64 k,sv s] [bE cs] (fO q mb x l) (σ:=Unit) (fun _=>True) (fun _=> .tuple #[IB x (bC l s), .bool (isKind x k (bC l s))]) (fun _=>fO q mb x l):=by
 refine JE [ptr q, .int .i64 k,sv s] Tryz.func187 Tryz.ntmps187 fun w S=>?_;refine Jn ?_
 cases hm:bC l s with
 |none=>
  repeat(refine Fm ?_)
  exact End.oO () (he:=rfl) (hp:=trivial)
 |some i=>
  have hd:=(h.at (hl s i hm)).has
  repeat(refine Fm ?_)
  exact End.oO () (he:=rfl) (hp:=trivial)
theorem aFN(q mb:Nat)(cs:List Chunk)(x:cI)(h:nL cs x.o x.c x.l)(l:List (aF×Nat))(hl:∀s i,bC l s=some i→i<x.l.length)(t:Fr.Ty):Fn Tryz.prog 177 #[ptr q,fQ t] [bE cs] (fO q mb x l) (σ:=Int) (fun e=>e=0↔(Fr.cS t||isKind x 3 (bC l t.gen))=true) (fun e=> .int .i64 e) (fun _=>fO q mb x l):=by
 refine JE [ptr q,fQ t] Tryz.func177 Tryz.ntmps177 fun w S=>?_;refine Jn ?_
 repeat(refine Fm ?_;try intro b)
 refine FQ (uZ t) ?_;intro u hu;refine Jn ?_;rcases qC (Fr.cS t)with hp|hp
 ·repeat(refine Fm ?_)
  exact End.aH 0 (he:=rfl) (hp:=by rw[hp];simp)
 repeat(refine Fm ?_)
 refine FQ (FW q mb cs x h l hl 3 t.gen) ?_;intro v hv;refine Jn ?_;rcases qC (isKind x 3 (bC l t.gen))with hk|hk
 ·repeat(refine Fm ?_)
  exact End.aH 0 (he:=rfl) (hp:=by rw[hk];simp)
 ·repeat(refine Fm ?_)
  exact End.aH 7 (he:=rfl) (hp:=by rw[hk,hp];simp)
structure Sc where
 b:Nat
 l:List (aF×Fr.Ty)
instance:Inhabited Sc:=⟨⟨0,[]⟩⟩
def nV(s:Sc):List Value:=[.map (some s.b)]
instance:bF nV:=⟨fun _=>rfl,by decide,fun a u hu=>by simp[nV]at hu;subst hu;rfl⟩
abbrev kC(s:Sc):Chunk:=mp s.b fQ s.l
structure SC where
 pg:Value
 df:Value
 o:Option Addr
 c:Nat
 bs:List Sc
abbrev CL(q:Nat)(x:SC):List Chunk:=[aD q [x.pg,x.df, .slice x.o x.bs.length x.c] 316,arr x.o x.bs.length x.c 313 nV x.bs,aR (x.bs.map kC)]
abbrev iF(l:List Sc):Fr.Scope:=(l.map (·.l)).reverse
theorem EY(l:List (aF×Fr.Ty))(s:aF):bC l s=Fr.at_ l s:=by
 induction l with
 |nil=>rfl
 |cons p r ih=>
  obtain⟨q,a⟩:=p;unfold Fr.at_ at ih⊢;rw[bC,xW]
  by_cases h:q=s
  ·simp[h]
  ·simp[h,ih]
theorem tF{α β:Type} [Inhabited α](f:α→β):∀{l:List α} {i:Nat},i<l.length→(l.map f).Perm ([f (l.getD i default)] ++(l.eraseIdx i).map f)
 |[],i,h=>by simp at h
 |a::l,0,h=>by simp
 |a::l,i+1,h=>by
  have:=tF f (l:=l) (i:=i) (by simpa using h);simp only[eG,List.getD_cons_succ,List.eraseIdx_cons_succ];exact(List.Perm.cons _ this).trans (List.Perm.swap _ _ _)
abbrev aCU:Option Fr.Ty→Value
 |some t=> .tuple #[fQ t, .bool true]
 |none=> .tuple #[fQ default, .bool false]
theorem MN{l:List Sc}{k:Nat}(h:k<l.length):iF (l.take (k+1))=(l.getD k default).l::iF (l.take k):=by
 unfold iF;rw[mI h];simp
theorem MK(q:Nat)(x:SC)(hx:x.bs.length≤1000000000)(s:aF):Fn Tryz.prog 197 #[ptr q,sv s] [] (CL q x) (σ:=Unit) (fun _=>True) (fun _=>aCU (Fr.eL (iF x.bs) s)) (fun _=>CL q x):=by
 refine JE [ptr q,sv s] Tryz.func197 Tryz.ntmps197 fun w S=>?_;refine Jn ?_
 repeat(refine Fy ?_;try intro b)
 obtain⟨rb,rfl⟩:∃x,x=b:=⟨_,rfl⟩;refine aB.only ((fun j=>aI w S::aD rb [.int .i64 0,sv []] 141::CL q x) x.bs.length) (aK) ?_;apply aB.loop (σ:=Nat) (fun j=>j≤x.bs.length∧Fr.eL (iF (x.bs.take j)) s=Fr.eL (iF x.bs) s) (fun j=>[(0,ptr q),(1,sv s),(4,ptr rb),(5, .bool false),(6, .int .i64 ((j:Int)-1))]) (fun j=>aI w S::aD rb [.int .i64 0,sv []] 141::CL q x) (fun j=>j) x.bs.length
 rotate_left
 exact sb;exact aK;intro j hj K hK;(refine Jn ?_)
 rotate_left
 ·exact⟨cG _,by rw[l4]⟩
 obtain⟨h1,h2⟩:=hj
 by_cases h0:j=0
 ·subst h0
  repeat(refine Fy ?_)
  exact End.dK () (he:=by rw[←h2];rfl) (hp:=trivial)
 obtain⟨k,rfl⟩:∃k,j=k+1:=⟨j-1,by omega⟩;rw[show((k+1:Nat):Int)-1=(k:Int) by omega];have hlt:k<x.bs.length:=by omega
 rw[MN hlt]at h2;apply aB.imp (fun w hm=>hm.nO tk (tF kC hlt))
 cases hm:bC (x.bs.getD k default).l s with
 |some t=>
  repeat(refine Fy ?_;try intro b)
  apply End.imp (fun w hm=>hm.mA (es:=(x.bs.eraseIdx k).map kC) tk (.cons tk .nil) (tF kC hlt) (by simp[kC,j6]));exact End.dK () (he:=by rw[←h2,Fr.eL,←EY,hm]) (hp:=trivial)
 |none=>
  repeat(refine Fy ?_;try intro b)
  apply End.imp (fun w hm=>hm.mA (es:=(x.bs.eraseIdx k).map kC) tk (.cons tk .nil) (tF kC hlt) (by simp[kC,j6]));exact End.bK hK k ⟨by omega,by rw[←h2,Fr.eL,←EY,hm]⟩ (by omega)
end Vw
namespace Vw
open Go Go.RowKit Img
theorem aEw(x y:Fr.Ty)(w:World):(Op.equalIn 10000 141 (fQ x) (fQ y)).run Tryz.prog w= .ok (decide (x=y)) w:=by
 have a1:=Tryz.underlying2;have a2:=Tryz.underlying9;have a3:=Tryz.underlying3;have hS:Tryz.prog.underlying 141=some (.struct (Tryz.prog.fieldsOf 141)):=by kernel_rfl
 have hp:Tryz.prog.stoodInHeld 141=false:=by kernel_rfl
 obtain⟨a,b⟩:=x;obtain⟨a',b'⟩:=y;rw[show(10000:Nat)=9999+1 from rfl,run_equalIn_agg w 9999 141 _ _ hS hp];simp only[Program.fieldsOf,Tryz.underlying141]
 go_simp
 by_cases h1:a=a'
 ·by_cases h2:b=b'<;>simp[h1,h2]
 ·simp[h1]
section
variable{N:Nd}{E:Env}{L:List Chunk}{dst:Option Tmp}{ty:TypeId}{pos:String}{aft:Array Edge}{g:Option (Nat×Bool)}
theorem Still.SP{x y:Operand}{a b:Fr.Ty}(hx:ev E x=some (fQ a))(hy:ev E y=some (fQ b)):Still Tryz.prog N ⟨dst, .binOp .neq 141 x y 141,ty,pos,aft,g⟩ E L (.bool (!decide (a=b))):=fun A w hs _=>by
 have h:=aEw a b w;simp[execOp,hs.ev hx,hs.ev hy,eqGuard,binOp,Op.equal,Op.maxDepth,h]
end
end Vw
section
section
open Go Go.RowKit
variable{P:Program}{ops:Array Oper}{Q:Exit→Act→World→Prop}{N:Nd}{e:Nat}{LT:List Chunk}{E:Env}{L F:List Chunk}{fuel:Nat}{listed:Array Bool}
theorem RunT.aDd(i:Nat){o:Oper}{j:Nat}{want:Bool}(h:aA P Q N o E L (fun E' L'=>Good e LT (listed.setIfInBounds i true) L'∧RunT P ops Q N e LT fuel (listed.setIfInBounds i true) E' L'))(ho:ops[i]?=some o:=by exact rfl)(hr:Region.ready .any ops listed=[i]:=by kernel_rfl)(hg:o.guard=some (j,want):=by exact rfl)(hgd:gd ops E j=some (.bool want):=by exact rfl):RunT P ops Q N e LT (fuel+1) listed E L:=
 fun a w hs hM=>TA hr ho fun K' hK'=>by
  rw[if_pos (by rw[tQ hs hg hgd];simp)];exact h K' (fun E' L' hc a w hs hm=>hK' a w (hc.1.imp id fun⟨F,t⟩=>(hm.aS t).left) (hc.2 a w hs hm)) a w hs hM
end
end
namespace Vw
open Go.RowKit Img
section
attribute [local irreducible] aE aB End aA Still aM aP RunT Fn aO
structure SE where
 q:Nat
 p:Nat
 mb:Nat
 x:cI
 ns:List (aF×Nat)
 di:Nat
 o:Option Addr
 c:Nat
 bs:List Sc
namespace SE
abbrev sc(s:SE):SC:=⟨ptr s.p,eJ s.x s.di,s.o,s.c,s.bs⟩
abbrev m(s:SE):List Chunk:=CL s.q s.sc ++fO s.p s.mb s.x s.ns
abbrev P(s:SE):List Fr.Df:=s.x.l.map DL.df
abbrev D(s:SE):Fr.Df:=(s.x.l.getD s.di default).df
abbrev B(s:SE):Fr.Scope:=iF s.bs
end SE
structure SE.Ok(cs:List Chunk)(s:SE):Prop where
 jX:nL cs s.x.o s.x.c s.x.l
 di:s.di<s.x.l.length
 lt:∀n i,bC s.ns n=some i→i<s.x.l.length
 ns:∀n,(bC s.ns n).map (fun i=>(s.x.l.getD i default).df)=Fr.kP s.P n
 dY:s.bs.length≤1000000000
abbrev vS(cs:List Chunk)(s:SE)(x:EL):Prop:=∀b o,mQ cs b o x→Fn Tryz.prog 196 #[ptr s.q, .pointer (some ⟨b,o,none⟩)] [bE cs,bN] s.m (σ:=Fr.Ty×Int) (fun r=>(r.2=0∧Fr.b5 s.P s.D s.B x.ex=some r.1)∨(r.2≠0∧Fr.b5 s.P s.D s.B x.ex=none)) (fun r=> .tuple #[fQ r.1, .int .i64 r.2]) (fun _=>s.m)
theorem rX(cs:List Chunk)(s:SE)(x:EL)(hE:vS cs s x)(t:Fr.Ty)(xb o:Nat)(hx:mQ cs xb o x):Fn Tryz.prog 198 #[ptr s.q, .pointer (some ⟨xb,o,none⟩),fQ t] [bE cs,bN] s.m (σ:=Int) (fun e=>e=0↔(Fr.same (Fr.b5 s.P s.D s.B x.ex) t).isSome=true) (fun e=> .int .i64 e) (fun _=>s.m):=by
 refine JE [ptr s.q, .pointer (some ⟨xb,o,none⟩),fQ t] Tryz.func198 Tryz.ntmps198 fun w S=>?_;refine Jn ?_
 repeat(refine Fm ?_;try intro b)
 obtain⟨tb,rfl⟩:∃x,x=b:=⟨_,rfl⟩;refine FQ (hE xb o hx) ?_;intro r hr;refine Jn ?_;rcases hr with⟨h1,h2⟩|⟨h1,h2⟩
 ·have h1':decide (r.2=0)=true:=decide_eq_true h1
  repeat(refine Fm ?_;try intro b)
  apply aB.draw 8 ([aD b [.int .i64 r.1.kind,sv r.1.gen] 141,aD tb [.int .i64 t.kind,sv t.gen] 141]) (by kernel_rfl) 8 rfl;refine JN 0 ?_;refine JN 1 ?_;refine JN 2 ?_;refine RunT.part (d:=17) (decide (r.2=0)) rfl (fun _=>?_) (fun h=>absurd h1 (of_decide_eq_false h));refine RunT.eN 3 (h:=?_);refine RunT.eN 4 (h:=?_);refine RunT.aDd 5 (h:=?_);refine aA.aZ (spec:=zN t) (r:=fun w=>eZ) (k:=?_);intro u hu;refine JG ?_;refine Jn ?_;refine RunT.eN 6 (hy:=Still.SP (a:=r.1) (b:=Fr.bare t) rfl rfl) (h:=?_);refine JN 7 ?_;(apply RunT.done;kernel_rfl)
  by_cases h3:r.1=Fr.bare t
  ·repeat(refine Fm ?_)
   exact End.aH r.2 (he:=rfl) (hp:=⟨fun _=>by rw[h2,Fr.same,aU,if_pos h3];rfl,fun _=>h1⟩)
  ·repeat(refine Fm ?_)
   exact End.aH 9 (he:=rfl) (hp:=⟨fun h=>absurd h (by decide),fun h=>by rw[h2,Fr.same,aU,if_neg h3]at h;cases h⟩)
 ·have h1':decide (r.2=0)=false:=decide_eq_false h1
  repeat(refine Fm ?_;try intro b)
  apply aB.draw 8 ([]) (by kernel_rfl) 8 rfl;refine JN 0 ?_;refine JN 1 ?_;refine JN 2 ?_;refine RunT.part (d:=17) (decide (r.2=0)) rfl (fun h=>absurd (of_decide_eq_true h) h1) (fun _=>?_);refine RunT.lK 3 (h:=?_);refine RunT.lK 4 (h:=?_);refine RunT.lK 5 (h:=?_);refine RunT.lK 6 (h:=?_);refine JN 7 ?_;(apply RunT.done;kernel_rfl)
  repeat(refine Fm ?_)
  exact End.aH r.2 (he:=rfl) (hp:=⟨fun h=>absurd h h1,fun h=>by rw[h2]at h;cases h⟩)
def zA(s:SE)(l:List EL):Bool:=match Fr.kK s.P s.D s.B (EL.bT l)with
 |some [a,b]=>decide (a=b)&&Fr.cS a
 |_=>false
theorem S5(s:SE)(u v:EL):zA s [u,v]=match Fr.b5 s.P s.D s.B u.ex,Fr.b5 s.P s.D s.B v.ex with
 |some a,some b=>decide (a=b)&&Fr.cS a
 |_,_=>false:=by
 unfold zA;simp only[sW,eG,qE,Fr.kK]
 cases Fr.b5 s.P s.D s.B u.ex<;>cases Fr.b5 s.P s.D s.B v.ex<;>rfl
theorem aFE(cs:List Chunk)(s:SE)(x u v:EL)(hk:x.kids=[u,v])(hE:∀y∈x.kids,vS cs s y)(xb o:Nat)(hx:mQ cs xb o x):Fn Tryz.prog 209 #[ptr s.q, .pointer (some ⟨xb,o,none⟩)] [bE cs,bN] s.m (σ:=Fr.Ty×Int) (fun r=>r.2=0↔zA s x.kids=true) (fun r=> .tuple #[fQ r.1, .int .i64 r.2]) (fun _=>s.m):=by
 have h2:x.kids.length=2:=by rw[hk];rfl
 have hX:=hx.has;have ha:=hx.arr;have k0:=hx.lF (i:=0) (by omega);have k1:=hx.lF (i:=1) (by omega);have e0:=hE u (by rw[hk];simp);have e1:=hE v (by rw[hk];simp);rw[show x.kids.getD 0 default=u by rw[hk];rfl]at k0;rw[show x.kids.getD 1 default=v by rw[hk];rfl]at k1;rw[show zA s x.kids=_ from((congrArg (zA s) hk).trans (S5 s u v))];refine JE [ptr s.q, .pointer (some ⟨xb,o,none⟩)] Tryz.func209 Tryz.ntmps209 fun w S=>?_;refine Jn ?_
 repeat(refine Fm ?_;try intro b)
 apply aE.op (by exact rfl);refine aA.b8 (h:=Still.uH (i:=0) (f:=dU) (l:=x.kids) rfl rfl tk ha rfl rfl rfl rfl (by omega)) (k:=?_)
 repeat(refine Fm ?_)
 obtain⟨rb,rfl⟩:∃x,x=b:=⟨_,rfl⟩;refine FQ (e0 _ _ k0) ?_;intro f hf;refine Jn ?_;rcases hf with⟨f1,f2⟩|⟨f1,f2⟩
 rotate_left
 ·have f1':decide (f.2=0)=false:=decide_eq_false f1
  repeat(refine Fm ?_;try intro b)
  exact End.dK f (he:=rfl) (hp:=⟨fun h=>absurd h f1,fun h=>by rw[f2]at h;cases h⟩)
 obtain⟨ft,fe⟩:=f;dsimp only at f1 f2;subst f1
 repeat(refine Fm ?_;try intro b)
 obtain⟨tb,rfl⟩:∃x,x=b:=⟨_,rfl⟩;refine FQ (e1 _ _ k1) ?_;intro g hg;refine Jn ?_;rcases hg with⟨g1,g2⟩|⟨g1,g2⟩
 rotate_left
 ·have g1':decide (g.2=0)=false:=decide_eq_false g1
  repeat(refine Fm ?_;try intro b)
  exact End.dK (ft,g.2) (he:=rfl) (hp:=⟨fun h=>absurd h g1,fun h=>by rw[f2,g2]at h;cases h⟩)
 obtain⟨gt,ge⟩:=g;dsimp only at g1 g2;subst g1;rw[f2,g2]
 repeat(refine Fm ?_;try intro b)
 refine aE.gL (h:=?_);refine aA.b8 (h:=Still.SP (a:=ft) (b:=gt) rfl rfl) (k:=?_)
 by_cases hab:ft=gt
 ·have hab':decide (ft=gt)=true:=decide_eq_true hab
  repeat(refine Fm ?_)
  refine FQ (uZ ft) ?_;intro z hz;refine Jn ?_;rcases qC (Fr.cS ft)with hp|hp
  ·repeat(refine Fm ?_)
   exact End.dK (ft,0) (he:=rfl) (hp:=⟨fun _=>by dsimp only;rw[hab',hp];rfl,fun _=>rfl⟩)
  ·repeat(refine Fm ?_)
   exact End.dK (ft,9) (he:=rfl) (hp:=⟨fun h=>absurd (show(9:Int)=0 from h) (by decide),fun h=>by dsimp only at h;rw[hp,Bool.and_false]at h;cases h⟩)
 ·have hab':decide (ft=gt)=false:=decide_eq_false hab
  repeat(refine Fm ?_)
  exact End.dK (ft,9) (he:=rfl) (hp:=⟨fun h=>absurd (show(9:Int)=0 from h) (by decide),fun h=>by dsimp only at h;rw[hab']at h;cases h⟩)
end
end Vw
namespace Fr
open ImgM
def kX(P:List Df)(B:Scope):Prop:=∀b∈B,∀p∈b,iX P p.2=true
theorem at_mem{α:Type}{m:List (aF×α)}{s:aF}{t:α}(h:at_ m s=some t):(s,t)∈m:=by
 unfold at_ at h;obtain⟨p,hp,rfl⟩:=dG.1 h;have h1:=AR hp;have h2:=List.find?_some hp;simp only[JV]at h2;subst h2;exact h1
theorem R1{α:Type}:∀{B:List (List (aF×α))} {s:aF} {t:α},eL B s=some t→∃b∈B,(s,t)∈b
 |[],s,t,h=>by cases h
 |b::r,s,t,h=>by
  unfold eL at h
  split at h
  ·next t' e=>cases h;exact⟨b,gU,at_mem e⟩
  ·obtain⟨c,h1,h2⟩:=R1 h;exact⟨c,iO _ h1,h2⟩
section
variable{P:List Df}{D d:Df}{B:Scope}{k:Int}{s:aF}
theorem yC(h:kP P s=some d):d∈P∧d.name=s:=⟨AR h,by simpa using List.find?_some h⟩
theorem qO(h:jY P k s=some d):kP P s=some d∧d.kind=k:=by
 unfold jY at h;obtain⟨x,h1,h2⟩:=bO.1 h
 split at h2<;>cases h2
 exact⟨h1,by assumption⟩
theorem CD{t:Ty}(h:cS t=true):iX P t=true:=by unfold iX;rw[h];rfl
theorem CB{t:Ty}(h:cS t=true):cS (bare t)=true:=by unfold bare;rw[if_pos h];exact h
theorem D8(h:iT P d=true)(hk:d.kind≠4):cS d.type=true:=by
 unfold iT at h;simp only[JX]at h;have:=h.2;rw[decide_eq_false hk]at this;simpa using this
theorem aBg(h:iT P d=true)(hk:d.kind=3):cS d.aS=true:=by
 unfold iT at h;simp only[JX]at h;have:=h.1.2;rw[decide_eq_true hk]at this;simpa using this
theorem I6(h:iT P d=true)(hk:d.kind=2∨d.kind=3):(d.params.map (·.name)).Nodup∧∀p∈d.params,iX P p.type=true:=by
 unfold iT at h;simp only[JX]at h;have:=h.1.1;have e:(decide (d.kind=2)||decide (d.kind=3))=true:=by simpa using hk
 rw[e]at this;simpa using this
theorem FD{t:Ty}(h:iX P t=true)(hp:cS t=false):∃d,jY P 3 t.gen=some d:=by
 unfold iX at h;rw[hp,Bool.false_or]at h;exact lN.1 h
theorem CS(hH:∀d∈P,iT P d=true)(hD:D∈P)(hB:kX P B):∀(x:Ex) (t:Ty),b5 P D B x=some t→iX P t=true
 | .mk k n s l,t,h=>by
  rw[b5]at h
  by_cases h1:k=1
  ·rw[if_pos h1]at h;cases h;rfl
  rw[if_neg h1]at h
  by_cases h2:k=2
  ·rw[if_pos h2]at h;cases h;rfl
  rw[if_neg h2]at h
  by_cases h3:k=3
  ·rw[if_pos h3]at h;obtain⟨b,hb,hm⟩:=R1 h;exact hB b hb _ hm
  rw[if_neg h3]at h
  by_cases h4:k=4
  ·rw[if_pos h4]at h;obtain⟨_,_,rfl⟩:=dG.1 h;rfl
  rw[if_neg h4]at h
  by_cases h5:k=5
  ·rw[if_pos h5]at h;obtain⟨_,_,rfl⟩:=dG.1 h;rfl
  rw[if_neg h5]at h
  by_cases h11:k=11∨k=12
  ·rw[if_pos h11]at h;obtain⟨ts,_,h⟩:=bO.1 h
   split at h
   ·split at h<;>cases h;rfl
   ·cases h
  rw[if_neg h11]at h
  by_cases h19:k=19
  ·rw[if_pos h19]at h;obtain⟨d,hd,h⟩:=bO.1 h;obtain⟨_,_,rfl⟩:=dG.1 h;obtain⟨e1,e2⟩:=qO hd;exact CD (CB (D8 (hH d (yC e1).1) (by omega)))
  rw[if_neg h19]at h
  by_cases h20:k=20
  ·rw[if_pos h20]at h;obtain⟨d,hd,rfl⟩:=dG.1 h;obtain⟨e1,e2⟩:=qO hd;exact CD (CB (D8 (hH d (yC e1).1) (by omega)))
  rw[if_neg h20]at h
  by_cases h21:k=21
  ·rw[if_pos h21]at h
   split at h
   ·next hk=>
    obtain⟨_,_,rfl⟩:=dG.1 h;exact CD (CB (aBg (hH D hD) hk))
   ·cases h
  rw[if_neg h21]at h
  by_cases h22:k=22
  ·rw[if_pos h22]at h;obtain⟨d,hd,h⟩:=bO.1 h;obtain⟨_,_,rfl⟩:=dG.1 h;unfold iX;rw[hd];simp
  rw[if_neg h22]at h
  by_cases h23:k=23
  ·rw[if_pos h23]at h;obtain⟨ts,hts,h⟩:=bO.1 h
   split at h
   ·next a b=>
    split at h
    ·cases h
    ·next hp=>
     obtain⟨d,hd,h⟩:=bO.1 h
     split at h<;>cases h
     cases l with
     |nil=>cases hts
     |cons x r=>
      rw[kK]at hts;obtain⟨u,hu,hts⟩:=bO.1 hts;obtain⟨us,_,e⟩:=dG.1 hts
      cases e
      have ih:=CS hH hD hB x a hu;obtain⟨d',hd'⟩:=FD ih (by simpa using hp);obtain⟨e1,e2⟩:=qO hd';rw[hd]at e1;cases e1;exact CD (CB (D8 (hH d (yC hd).1) (by omega)))
   ·cases h
  rw[if_neg h23]at h
  by_cases h24:k=24
  ·rw[if_pos h24]at h;obtain⟨ts,_,h⟩:=bO.1 h
   split at h
   ·split at h<;>cases h;rfl
   ·cases h
  rw[if_neg h24]at h;obtain⟨_,_,rfl⟩:=dG.1 h
  by_cases h13:13≤k
  ·rw[if_pos h13];rfl
  ·rw[if_neg h13];rfl
termination_by x=>SizeOf.sizeOf x
theorem uW(h:kX P B):kX P ([]::B):=fun b hb=>by
 rcases eB.1 hb with rfl|hb
 ·simp
 ·exact h b hb
theorem NM{k:Int}{x:Ex}{b e:List St}{B':Scope}(h:mK P D B (.mk k s x b e)=some B'):(k=1→∃t c r,b5 P D B x=some t∧eL B s=none∧B=c::r∧B'=(c ++[(s,t)])::r)∧(k≠1→B'=B):=by
 rw[mK]at h
 by_cases h1:k=1
 ·rw[if_pos h1]at h;obtain⟨t,ht,h⟩:=bO.1 h;refine⟨fun _=>?_,fun h=>absurd h1 h⟩
  split at h
  ·cases h
  ·next hl=>
   split at h
   ·cases h
   ·cases h;exact⟨t,_,_,ht,by simpa using hl,rfl,rfl⟩
 rw[if_neg h1]at h;refine⟨fun h=>absurd h h1,fun _=>?_⟩
 repeat' split at h
 all_goals first|(cases h;rfl)|(cases h;done)|skip
 all_goals (try simp only[bO,dG]at h)
 ·obtain⟨_,_,_,_,h⟩:=h;exact h.symm
 ·obtain⟨_,_,_,_,h⟩:=h;cases h;rfl
 ·obtain⟨_,_,_,_,_,_,h⟩:=h;exact h.symm
 ·obtain⟨_,_,h⟩:=h;exact h.symm
 ·obtain⟨_,_,_,_,h⟩:=h;exact h.symm
 ·obtain⟨_,_,h⟩:=h
  split at h<;>cases h;rfl
 ·obtain⟨_,_,h⟩:=h;exact h.symm
theorem WW{x:St}{B':Scope}(h:mK P D B x=some B'):B'=B∨∃s y t c r,b5 P D B y=some t∧B=c::r∧B'=(c ++[(s,t)])::r:=by
 obtain⟨k,s,x,b,e⟩:=x;obtain⟨h1,h2⟩:=NM h
 by_cases hk:k=1
 ·obtain⟨t,c,r,a, -,b,e⟩:=h1 hk;exact .inr ⟨s,x,t,c,r,a,b,e⟩
 ·exact .inl (h2 hk)
theorem GH(hH:∀d∈P,iT P d=true)(hD:D∈P)(hB:kX P B){x:St}{B':Scope}(h:mK P D B x=some B'):kX P B':=by
 rcases WW h with rfl|⟨s,y,t,c,r,ht,rfl,rfl⟩
 ·exact hB
 ·intro b hb p hp;rcases eB.1 hb with rfl|hb
  ·rcases dH.1 hp with hp|hp
   ·exact hB _ gU p hp
   ·rw[gD.1 hp];exact CS hH hD hB _ _ ht
  ·exact hB b (iO _ hb) p hp
theorem NN{x:St}{B':Scope}(h:mK P D B x=some B'):B'.tail=B.tail∧B'.length=B.length:=by
 rcases WW h with rfl|⟨s,y,t,c,r,ht,rfl,rfl⟩
 ·exact⟨rfl,rfl⟩
 ·exact⟨rfl,rfl⟩
end
end Fr
namespace Vw
open Go.RowKit Img
mutual
def EL.fF:EL→Prop
 | .mk k n s _ _ l=>Fr.m8 k n s l.length=true∧EL.gW l
def EL.gW:List EL→Prop
 |[]=>True
 |x::l=>x.fF∧EL.gW l
end
theorem EL.gW.all:∀{l:List EL},EL.gW l→∀x∈l,x.fF
 |[],_,x,hx=>by simp at hx
 |y::l,h,x,hx=>by
  rw[EL.gW]at h;rcases eB.1 hx with rfl|hx
  ·exact h.1
  ·exact EL.gW.all h.2 x hx
theorem EL.fF.head{x:EL}(h:x.fF):Fr.m8 x.k x.n x.s x.kids.length=true:=by
 cases x;rw[EL.fF]at h;exact h.1
theorem EL.fF.kids{x:EL}(h:x.fF):∀y∈x.kids,y.fF:=by
 cases x;rw[EL.fF]at h;exact h.2.all
mutual
theorem VO:∀(x:EL) (d c c':Nat),Fr.iD d x.ex c=some c'→x.fF
 | .mk k n s o cc l,d,c,c',h=>by
  rw[EL.ex,Fr.iD]at h;obtain⟨c1, -,h⟩:=bO.1 h;rw[sW,Jf,←sW]at h
  split at h
  ·next hh=>rw[EL.fF];exact⟨hh,VP l _ _ _ h⟩
  ·cases h
theorem VP:∀(l:List EL) (d c c':Nat),Fr.iW d (EL.bT l) c=some c'→EL.gW l
 |[],_,_,_,_=>by rw[EL.gW];trivial
 |x::l,d,c,c',h=>by
  rw[EL.bT,Fr.iW]at h;obtain⟨c1,h1,h⟩:=bO.1 h;rw[EL.gW];exact⟨VO x _ _ _ h1,VP l _ _ _ h⟩
end
theorem aDJ{d c c':Nat}(h:Fr.nd d c=some c'):d≤40:=by
 unfold Fr.nd at h
 by_cases h1:2000<c+1∨40<d
 ·rw[if_pos h1]at h;cases h
 ·omega
mutual
def aJ.fF:aJ→Nat→Prop
 | .mk k s x _ _ b _ _ e,d=>d≤40∧Fr.s4 k s=true∧(k≠6→x.fF)∧(k=3∨k=4→b.length≤50∧aJ.gW b (d+1))∧(k=3→e.length≤50∧aJ.gW e (d+1))
def aJ.gW:List aJ→Nat→Prop
 |[],_=>True
 |x::l,d=>x.fF d∧aJ.gW l d
end
theorem aJ.gW.all:∀{l:List aJ} {d:Nat},aJ.gW l d→∀x∈l,x.fF d
 |[],_,_,x,hx=>by simp at hx
 |y::l,d,h,x,hx=>by
  rw[aJ.gW]at h;rcases eB.1 hx with rfl|hx
  ·exact h.1
  ·exact aJ.gW.all h.2 x hx
theorem aJ.fF.get{x:aJ}{d:Nat}(h:x.fF d):d≤40∧Fr.s4 x.k x.s=true∧(x.k≠6→x.x.fF)∧(x.k=3∨x.k=4→x.body.length≤50∧aJ.gW x.body (d+1))∧(x.k=3→x.eY.length≤50∧aJ.gW x.eY (d+1)):=by
 cases x;rw[aJ.fF]at h;exact h
mutual
theorem aG6:∀(x:aJ) (d c c':Nat),Fr.jO d x.st c=some c'→x.fF d
 | .mk k s x _ _ b _ _ e,d,c,c',h=>by
  rw[aJ.st,Fr.jO]at h;obtain⟨c1,h1,h⟩:=bO.1 h;have hd:=aDJ h1;rw[aJ.fF]
  split at h
  ·next hh=>
   refine⟨hd,hh,?_⟩
   split at h
   ·next h6=>subst h6;exact⟨fun h=>absurd rfl h,fun h=>by omega,fun h=>by omega⟩
   ·next h6=>
    obtain⟨c2,h2,h⟩:=bO.1 h;obtain⟨c3,h3,h⟩:=bO.1 h;refine⟨fun _=>VO x _ _ _ h2,fun h34=>?_,fun h33=>?_⟩
    ·rw[if_pos h34]at h3
     split at h3
     ·cases h3
     ·next hl=>exact⟨by rw[xJ,Jf]at hl;omega,F6 b _ _ _ h3⟩
    ·rw[if_pos h33]at h
     split at h
     ·cases h
     ·next hl=>exact⟨by rw[xJ,Jf]at hl;omega,F6 e _ _ _ h⟩
  ·cases h
theorem F6:∀(l:List aJ) (d c c':Nat),Fr.dZ d (aJ.bR l) c=some c'→aJ.gW l d
 |[],_,_,_,_=>by rw[aJ.gW];trivial
 |x::l,d,c,c',h=>by
  rw[aJ.bR,Fr.dZ]at h;obtain⟨c1,h1,h⟩:=bO.1 h;rw[aJ.gW];exact⟨aG6 x _ _ _ h1,F6 l _ _ _ h⟩
end
theorem EL.fF.len{x:EL}(h:x.fF):1≤x.k∧x.k≤24∧(0≤Fr.gA x.k→(x.kids.length:Int)=Fr.gA x.k)∧x.kids.length≤6:=by
 obtain⟨nm, -, -,h1⟩:=I7 x.k x.n x.s x.kids.length;have h2:=h1.1 h.head;refine⟨h2.1,h2.2.1,fun h3=>?_,?_⟩
 ·have:=h2.2.2.2.2.2.1;omega
 ·have h4:=h2.2.2.2.2.2.1;have h5:=h2.2.2.2.2.2.2;have h6:Fr.gA x.k≤2:=by
   unfold Fr.gA
   repeat' split
   all_goals omega
  omega
structure SE.Kn(cs:List Chunk)(s:SE):Prop extends SE.Ok cs s where
 nS:∀d∈s.P,Fr.iT s.P d=true
 dW:Fr.kX s.P s.B
section
variable{cs:List Chunk}{s:SE}
theorem SE.IC(i:Nat)(hi:i<s.x.l.length):(s.x.l.getD i default).df∈s.P:=lO (dQ hi)
theorem SE.Kn.b7(h:SE.Kn cs s){x:Fr.Ex}{t:Fr.Ty}(ht:Fr.b5 s.P s.D s.B x=some t):Fr.iX s.P t=true:=Fr.CS h.nS (SE.IC _ h.di) h.dW x t ht
theorem SE.Ok.SU(h:SE.Ok cs s){n:aF}(hn:bC s.ns n=none):Fr.kP s.P n=none:=by rw[←h.ns n,hn];rfl
theorem SE.Ok.EC(h:SE.Ok cs s){n:aF}{i:Nat}(hn:bC s.ns n=some i):Fr.kP s.P n=some (s.x.l.getD i default).df:=by rw[←h.ns n,hn];rfl
theorem SE.Ok.DY(h:SE.Ok cs s){n:aF}{k:Int}(hk:isKind s.x k (bC s.ns n)=false):Fr.jY s.P k n=none:=by
 unfold Fr.jY
 cases hn:bC s.ns n with
 |none=>rw[h.SU hn];rfl
 |some i=>
  rw[hn]at hk;rw[h.EC hn,aU];exact if_neg (by simpa[isKind,DL.df]using hk)
theorem SE.Ok.DZ(h:SE.Ok cs s){n:aF}{k:Int}(hk:isKind s.x k (bC s.ns n)=true):∃i,bC s.ns n=some i∧i<s.x.l.length∧(s.x.l.getD i default).kind=k∧Fr.jY s.P k n=some (s.x.l.getD i default).df:=by
 cases hn:bC s.ns n with
 |none=>rw[hn]at hk;cases hk
 |some i=>
  rw[hn]at hk;have hk:(s.x.l.getD i default).kind=k:=by simpa[isKind]using hk
  refine⟨i,rfl,h.lt n i hn,hk,?_⟩;unfold Fr.jY;rw[h.EC hn,aU];exact if_pos hk
end
end Vw
section
open Go Go.RowKit
section
variable{P:Program} [eP P]{ops:Array Oper}{Q:Exit→Act→World→Prop}{N:Nd}{e:Nat}{LT:List Chunk}{E:Env}{L F:List Chunk}{fuel:Nat}{listed:Array Bool}
theorem TH{d:Tmp}{op:Op}{ty:TypeId}{pos:String}{aft:Array Edge}{v:Value}(i:Nat)(h:RunT P ops Q N e LT fuel (listed.setIfInBounds i true) ((d,v)::E) L)(hi:ops[i]?=some ⟨some d,op,ty,pos,aft,none⟩:=by exact rfl)(hns:Region.noSelect ops=true:=by kernel_rfl)(hf:Region.free .any ops listed i=true:=by kernel_rfl)(hr:(Region.ready .any ops listed).contains i=true:=by kernel_rfl)(he:Nat.ble ops.size e=true:=by kernel_rfl)(hsz:Nat.beq listed.size ops.size=true:=by kernel_rfl)(hQ:aO Q:=by exact bA)(hd:Nat.blt d N.n=true:=by exact rfl)(ht:aQ LT L F:=by exact aK)(hy:Still P N ⟨some d,op,ty,pos,aft,none⟩ E LT v:=by exact Fh):RunT P ops Q N e LT (fuel+1) listed E L:=
 RunT.V9 i (hi:=hi) (hns:=hns) (hf:=hf) (hr:=hr) (he:=he) (hsz:=hsz) (hQ:=hQ) (hd:=hd) (ht:=ht) (hy:=hy) (h:=h)
end
theorem Fp{A G:Prop}(k:G)(h:Bx G→A:=by intro hk;(first|(refine aE.gL (h:=?_);refine aA.b8 (h:=by apply Still.yR;exact rfl;exact rfl;(focus ((repeat(first|exact Take.head|apply Take.tail));done));(focus assumption);(repeat(first|exact Cut.done|apply Cut.take|apply Cut.skip));done) (k:=?_);exact hk.out)|(refine aE.gL (h:=?_);refine aA.b8 (h:=by apply Still.EM;exact rfl;exact rfl;(focus ((repeat(first|exact Take.head|apply Take.tail));done));(focus assumption);(repeat(first|exact Cut.done|apply Cut.take|apply Cut.skip));done) (k:=?_);exact hk.out)|(refine aP.b8 (h:=by apply Still.yR;exact rfl;exact rfl;(focus ((repeat(first|exact Take.head|apply Take.tail));done));(focus assumption);(repeat(first|exact Cut.done|apply Cut.take|apply Cut.skip));done) (k:=?_);exact hk.out)|(refine aP.b8 (h:=by apply Still.EM;exact rfl;exact rfl;(focus ((repeat(first|exact Take.head|apply Take.tail));done));(focus assumption);(repeat(first|exact Cut.done|apply Cut.take|apply Cut.skip));done) (k:=?_);exact hk.out)|(refine aM.b8 (h:=by apply Still.yR;exact rfl;exact rfl;(focus ((repeat(first|exact Take.head|apply Take.tail));done));(focus assumption);(repeat(first|exact Cut.done|apply Cut.take|apply Cut.skip));done) (k:=?_);exact hk.out)|(refine aM.b8 (h:=by apply Still.EM;exact rfl;exact rfl;(focus ((repeat(first|exact Take.head|apply Take.tail));done));(focus assumption);(repeat(first|exact Cut.done|apply Cut.take|apply Cut.skip));done) (k:=?_);exact hk.out)|(refine Fm ?_;exact hk.out)|fail)):A:=h ⟨k⟩
end
namespace Vw
open Go.RowKit Img
section
attribute [local irreducible] aE aB End aA Still aM aP RunT Fn aO
section
variable{P:List Fr.Df}{D:Fr.Df}{B:Fr.Scope}
theorem WS:∀{ts:List Fr.Ty} {l:List EL},ts.length≠l.length→Fr.eD P D B ts (EL.bT l)=none
 |[],[],h=>absurd rfl h
 |[],x::l,h=>by rw[EL.bT,Fr.eD];all_goals simp
 |t::ts,[],h=>by rw[EL.bT,Fr.eD];all_goals simp
 |t::ts,x::l,h=>by
  rw[EL.bT,Fr.eD,WS (ts:=ts) (l:=l) (by simpa using h)]
  cases Fr.same (Fr.b5 P D B x.ex) t<;>rfl
theorem aGx{ts:List Fr.Pm}{l:List EL}{j:Nat}(h1:j<ts.length)(h2:j<l.length):Fr.eD P D B ((ts.drop j).map (·.type)) (EL.bT (l.drop j))=(Fr.same (Fr.b5 P D B (l.getD j default).ex) (ts.getD j default).type).bind fun _=>Fr.eD P D B ((ts.drop (j+1)).map (·.type)) (EL.bT (l.drop (j+1))):=by
 rw[nR h1,nR h2,eG,EL.bT,Fr.eD]
theorem KG{o:Option Unit}(h:o.isSome=true):o=some ():=by cases o with
 |none=>cases h
 |some _=>rfl
end
theorem VC(cs:List Chunk)(s:SE)(ok:SE.Ok cs s)(x:EL)(hl:x.kids.length≤6)(hE:∀y∈x.kids,vS cs s y)(k:Int)(xb o:Nat)(hx:mQ cs xb o x):Fn Tryz.prog 210 #[ptr s.q, .pointer (some ⟨xb,o,none⟩), .int .i64 k] [bE cs,bN] s.m (σ:=Option Nat×Int)
  (fun r=>(r.2=0∧∃i,r.1=some i∧i<s.x.l.length∧Fr.jY s.P k x.s=some (s.x.l.getD i default).df∧Fr.eD s.P s.D s.B ((s.x.l.getD i default).params.map (·.type)) (EL.bT x.kids)=some ())∨(r.2≠0∧(Fr.jY s.P k x.s).bind (fun d=>Fr.eD s.P s.D s.B (d.params.map (·.type)) (EL.bT x.kids))=none)) (fun r=> .tuple #[IB s.x r.1, .int .i64 r.2]) (fun _=>s.m):=by
 have hX:=hx.has;have ha:=hx.arr;have F:=FW s.p s.mb cs s.x ok.jX s.ns ok.lt k x.s;obtain⟨r,hr⟩:∃r,r=bC s.ns x.s:=⟨_,rfl⟩;obtain⟨kb,hkb⟩:∃b,b=isKind s.x k r:=⟨_,rfl⟩;rw[←hr,←hkb]at F;refine JE [ptr s.q, .pointer (some ⟨xb,o,none⟩), .int .i64 k] Tryz.func210 Tryz.ntmps210 fun w S=>?_;refine Jn ?_
 repeat(refine Fm ?_)
 apply aB.draw 15 ([bE cs,aD s.q [ptr s.p,eJ s.x s.di, .slice s.o s.bs.length s.c] 316]) (by kernel_rfl) 15 rfl;refine JN 0 ?_;refine JN 1 ?_;refine JN 2 ?_;refine JN 3 ?_;refine JN 4 ?_;refine JN 5 ?_;refine JN 6 ?_;refine JN 7 ?_;refine TH 8 ?_;(refine JT 9 ?_;refine aA.aZ (spec:=F) (r:=fun w=>eZ) (k:=?_);intro u hu;refine JG ?_;refine Jn ?_);refine JN 10 ?_;refine JN 11 ?_;refine JN 12 ?_;refine JN 13 ?_;refine JN 14 ?_;(apply RunT.done;kernel_rfl)
 cases kb with
 |false=>
  repeat(refine Fm ?_)
  exact End.oO (none,7) (he:=rfl) (hp:= .inr ⟨show(7:Int)≠0 by decide,by rw[ok.DY (k:=k) (by rw[←hr,←hkb])];rfl⟩)
 |true=>
  obtain⟨i,e1,hi,ek,ef⟩:=ok.DZ (k:=k) (n:=x.s) (by rw[←hr,←hkb]);obtain rfl:r=some i:=hr.trans e1;have hd:=ok.jX.at hi;obtain⟨d,de⟩:∃d,s.x.l.getD i default=d:=⟨_,rfl⟩;rw[de]at hd ek;have hD:=hd.has;have hp:=hd.tD
  by_cases hn:d.params.length=x.kids.length
  rotate_left
  ·repeat(refine Fm ?_)
   exact End.oO (none,5) (he:=rfl) (hp:= .inr ⟨show(5:Int)≠0 by decide,by rw[ef,de];exact WS (by simpa[DL.df]using hn)⟩)
  repeat(refine Fm ?_)
  refine aB.only ((fun j=>aI w S::bE cs::bN::s.m) 0) (aK) ?_;apply aB.loop (σ:=Nat) (fun j=>j≤x.kids.length∧Fr.eD s.P s.D s.B (d.params.map (·.type)) (EL.bT x.kids)=Fr.eD s.P s.D s.B ((d.params.drop j).map (·.type)) (EL.bT (x.kids.drop j))) (fun j=>[(0,ptr s.q),(1, .pointer (some ⟨xb,o,none⟩)),(8,eJ s.x i),(44, .slice d.po d.params.length d.pc),(45, .int .i64 (d.params.length:Int)),(46, .int .i64 (j:Int))]) (fun j=>aI w S::bE cs::bN::s.m) (fun j=>x.kids.length-j) 0
  rotate_left
  exact sb;exact aK;intro j hj K hK;(refine Jn ?_)
  rotate_left
  ·exact⟨bP _,rfl⟩
  obtain⟨hj,hT⟩:=hj
  by_cases hlt:j<x.kids.length
  ·have hE1:=hE _ (dQ hlt);have hk1:=hx.lF hlt;have hpj:=Has.elem hp (i:=j) (by omega);rw[aGx (by omega) hlt]at hT
   repeat(refine Fm ?_;try intro b)
   refine FQ (rX cs s _ hE1 (d.params.getD j default).type _ _ hk1) ?_;intro e he;refine Jn ?_
   by_cases h0:e=0
   ·subst h0
    repeat(refine Fm ?_)
    exact End.bK hK (j+1) ⟨hlt,by rw[hT,KG (he.1 rfl)];rfl⟩ (by omega)
   ·have h0':decide (e=0)=false:=decide_eq_false h0
    repeat(refine Fm ?_)
    exact End.oO (none,e) (he:=rfl) (hp:= .inr ⟨h0,by
     rw[ef,de];show Fr.eD s.P s.D s.B (d.params.map (·.type)) (EL.bT x.kids)=none;rw[hT]
     cases hs:Fr.same (Fr.b5 s.P s.D s.B (x.kids.getD j default).ex) (d.params.getD j default).type with
     |none=>rfl
     |some _=>exact absurd (he.2 (by rw[hs];rfl)) h0⟩)
  ·have hje:j=x.kids.length:=by omega
   repeat(refine Fm ?_)
   exact End.oO (some i,0) (he:=rfl) (hp:= .inl ⟨rfl,i,rfl,hi,ef,by
    rw[de];refine hT.trans ?_;rw[lD (by omega),lD (by omega)];rfl⟩)
theorem VD(cs:List Chunk)(s:SE)(ok:SE.Ok cs s)(x:EL)(hE:vS cs s x)(xb o:Nat)(hx:mQ cs xb o x):Fn Tryz.prog 211 #[ptr s.q, .pointer (some ⟨xb,o,none⟩)] [bE cs,bN] s.m (σ:=Option Nat×Int)
  (fun r=>(r.2=0∧∃t,Fr.b5 s.P s.D s.B x.ex=some t∧Fr.cS t=false∧r.1=bC s.ns t.gen)∨(r.2≠0∧∀t,Fr.b5 s.P s.D s.B x.ex=some t→Fr.cS t=true)) (fun r=> .tuple #[IB s.x r.1, .int .i64 r.2]) (fun _=>s.m):=by
 refine JE [ptr s.q, .pointer (some ⟨xb,o,none⟩)] Tryz.func211 Tryz.ntmps211 fun w S=>?_;refine Jn ?_
 repeat(refine Fm ?_)
 refine FQ (hE xb o hx) ?_;intro r hr;refine Jn ?_;rcases hr with⟨h1,h2⟩|⟨h1,h2⟩
 rotate_left
 ·have h1':decide (r.2=0)=false:=decide_eq_false h1
  repeat(refine Fm ?_;try intro b)
  exact End.oO (none,r.2) (he:=rfl) (hp:= .inr ⟨h1,fun t h=>by rw[h2]at h;cases h⟩)
 have h1':decide (r.2=0)=true:=decide_eq_true h1
 repeat(refine Fm ?_;try intro b)
 obtain⟨tb,rfl⟩:∃x,x=b:=⟨_,rfl⟩;refine FQ (uZ r.1) ?_;intro u hu;refine Jn ?_;rcases qC (Fr.cS r.1)with hp|hp
 ·repeat(refine Fm ?_)
  exact End.oO (none,9) (he:=rfl) (hp:= .inr ⟨show(9:Int)≠0 by decide,fun t h=>by rw[h2]at h;cases h;exact hp⟩)
 cases hm:bC s.ns r.1.gen with
 |none=>
  repeat(refine Fm ?_)
  exact End.oO (none,0) (he:=rfl) (hp:= .inl ⟨rfl,r.1,h2,hp,hm.symm⟩)
 |some i=>
  repeat(refine Fm ?_)
  exact End.oO (some i,0) (he:=rfl) (hp:= .inl ⟨rfl,r.1,h2,hp,hm.symm⟩)
end
end Vw
end Go.Proofs.YtofckcabpchcmaaGreatDoor
