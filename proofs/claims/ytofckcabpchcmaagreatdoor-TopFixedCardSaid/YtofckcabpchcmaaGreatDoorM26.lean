/- Package gen, walked: the writer's small methods. -/
import Derived.Test.YtofckcabpchcmaaGreatDoorM25
set_option linter.unusedVariables false
set_option linter.unusedSimpArgs false
set_option linter.unusedSectionVars false
set_option maxRecDepth 100000
namespace Go.Proofs.YtofckcabpchcmaaGreatDoor
namespace Vw
open Go.RowKit Img
attribute [local irreducible] aE aB End aA Still aM aP RunT Fn aO
structure Gb where
 b:Nat
 l:List (aF×Nat)
instance:Inhabited Gb:=⟨⟨0,[]⟩⟩
def wQ(g:Gb):List Value:=[.map (some g.b)]
instance:bF wQ:=⟨fun _=>rfl,by decide,fun a u hu=>by simp[wQ]at hu;subst hu;rfl⟩
abbrev jZ(g:Gb):Chunk:=mp g.b gR g.l
structure WM where
 kd:Int
 pr:Int
 rs:Int
 tk:Int
 lo:Option Addr
 lc:Nat
 loc:List Int
 co:Option Addr
 cc:Nat
 code:List ImgM.aY
 bo:Option Addr
 bc:Nat
 gb:List Gb
abbrev wM(wb tb:Nat)(z:WM):List Chunk:=[aD wb [ptr tb, .int .i64 z.kd, .int .i64 z.pr, .slice z.lo z.loc.length z.lc, .int .i64 z.rs, .int .i64 z.tk, .slice z.co z.code.length z.cc, .slice z.bo z.gb.length z.bc] 225,arr z.lo z.loc.length z.lc 3 aT z.loc,arr z.co z.code.length z.cc 113 dV z.code,arr z.bo z.gb.length z.bc 149 wQ z.gb,aR (z.gb.map jZ)]
abbrev eU(l:List Gb):List (List (aF×Nat)):=(l.map (·.l)).reverse
abbrev WM.wr(z:WM):Fr.Wr:=⟨z.loc,z.code,eU z.gb⟩
structure WM.tS(z:WM):Prop where
 lo:z.loc.length≤100000
 co:z.code.length≤100000
 gb:z.gb.length≤100000
variable{wb tb:Nat}
abbrev WM.jG(z:WM)(i:ImgM.aY)(a:Option Addr×Nat):WM:={z with co:=a.1,cc:=a.2,code:=z.code ++[i]}
theorem gO(z:WM)(h:z.tS)(op a n:Int):Fn Tryz.prog 100 #[ptr wb, .int .i64 op, .int .i64 a, .int .i64 n] [] (wM wb tb z) (σ:=Option Addr×Nat) (fun _=>True) (fun _=> .int .i64 (z.code.length:Int)) (fun s=>wM wb tb (z.jG ⟨op,a,n⟩ s)):=by
 have hc:=h.co;refine JE [ptr wb, .int .i64 op, .int .i64 a, .int .i64 n] Tryz.func100 Tryz.ntmps100 fun w S=>?_;refine Jn ?_
 repeat(refine Fm ?_;try intro b)
 (apply aE.op;exact rfl;refine aA.jL (a:=(⟨op,a,n⟩:ImgM.aY)) (k:=?_);intro ao cap;(refine Jn ?_))
 repeat(refine Fm ?_)
 rw[show z.code.length+1=(z.code ++[(⟨op,a,n⟩:ImgM.aY)]).length by simp];exact End.aH (ao,cap) (he:=congrArg (Value.int .i64) (by simp)) (hp:=trivial)
theorem D5(z:WM):Fn Tryz.prog 165 #[ptr wb] [] (wM wb tb z) (σ:=Unit) (fun _=>True) (fun _=> .int .i64 (z.code.length:Int)) (fun s=>wM wb tb z):=by
 refine JE [ptr wb] Tryz.func165 Tryz.ntmps165 fun w S=>?_;refine Jn ?_
 repeat(refine Fm ?_)
 exact End.aH () (he:=rfl) (hp:=trivial)
theorem EZ(l:List (aF×Nat))(s:aF):bC l s=Fr.at_ l s:=by
 induction l with
 |nil=>rfl
 |cons p r ih=>rw[Fr.HF,←ih];rfl
theorem BI(l:List Gb)(x:Gb):eU (l ++[x])=x.l::eU l:=by unfold eU;simp
theorem aB0{l:List Gb}{k:Nat}(h:k<l.length):eU (l.take (k+1))=(l.getD k default).l::eU (l.take k):=by
 unfold eU;rw[mI h];simp
theorem Q0(z:WM)(h:z.tS)(s:aF):Fn Tryz.prog 166 #[ptr wb,sv s] [] (wM wb tb z) (σ:=Unit) (fun _=>True) (fun _=>gR (z.wr.look s)) (fun _=>wM wb tb z):=by
 have hb:=h.gb;refine JE [ptr wb,sv s] Tryz.func166 Tryz.ntmps166 fun w S=>?_;refine Jn ?_
 repeat(refine Fy ?_)
 refine aB.only ((fun j=>aI w S::wM wb tb z) z.gb.length) (aK) ?_;apply aB.loop (σ:=Nat) (fun j=>j≤z.gb.length∧Fr.eL (eU (z.gb.take j)) s=Fr.eL (eU z.gb) s) (fun j=>[(0,ptr wb),(1,sv s),(4, .int .i64 0),(5, .int .i64 ((j:Int)-1))]) (fun j=>aI w S::wM wb tb z) (fun j=>j) z.gb.length
 rotate_left
 exact sb;exact aK;intro j hj K hK;(refine Jn ?_)
 rotate_left
 ·exact⟨cG _,by rw[l4]⟩
 obtain⟨h1,h2⟩:=hj
 by_cases h0:j=0
 ·subst h0
  repeat(refine Fy ?_)
  exact End.aH () (he:=by unfold Fr.Wr.look;rw[←h2];rfl) (hp:=trivial)
 obtain⟨k,rfl⟩:∃k,j=k+1:=⟨j-1,by omega⟩;rw[show((k+1:Nat):Int)-1=(k:Int) by omega];have hlt:k<z.gb.length:=by omega
 rw[aB0 hlt]at h2;apply aB.imp (fun w hm=>hm.nO tk (tF jZ hlt))
 cases hm:bC (z.gb.getD k default).l s with
 |some t=>
  repeat(refine Fy ?_)
  apply End.imp (fun w hm=>hm.mA (es:=(z.gb.eraseIdx k).map jZ) tk (.cons tk .nil) (tF jZ hlt) (by simp[jZ,j6]));exact End.aH () (he:=by unfold Fr.Wr.look;rw[←h2,Fr.eL,←EZ,hm];rfl) (hp:=trivial)
 |none=>
  repeat(refine Fy ?_)
  apply End.imp (fun w hm=>hm.mA (es:=(z.gb.eraseIdx k).map jZ) tk (.cons tk .nil) (tF jZ hlt) (by simp[jZ,j6]));exact End.bK hK k ⟨by omega,by rw[←h2,Fr.eL,←EZ,hm]⟩ (by omega)
abbrev WM.yS(z:WM)(pre:List Gb)(last:Gb)(s:aF)(t:Int)(a:Option Addr×Nat):WM:={z with lo:=a.1,lc:=a.2,loc:=z.loc ++[t],gb:=pre ++[⟨last.b,last.l ++[(s,z.loc.length)]⟩]}
theorem RZ(z:WM)(pre:List Gb)(last:Gb)(s:aF)(t:Int)(a:Option Addr×Nat)(h:z.gb=pre ++[last]):(z.yS pre last s t a).wr=z.wr.lU s t:=by
 unfold Fr.Wr.lU WM.yS WM.wr;rw[h];simp only[BI]
theorem QZ(z:WM)(h:z.tS)(pre:List Gb)(last:Gb)(hg:z.gb=pre ++[last])(s:aF)(t:Int)(hs:bC last.l s=none):Fn Tryz.prog 98 #[ptr wb,sv s, .int .i64 t] [] (wM wb tb z) (σ:=Option Addr×Nat) (fun _=>True) (fun _=> .int .i64 (z.loc.length:Int)) (fun a=>wM wb tb (z.yS pre last s t a)):=by
 have hc:=h.lo;have hb:=h.gb;refine JE [ptr wb,sv s, .int .i64 t] Tryz.func98 Tryz.ntmps98 fun w S=>?_;refine Jn ?_
 have hpos:0<z.gb.length:=by rw[hg];simp
 repeat(refine Fm ?_;try first|intro ao cap|intro b)
 obtain⟨i,hi⟩:∃i,i=((z.gb.length:Int)-1).toNat:=⟨_,rfl⟩;have hil:i=pre.length:=by rw[hi,hg];simp
 have hgl:z.gb.getD i default=last:=by rw[hil,hg];simp
 rw[←hi,hgl];refine aE.imp (fun w hm=>hm.nO (ds:=[jZ last]) (es:=pre.map jZ) tk (by rw[hg,Jq];exact pH)) ?_;have hfm:z.gb.flatMap wQ=(pre ++[(⟨last.b,last.l ++[(s,z.loc.length)]⟩:Gb)]).flatMap wQ:=by rw[hg,AU,AU];rfl
 have hlen:z.gb.length=(pre ++[(⟨last.b,last.l ++[(s,z.loc.length)]⟩:Gb)]).length:=by rw[hg];simp
 apply aE.op (by exact rfl);refine aA.qS (g:=gR) (a:=z.loc.length) (hv:=congrArg (fun x=>some (Value.int .i64 x)) (by omega)) (k:=?_);rw[oW _ _ _ hs,HE hfm hlen];refine aE.imp (fun w hm=>hm.mA (cs:=(pre ++[(⟨last.b,last.l ++[(s,z.loc.length)]⟩:Gb)]).map jZ) (ds:=[jZ ⟨last.b,last.l ++[(s,z.loc.length)]⟩]) tk (.cons tk .nil) (by rw[Jq];exact pH) (by simp[jZ,j6])) ?_;rw[hlen,show z.loc.length+1=(z.loc ++[t]).length by simp]
 repeat(refine Fm ?_)
 exact End.aH (ao,cap) (he:=congrArg (Value.int .i64) (by simp)) (hp:=trivial)
end Vw
end Go.Proofs.YtofckcabpchcmaaGreatDoor
