/- What package verify computes: the units that a task comes to. Plain Lean. -/
import Derived.Test.YtofckcabpchcmaaGreatDoorM14
import Derived.Lib.IndexMore
import Derived.Shelf.Strings.Search3
import Derived.ProofKit
import Derived.OpenShut
import Derived.JoinedCond
import Derived.SizedLaws
import Derived.Deep.Slices
import Derived.Carry
import Derived.Test.YtofckcabpchcmaaGreatDoorRows
import Derived.Deep.Strs
import Derived.ChangeSame
import Derived.Lib.SmallJoins
set_option linter.unusedVariables false
set_option linter.unusedSimpArgs false
set_option linter.unusedSectionVars false
set_option maxRecDepth 100000
namespace Go.Proofs.YtofckcabpchcmaaGreatDoor
namespace Ver
open ImgM
structure lB(N:Nat)(l:List Int):Prop where
 nodup:l.Nodup
 ok:∀x∈l,0≤x∧x<(N:Int)
theorem UD:∀(N:Nat) (l:List Int),lB N l→l.length≤N
 |0,l,h=>by
  cases l with
  |nil=>exact bS _
  |cons x r=>have:=h.ok x gF;omega
 |N+1,l,h=>by
  have h2:lB N (l.filter fun x=>decide (x≠(N:Int))):=⟨h.nodup.filter _,fun x hx=>by
   rw[mA]at hx;have:=h.ok x hx.1;have h3:x≠(N:Int):=by simpa using hx.2
   omega⟩
  have h3:=UD N _ h2;have h4:∀l:List Int,l.Nodup→l.length≤(l.filter fun x=>decide (x≠(N:Int))).length+1:=by
   intro l hl
   induction l with
   |nil=>simp
   |cons a r ih=>
    rw[zB]at hl;rw[l0]
    by_cases ha:a=(N:Int)
    ·have:r.filter (fun x=>decide (x≠(N:Int)))=r:=List.filter_eq_self.2 (fun x hx=>by
      have:x≠(N:Int):=fun e=>hl.1 (by rw[ha,←e];exact hx);simpa using this)
     rw[if_neg (by simpa using ha),this];simp
    ·rw[if_pos (by simpa using ha)];have:=ih hl.2;simp only[JW];omega
  have:=h4 l h.nodup;omega
theorem lB.len{N:Nat}{l:List Int}(h:lB N l):l.length≤N:=UD N l h
theorem lB.snoc{N:Nat}{l:List Int}(h:lB N l){a:Int}(ha:a∉l)(h1:0≤a∧a<(N:Int)):lB N (l ++[a]):=by
 refine⟨?_,fun x hx=>?_⟩
 ·rw[r9];exact⟨h.nodup,aW,fun x hx y hy=>by
   simp at hy;subst hy;exact fun e=>ha (e▸hx)⟩
 ·rcases dF.1 hx with hx|hx
  ·exact h.ok x hx
  ·simp at hx;subst hx;exact h1
theorem lB.one{N k:Nat}(h:k<N):lB N [(k:Int)]:=⟨aW,fun x hx=>by simp at hx;subst hx;omega⟩
def zK(out:List Int)(i:aT):List Int:=if(i.op=23∨i.op=29)∧i.a∉out then out ++[i.a]else out
theorem IJ(i:aT)(l:List aT)(out:List Int):calls (i::l) out=calls l (zK out i):=rfl
theorem aA2(out:List Int):calls [] out=out:=rfl
theorem QL{N:Nat}{out:List Int}{i:aT}(h:lB N out)(hi:i.op=23∨i.op=29→0≤i.a∧i.a<(N:Int)):lB N (zK out i):=by
 unfold zK
 split
 ·rename_i h1
  exact h.snoc h1.2 (hi h1.1)
 ·exact h
theorem QO{N:Nat}:∀(l:List aT) (out:List Int),lB N out→(∀i∈l,i.op=23∨i.op=29→0≤i.a∧i.a<(N:Int))→lB N (calls l out)
 |[],_,h,_=>h
 |i::l,out,h,hi=>by
  rw[IJ];exact QO l _ (QL h (hi i gF)) (fun j hj=>hi j (gZ _ hj))
theorem V6{M:aL}{n k:Nat}{out:List Int}(h:k<out.length):pX M (n+1) k out=pX M n (k+1) (calls (M.aJ.getD (out.getD k 0).toNat default).code out):=by
 conv=>lhs;unfold pX
 rw[if_pos h]
theorem V3{M:aL}{n k:Nat}{out:List Int}(h:¬k<out.length):pX M n k out=out:=by
 cases n with
 |zero=>rfl
 |succ n=>unfold pX;rw[if_neg h]
theorem V5{M:aL}{N:Nat}(hc:∀k,k<N→∀i∈(M.aJ.getD k default).code,i.op=23∨i.op=29→0≤i.a∧i.a<(N:Int)):∀(n k:Nat) (out:List Int),lB N out→lB N (pX M n k out)
 |0,_,_,h=>h
 |n+1,k,out,h=>by
  unfold pX
  split
  ·rename_i hk
   refine V5 hc n (k+1) _ (QO _ _ h (hc _ ?_));have:=h.ok (out.getD k 0) (by rw[Jd,Je hk];exact hZ _);omega
  ·exact h
theorem MG{M:aL}{b n:Nat}(h:1<lI M 26 b∨1<lI M 27 b):owned M b (n+1)=⟨8,0,b⟩:=by unfold owned;rw[if_pos h]
theorem MH{M:aL}{b n:Nat}(h:¬(1<lI M 26 b∨1<lI M 27 b)):owned M b (n+1)=owned M (b+1) n:=by
 conv=>lhs;unfold owned
 rw[if_neg h]
def yS(M:aL)(op b:Int)(k:Nat):Nat:=((List.range k).filter fun k=>decide ((M.aJ.getD k default).kind=4)&&BF M op b k).length
theorem aIE(M:aL)(op b:Int)(k:Nat):yS M op b (k+1)=yS M op b k+if(decide ((M.aJ.getD k default).kind=4)&&BF M op b k)=true then 1 else 0:=by
 unfold yS;rw[nT,qD,Jl];congr 1;rw[l0]
 split<;>rfl
theorem aID(M:aL)(op b:Int)(k:Nat):yS M op b k≤k:=by
 unfold yS;exact dP (nS _ _) aW
end Ver
namespace Vw
open Go.RowKit Img
section
attribute [local irreducible] aE aG End aB Still aN aU RunT Fn aS
theorem tC.calls{m:ML}(hf:tC m):∀k,k<m.us.length→∀i∈(m.aC.aJ.getD k default).code,i.op=23∨i.op=29→0≤i.a∧i.a<(m.us.length:Int):=by
 intro k hk i hi ho;rw[ML.jK]at hi;have h:=Ver.CJ (hf.eV k hk i hi);have hn:m.aC.aJ.length=m.us.length:=aW;rcases ho with ho|ho
 ·obtain⟨h1,h2, -⟩:=Ver.unit_eq (h.call ho);rw[hn]at h2;exact⟨h1,h2⟩
 ·obtain⟨h1,h2, -⟩:=Ver.unit_eq (h.start ho);rw[hn]at h2;exact⟨h1,h2⟩
theorem aFD(cb mb:Nat)(m:ML)(hf:tC m)(q:Nat)(hq:q<m.us.length):Fn Tryz.prog 78 #[ptr cb, .int .i64 q] [md m] (ck cb mb m) (σ:=Option Addr×Nat) (fun _=>True) (fun s=> .slice s.1 (Ver.reach m.aC q).length s.2) (fun s=>arr s.1 (Ver.reach m.aC q).length s.2 3 aY (Ver.reach m.aC q)::ck cb mb m):=by
 have hN:=hf.aJ;obtain⟨R,hR⟩:∃R,R=Ver.reach m.aC q:=⟨_,rfl⟩;rw[←hR];have hR0:R=Ver.pX m.aC (m.us.length+1) 0 [(q:Int)]:=by rw[hR];unfold Ver.reach;simp
 clear hR;refine JE [ptr cb, .int .i64 q] Tryz.func78 Tryz.ntmps78 fun w S=>?_;refine Jn ?_
 repeat(refine Jy ?_;try intro b)
 apply aG.imp (fun w hm=>hm.jB (f:=aY) tk [(q:Int)] rfl rfl (by unfold maxLen;simp));refine kS (σ:=Nat×List Int×Option Addr×Nat×Nat) (fun s=>Ver.lB m.us.length s.2.1∧s.1≤s.2.1.length∧s.2.1.length=s.2.2.2.2∧R=Ver.pX m.aC (m.us.length+1-s.1) s.1 s.2.1) (fun s=>[(0,ptr cb),(5, .slice s.2.2.1 s.2.2.2.2 s.2.2.2.1),(6, .int .i64 s.1)]) (fun s=>aO w S::md m::arr s.2.2.1 s.2.2.2.2 s.2.2.2.1 3 aY s.2.1::ck cb mb m) (fun s=>m.us.length+1-s.1) (0,[(q:Int)],some ⟨b,0,none⟩,1,1) ?_ fun s hs K hK=>?_
 ·exact⟨Ver.lB.one hq,aW,rfl,hR0⟩
 refine Jn ?_;clear hR0;obtain⟨k,out,ao,cap,n⟩:=s;obtain⟨ho,hk,hn,hRk⟩:=hs;simp only at ho hk hn hRk hK⊢;have hol:=ho.len
 by_cases hkn:k<n
 ·have hx:=ho.ok (out.getD k default) (dW aA);have hxl:(out.getD k default).toNat<m.us.length:=aA;have hrs:=Ver.V6 (M:=m.aC) (n:=m.us.length-k) (k:=k) (out:=out) aA;rw[show m.us.length+1-k=(m.us.length-k)+1 by omega,hrs,show out.getD k 0=out.getD k default from rfl,ML.jK]at hRk;have hcx:=hf.calls _ hxl;rw[ML.jK]at hcx;apply aG.fact m.Small (fun w hm=>(nI.1 (hm.has tk)).small);intro hsm;have hcl:=hsm.co _ hxl;clear hrs;refine aD ?_;refine kS (σ:=Nat×List Int×Option Addr×Nat×Nat) (fun s=>s.1≤(m.us.getD (out.getD k default).toNat default).u.code.length∧Ver.lB m.us.length s.2.1∧s.2.1.length=s.2.2.2.2∧out.length≤s.2.1.length∧Ver.calls (m.us.getD (out.getD k default).toNat default).u.code out=Ver.calls ((m.us.getD (out.getD k default).toNat default).u.code.drop s.1) s.2.1) (fun s=>[(0,ptr cb),(5, .slice s.2.2.1 s.2.2.2.2 s.2.2.2.1),(6, .int .i64 k),(30, .slice (m.us.getD (out.getD k default).toNat default).co (m.us.getD (out.getD k default).toNat default).u.code.length (m.us.getD (out.getD k default).toNat default).cc),(31, .int .i64 ((m.us.getD (out.getD k default).toNat default).u.code.length:Int)),(32, .int .i64 s.1)]) (fun s=>aO w S::md m::arr s.2.2.1 s.2.2.2.2 s.2.2.2.1 3 aY s.2.1::ck cb mb m) (fun s=>(m.us.getD (out.getD k default).toNat default).u.code.length-s.1) (0,out,ao,cap,n) ?_ fun s hs KI hKI=>?_
  ·exact⟨bQ _,ho,hn,bS _,rfl⟩
  refine Jn ?_;obtain⟨j,o,ao1,cap1,n1⟩:=s;obtain⟨hj,ho1,hn1,hle1,hcj⟩:=hs;simp only at hj ho1 hn1 hle1 hcj hKI⊢;have hol1:=ho1.len
  by_cases hjl:j<(m.us.getD (out.getD k default).toNat default).u.code.length
  ·rw[drop_cons hjl,Ver.IJ]at hcj;have hia:=hcx _ (dW hjl);have h1once:=Ver.QL ho1 hia;unfold Ver.zK at hcj h1once
   repeat' (first|(refine Jc ?_;refine aB.bA (spec:=aAn _ _ _ _ hn1 aA _) (k:=?_);intro s hs;refine Jn ?_)|refine Jo ?_|(refine JB ?_;intro b)|(refine JA ?_;intro ao cap)|refine gQ (k:=fun h=>?_) (k':=fun h=>?_)|fail)
   all_goals first
    |(refine End.bK hKI (j+1,o ++[((m.us.getD (out.getD k default).toNat default).u.code.getD j default).a],ao,cap,n1+1) ?_ (by simp only;omega);rw[if_pos ⟨aA,by assumption⟩]at hcj h1once;exact⟨by simp only;omega,h1once,by simp only[Jl,JW,kZ];omega,by simp only[Jl,JW,kZ];omega,hcj⟩)
    |(refine End.bK hKI (j+1,o,ao1,cap1,n1) ?_ (by simp only;omega);rw[if_neg (fun h'=>by first|exact h'.2 (by assumption)|(have:=h'.1;omega))]at hcj h1once;exact⟨by simp only;omega,h1once,hn1,hle1,hcj⟩)
  ·rw[iS aA,Ver.aA2]at hcj;rw[hcj]at hRk;refine aD ?_;refine End.bK hK (k+1,o,ao1,cap1,n1) ?_ ?_
   ·exact⟨ho1,by simp only;omega,hn1,by simp only;rw[hRk];congr 1;omega⟩
   ·simp only;omega
 ·rw[Ver.V3 aA]at hRk;subst hRk;subst hn;refine aD ?_;exact fZ (ao,cap)
abbrev CK(b:Nat)(v:Int):Chunk:=aF b [.int .i64 v] 3
abbrev oc(pc ob bb cb mb:Nat)(op bx:Int)(m:ML):List Chunk:=aF pc [ptr cb] 126::CK ob op::CK bb bx::ck cb mb m
theorem aEI(pc ob bb cb mb:Nat)(op bx:Int)(m:ML)(i:ImgM.aT):Fn Tryz.prog 81 #[lP i,ptr ob,ptr bb] [md m] (oc pc ob bb cb mb op bx m) (σ:=Unit) (fun _=>True) (fun _=> .bool (decide (i.op=op)&&decide (i.a=bx))) (fun _=>oc pc ob bb cb mb op bx m):=by
 refine JE [lP i,ptr ob,ptr bb] Tryz.func81 Tryz.ntmps81 fun w S=>?_;refine Jn ?_
 repeat' (first|refine Jo ?_|(refine JB ?_;intro b)|(refine JA ?_;intro ao cap)|refine gQ (k:=fun h=>?_) (k':=fun h=>?_)|fail)
 all_goals ((refine End.aX (()) (he:=by refine jZ ?_;(first|(simp[*];done)|(simp[];omega)|(rw[sA];simp[];omega)|(simp[*];intros;omega))) (hp:=?_));trivial)
theorem aEJ(pc ob bb cb mb:Nat)(op bx:Int)(m:ML)(x:Nat)(hx:x<m.us.length)(hsm:m.Small):Fn Tryz.prog 79 #[.int .i64 x,ptr pc,ptr ob,ptr bb] [md m] (oc pc ob bb cb mb op bx m) (σ:=Unit) (fun _=>True) (fun _=> .bool ((m.us.getD x default).u.code.any fun i=>decide (i.op=op)&&decide (i.a=bx))) (fun _=>oc pc ob bb cb mb op bx m):=by
 refine JE [.int .i64 x,ptr pc,ptr ob,ptr bb] Tryz.func79 Tryz.ntmps79 fun w S=>?_;refine aD ?_;(apply aE.op;exact rfl;refine aB.bA (spec:=aAm _ _ _ _ rfl (hsm.co x hx) _ [ptr ob,ptr bb] (md m) mH (oc pc ob bb cb mb op bx m) (by simp[iL]) (fun i=>decide (i.op=op)&&decide (i.a=bx)) b7 (fun i hi=>aEI pc ob bb cb mb op bx m i)) (k:=?_);intro s hs;refine Jn ?_);refine aD ?_;(refine End.aX (()) (he:=by rfl) (hp:=?_));trivial
set_option maxHeartbeats 1000000 in
theorem aEK(cb mb:Nat)(m:ML)(hf:tC m):Fn Tryz.prog 47 #[ptr cb] [md m] (ck cb mb m) (σ:=Unit) (fun _=>True) (fun _=>s8 (Ver.owned m.aC 0 m.bx.length)) (fun _=>ck cb mb m):=by
 have hN:=hf.aJ;have hB:=hf.boxes;obtain⟨W,hW⟩:∃W,W=Ver.owned m.aC 0 m.bx.length:=⟨_,rfl⟩;rw[←hW];have hnu:m.aC.aJ.length=m.us.length:=aW;refine JE [ptr cb] Tryz.func47 Tryz.ntmps47 fun w S=>?_;refine Jn ?_;apply aG.fact m.Small (fun w hm=>(nI.1 (hm.has tk)).small);intro hsm
 repeat(refine Jy ?_;try intro b)
 obtain⟨wb,rfl⟩:=a7 b;obtain⟨pc,rfl⟩:=a7 b;refine kS (σ:=Nat) (fun k=>k≤m.bx.length∧W=Ver.owned m.aC k (m.bx.length-k)) (fun k=>[(0,ptr cb),(1,ptr pc),(2,ptr wb),(16, .int .i64 m.bx.length),(17, .int .i64 k)]) (fun _=>aO w S::md m::aF wb [.int .i64 0, .int .i64 0, .int .i64 0] 51::aF pc [ptr cb] 126::ck cb mb m) (fun k=>m.bx.length-k) 0 ?_ fun bx hs K1 hK1=>?_
 ·exact⟨bQ _,hW⟩
 refine Jn ?_;obtain⟨hb,hWb⟩:=hs
 by_cases hbl:bx<m.bx.length
 ·rw[show m.bx.length-bx=(m.bx.length-(bx+1))+1 by omega]at hWb
  repeat(refine Jy ?_;try intro b)
  obtain⟨sl,rfl⟩:=a7 b;obtain⟨bb,rfl⟩:=a7 b;apply aG.imp (fun w hm=>hm.jB (f:=aY) (n:=2) tk [26,27] rfl rfl (by unfold maxLen;omega));refine kS (σ:=Nat) (fun j=>j≤2∧(0<j→¬1<Ver.lI m.aC 26 bx)∧(1<j→¬1<Ver.lI m.aC 27 bx)) (fun j=>[(0,ptr cb),(1,ptr pc),(2,ptr wb),(3,ptr bb),(16, .int .i64 m.bx.length),(17, .int .i64 bx),(20, .slice (some ⟨sl,0,none⟩) 2 2),(21, .int .i64 ((2:Nat):Int)),(22, .int .i64 j)]) (fun _=>aO w S::md m::aF wb [.int .i64 0, .int .i64 0, .int .i64 0] 51::aF pc [ptr cb] 126::arr (some ⟨sl,0,none⟩) 2 2 3 aY [26,27]::CK bb bx::ck cb mb m) (fun j=>2-j) 0 ?_ fun j hs K2 hK2=>?_
  ·exact⟨aA,aA,aA⟩
  refine Jn ?_;obtain⟨hj,hj0,hj1⟩:=hs
  by_cases hj2:j<2
  ·have hop:([26,27]:List Int).getD j default=26∧j=0∨([26,27]:List Int).getD j default=27∧j=1:=by
    rcases(by omega:j=0∨j=1)with rfl|rfl
    ·exact .inl ⟨rfl,rfl⟩
    ·exact .inr ⟨rfl,rfl⟩
   repeat(refine Jy ?_;try intro b)
   obtain⟨ob,rfl⟩:=a7 b;generalize([26,27]:List Int).getD j default=op at *;refine kS (σ:=Nat×Nat) (fun s=>s.1≤m.us.length∧s.2=Ver.yS m.aC op bx s.1) (fun s=>[(0,ptr cb),(1,ptr pc),(2,ptr wb),(3,ptr bb),(5,ptr ob),(6, .int .i64 s.2),(16, .int .i64 m.bx.length),(17, .int .i64 bx),(20, .slice (some ⟨sl,0,none⟩) 2 2),(21, .int .i64 ((2:Nat):Int)),(22, .int .i64 j),(32, .slice m.uo m.us.length m.uc),(33, .int .i64 m.us.length),(34, .int .i64 s.1)]) (fun _=>aO w S::md m::aF wb [.int .i64 0, .int .i64 0, .int .i64 0] 51::aF pc [ptr cb] 126::arr (some ⟨sl,0,none⟩) 2 2 3 aY [26,27]::CK bb bx::CK ob op::ck cb mb m) (fun s=>m.us.length-s.1) (0,0) ?_ fun s hs K3 hK3=>?_
   ·exact⟨bQ _,rfl⟩
   refine Jn ?_;obtain⟨k,n⟩:=s;obtain⟨hk,hn⟩:=hs;simp only at hk hn hK3⊢;have hnk:=Ver.aID m.aC op bx k
   by_cases hkl:k<m.us.length
   ·have hro:Ver.lB m.us.length (Ver.reach m.aC k):=Ver.V5 hf.calls _ _ _ (Ver.lB.one hkl);have hrl:=hro.len;have hfn:∀x∈Ver.reach m.aC k,Fn Tryz.prog 79 (#[.int .i64 x] ++[ptr pc,ptr ob,ptr bb].toArray) [md m] (oc pc ob bb cb mb op bx m) (σ:=Unit) (fun _=>True) (fun _=> .bool ((m.us.getD x.toNat default).u.code.any fun i=>decide (i.op=op)&&decide (i.a=bx))) (fun _=>oc pc ob bb cb mb op bx m):=fun x hx=>by
     obtain⟨h1,h2⟩:=hro.ok x hx;obtain⟨y,rfl⟩:=JI h1;exact aEJ pc ob bb cb mb op bx m y aA hsm
    have hus:Ver.BF m.aC op bx k=(Ver.reach m.aC k).any fun x=>(m.us.getD x.toNat default).u.code.any fun i=>decide (i.op=op)&&decide (i.a=bx):=by
     unfold Ver.BF;simp only[sO]
    have hsu:=Ver.aIE m.aC op bx k;rw[ML.jK,hus]at hsu
    repeat' (first|(refine dV (aFD cb mb m hf k hkl) fun s hs=>?_)|(refine Jc ?_;refine aB.bA (spec:=Q2 _ _ _ (Ver.reach m.aC k) rfl aA _ [ptr pc,ptr ob,ptr bb] (md m) mH (oc pc ob bb cb mb op bx m) (by simp[iL]) (fun x=>(m.us.getD x.toNat default).u.code.any fun i=>decide (i.op=op)&&decide (i.a=bx)) b7 hfn) (k:=?_);intro s hs;refine Jn ?_)|refine Jo ?_|(refine JB ?_;intro b)|(refine JA ?_;intro ao cap)|refine gQ (k:=fun h=>?_) (k':=fun h=>?_)|fail)
    ·rw[if_pos (by rw[JX,JV];exact⟨by assumption,h⟩)]at hsu;refine End.bK hK3 (k+1,n+1) ?_ ?_
     ·exact⟨by simp only;omega,by simp only;omega⟩
     ·simp only;omega
    ·rw[if_neg (by rw[JX];intro h';rw[h'.2]at h;cases h)]at hsu;refine End.bK hK3 (k+1,n) ?_ ?_
     ·exact⟨by simp only;omega,by simp only;omega⟩
     ·simp only;omega
    ·rw[if_neg (by rw[JX,JV];intro h';exact h h'.1)]at hsu;refine End.bK hK3 (k+1,n) ?_ ?_
     ·exact⟨by simp only;omega,by simp only;omega⟩
     ·simp only;omega
   ·have hkN:k=m.us.length:=aA;subst hkN;have hnu2:n=Ver.lI m.aC op bx:=by
     rw[hn];unfold Ver.lI Ver.yS;rw[hnu]
    repeat' (first|refine Jo ?_|(refine JB ?_;intro b)|(refine JA ?_;intro ao cap)|refine gQ (k:=fun h=>?_) (k':=fun h=>?_)|fail)
    ·have hWx:W=⟨8,0,bx⟩:=by
      rw[hWb];refine Ver.MG ?_;rcases hop with⟨rfl, -⟩|⟨rfl, -⟩
      ·exact .inl aA
      ·exact .inr aA
     (refine End.fX (()) (he:=by exact nO hWx) (hp:=?_));trivial
    ·refine End.bK hK2 (j+1) ?_ ?_
     ·rcases hop with⟨rfl,rfl⟩|⟨rfl,rfl⟩
      ·exact⟨aA,fun _=>aA,fun h=>aA⟩
      ·exact⟨aA,fun _=>hj0 aA,fun _=>aA⟩
     ·omega
  ·have hj2':j=2:=aA;rw[Ver.MH (fun h=>h.elim (hj0 aA) (hj1 aA))]at hWb;refine aD ?_;refine End.bK hK1 (bx+1) ?_ ?_
   ·exact⟨aA,hWb⟩
   ·omega
 ·rw[show m.bx.length-bx=0 by omega]at hWb;refine aD ?_;(refine End.fX (()) (he:=by exact nO hWb) (hp:=?_));trivial
end
end Vw
namespace Ver
open ImgM
theorem ID:∀(l:List (Int×Int)) (i:Nat),(boxes i l).err=0↔∀b∈l,plain b.1=true∧1≤b.2∧b.2≤20
 |[],i=>by simp[boxes,kA.ok]
 |b::r,i=>by
  by_cases h1:plain b.1=false
  ·rw[QE h1];simp[h1]
  ·have h1':plain b.1=true:=by simpa using h1
   by_cases h2:b.2<1∨20<b.2
   ·rw[IC h1' h2];simp only[BS];constructor
    ·intro h;simp at h
    ·rintro⟨⟨-,h3,h4⟩, -⟩;omega
   ·rw[QF h1' h2,ID r (i+1)];simp only[BS,h1',true_and];constructor
    ·intro h;exact⟨aA,h⟩
    ·rintro⟨-,h⟩;exact h
theorem S5{M:aL}{u:bM}{k:Nat}:∀(l:List aT) (j:Nat),(qN M u k j l).err=0↔∀i∈l,eV M u i=0
 |[],j=>by simp[qN,kA.ok]
 |i::r,j=>by
  by_cases h:eV M u i=0
  ·rw[S4 h,S5 r (j+1)];simp[h]
  ·rw[S3 h];simp[h]
theorem YF{M:aL}{k:Nat}{u:bM}:(unit M k u).err=0↔head M u=0∧∀i∈u.code,eV M u i=0:=by
 by_cases h:head M u=0
 ·rw[YD h,S5];simp[h]
 ·rw[YC h];simp[h]
theorem OD{M:aL}:∀(l:List bM) (k:Nat),(aJ M k l).err=0↔∀u∈l,head M u=0∧∀i∈u.code,eV M u i=0
 |[],k=>by simp[aJ,kA.ok]
 |u::r,k=>by
  by_cases h:(unit M k u).err=0
  ·rw[OC h,OD r (k+1)];have:=YF.1 h;simp only[BS];exact⟨fun h=>⟨this,h⟩,fun h=>h.2⟩
  ·rw[OB h];simp only[BS];exact⟨fun h'=>absurd h' h,fun h'=>absurd (YF.2 h'.1) h⟩
structure yW(M:aL):Prop where
 T3:M.boxes.length≤30
 UI:M.aJ.length≤30
 boxes:∀b∈M.boxes,plain b.1=true∧1≤b.2∧b.2≤20
 aJ:∀u∈M.aJ,head M u=0∧∀i∈u.code,eV M u i=0
 task:∃u∈M.aJ,u.kind=4
theorem KG{M:aL}:(form M).err=0↔yW M:=by
 by_cases h:30<M.boxes.length∨30<M.aJ.length
 ·rw[R5 h];constructor
  ·intro h;simp at h
  ·intro h';have:=h'.T3;have:=h'.UI;omega
 by_cases hb:¬(Ver.boxes 0 M.boxes).err=0
 ·rw[E8 h rfl hb];exact⟨fun h'=>absurd h' hb,fun h'=>absurd ((ID _ _).2 h'.boxes) hb⟩
 have hb:(Ver.boxes 0 M.boxes).err=0:=wZ.1 hb
 by_cases hu:¬(Ver.aJ M 0 M.aJ).err=0
 ·rw[KF h hb rfl hu];exact⟨fun h'=>absurd h' hu,fun h'=>absurd ((OD _ _).2 h'.aJ) hu⟩
 have hu:(Ver.aJ M 0 M.aJ).err=0:=wZ.1 hu
 by_cases ht:(M.aJ.filter (fun u=>decide (u.kind=4))).length=0
 ·rw[R6 h hb hu ht];constructor
  ·intro h;simp at h
  ·rintro⟨-, -, -, -,u,h1,h2⟩;have:u∈M.aJ.filter (fun u=>decide (u.kind=4)):=mA.2 ⟨h1,by simpa using h2⟩;rw[qC ht]at this
   cases this
 ·rw[R7 h hb hu ht];refine⟨fun _=>⟨aA,aA,(ID _ _).1 hb,(OD _ _).1 hu,?_⟩,fun _=>rfl⟩
  cases hf:M.aJ.filter (fun u=>decide (u.kind=4))with
  |nil=>rw[hf]at ht;exact absurd rfl ht
  |cons u r=>
   have:u∈M.aJ.filter (fun u=>decide (u.kind=4)):=by rw[hf];exact gF
   rw[mA]at this;exact⟨u,this.1,by simpa using this.2⟩
theorem Q0{M:aL}{k n:Nat}(h:¬(code M k).err=0):mU M k (n+1)=code M k:=by unfold mU;rw[if_pos h]
theorem Q1{M:aL}{k n:Nat}(h:(code M k).err=0):mU M k (n+1)=mU M (k+1) n:=by
 conv=>lhs;unfold mU
 rw[if_neg (fun h'=>h' h)]
theorem IN{M:aL}:∀(n k:Nat),(mU M k n).err=0↔∀j,k≤j→j<k+n→(code M j).err=0
 |0,k=>by
  unfold mU;exact⟨fun _ j h1 h2=>aA,fun _=>rfl⟩
 |n+1,k=>by
  by_cases h:(code M k).err=0
  ·rw[Q1 h,IN n (k+1)];constructor
   ·intro h' j h1 h2
    by_cases hj:j=k
    ·subst hj;exact h
    ·exact h' j aA aA
   ·intro h' j h1 h2;exact h' j aA aA
  ·rw[Q0 h];exact⟨fun h'=>absurd h' h,fun h'=>absurd (h' k (bS _) aA) h⟩
theorem OE{M:aL}(h:¬(form M).err=0):verify M=form M:=by unfold verify;rw[if_pos h]
theorem OF{M:aL}(h:(form M).err=0)(h2:¬(mU M 0 M.aJ.length).err=0):verify M=mU M 0 M.aJ.length:=by
 unfold verify;rw[if_neg (fun h'=>h' h),if_pos h2]
theorem OG{M:aL}(h:(form M).err=0)(h2:(mU M 0 M.aJ.length).err=0):verify M=owned M 0 M.boxes.length:=by
 unfold verify;rw[if_neg (fun h'=>h' h),if_neg (fun h'=>h' h2)]
end Ver
namespace Vw
open Go.RowKit Img
section
attribute [local irreducible] aE aG End aB Still aN aU RunT Fn aS
theorem formed{m:ML}(h:Ver.yW m.aC):tC m:=by
 have hu:∀k,k<m.us.length→(m.us.getD k default).u∈m.aC.aJ:=fun k hk=>eY.2 ⟨_,ML.lW hk,rfl⟩;exact⟨h.T3,by simpa using h.UI,fun k hk=>(h.aJ _ (hu k hk)).1,fun k hk=>(h.aJ _ (hu k hk)).2⟩
theorem aG.only{P:Program}{Q:Exit→Act→World→Prop}{N:Nd}{E:Env}{c:Code}{L F:List Chunk}(cs:List Chunk)(t:aR cs L F)(h:aG P Q N c E cs):aG P Q N c E L:=
 aG.imp (fun w hm=>(hm.aP t).left) h
theorem YP(m:ML)(hwf:m.Wf):Fn Tryz.prog 18 #[m.val] [md m] [] (σ:=Unit) (fun _=>True) (fun _=>s8 (Ver.verify m.aC)) (fun _=>[]):=by
 obtain⟨W,hW⟩:∃W,W=Ver.verify m.aC:=⟨_,rfl⟩;rw[←hW];have hnu:m.aC.aJ.length=m.us.length:=aW;refine JE [m.val] Tryz.func18 Tryz.ntmps18 fun w S=>?_;refine Jn ?_;apply aG.fact m.Small (fun w hm=>(nI.1 (hm.has tk)).small);intro hsm;have hs2:=hsm.us
 repeat(refine Jy ?_;try intro b)
 obtain⟨cb,rfl⟩:=a7 b;obtain⟨wb,rfl⟩:=a7 b;obtain⟨mb,rfl⟩:=a7 b;(refine dV (aBu cb mb m hwf) fun s hs=>?_)
 by_cases hf:(Ver.form m.aC).err=0
 ·have hF:=formed (Ver.KG.1 hf)
  repeat(refine Jy ?_;try intro b)
  refine cK (σ:=Nat) (fun k=>k≤m.us.length∧Ver.mU m.aC 0 m.aC.aJ.length=Ver.mU m.aC k (m.us.length-k)) (fun k=>[(1,ptr mb),(2,ptr wb),(3,ptr cb),(17, .int .i64 m.us.length),(18, .int .i64 k)]) (fun _=>aO w S::md m::aF wb [.int .i64 0, .int .i64 0, .int .i64 0] 51::ck cb mb m) (fun k=>m.us.length-k) 0 ?_ fun k hs K1 hK1=>?_
  ·exact⟨bQ _,aW⟩
  refine Jn ?_;obtain⟨hk,hc⟩:=hs
  by_cases hkl:k<m.us.length
  ·rw[show m.us.length-k=(m.us.length-(k+1))+1 by omega]at hc;refine aD ?_;(refine dV (aAi cb mb m k hkl hF hwf) fun s hs=>?_)
   by_cases he:(Ver.code m.aC k).err=0
   ·rw[Ver.Q1 he]at hc
    repeat(refine Jy ?_;try intro b)
    refine End.bK hK1 (k+1) ?_ ?_
    ·exact⟨aA,hc⟩
    ·omega
   ·rw[Ver.Q0 he]at hc;have hWx:W=Ver.code m.aC k:=by
     rw[hW,Ver.OF hf (by rw[hc];exact he),hc]
    repeat(refine Jy ?_;try intro b)
    (refine End.fX (()) (he:=by exact nO hWx) (hp:=?_));trivial
  ·have hWx:W=Ver.owned m.aC 0 m.bx.length:=by
    rw[hW,Ver.OG hf (by rw[hc,show m.us.length-k=0 by omega];rfl)]
   refine aD ?_;(refine iN (aEK cb mb m hF) fun s hs=>?_);(refine End.fX (()) (he:=by exact nO hWx) (hp:=?_));trivial
 ·have hWx:W=Ver.form m.aC:=by rw[hW,Ver.OE hf]
  repeat(refine Jy ?_;try intro b)
  (refine End.fX (()) (he:=by exact nO hWx) (hp:=?_));trivial
end
end Vw
namespace Fr
abbrev aH:=List UInt8
def letter(c:UInt8):Bool:=(decide (97≤c.toNat)&&decide (c.toNat≤122))||decide (c.toNat=95)
def digit(c:UInt8):Bool:=decide (48≤c.toNat)&&decide (c.toNat≤57)
def word(c:UInt8):Bool:=letter c||digit c
def fA(ok:UInt8→Bool)(s:aH):Nat:=(s.takeWhile ok).length
def DW:aH:=[32,98,111,120,32,102,110,32,103,101,110,32,116,97,115,107,32,116,97,107,101,115,32,121,105,101,108,100,115,32,108,101,116,32,105,102,32,101,108,115,101,32,119,104,105,108,101,32,114,101,116,117,114,110,32,115,116,111,112,32,115,101,110,100,32,111,117,116,32,100,111,32,114,101,99,118,32,121,105,101,108,100,32,115,116,97,114,116,32,114,101,115,117,109,101,32,97,108,105,118,101,32,110,117,109,32,98,111,111,108,32,116,114,117,101,32,102,97,108,115,101,32,97,110,100,32,111,114,32,110,111,116,32]
def named(s:aH):Bool:=decide (1≤s.length)&&decide (s.length≤12)&&letter (s.headD 0)&& !Go.Lib.contains DW ([32] ++s ++[32])&&decide (fA word s=s.length)
def sY:List aH:=[[61,61],[33,61],[60,61],[62,61],[60],[62],[61],[43],[45],[42],[47],[37],[40],[41],[123],[125],[44],[59]]
def sign(s:aH):aH:=(sY.find? fun x=>x.isPrefixOf s).getD []
def space:Nat→aH→Nat
 |0,_=>0
 |_,[]=>0
 |n+1,c::r=>if c.toNat=32∨c.toNat=9∨c.toNat=10 then space n r+1 else if c.toNat=35 then(let k:=fA (fun c=>!decide (c.toNat=10)) (c::r);space n ((c::r).drop k)+k)else 0
structure Tok where
 kind:Int
 text:aH
 num:Int
 at_:Nat
 deriving DecidableEq
instance:Inhabited Tok:=⟨⟨0,[],0,0⟩⟩
def numOf(s:aH):Int:=s.foldl (fun n c=>n*10+((c.toNat:Int)-48)) 0
def p7(at_:Nat)(s:aH):Option Tok:=
 let c:=s.headD 0
 if letter c=true then some ⟨1,s.take (fA word s),0,at_⟩
 else if digit c=true then(if 15<fA digit s then none else some ⟨2,s.take (fA digit s),numOf (s.take (fA digit s)),at_⟩)
 else if sign s=[]then none else some ⟨3,sign s,0,at_⟩
def wD:Nat→Nat→aH→Option (List Tok)
 |0,_,_=>some []
 |n+1,at_,s=>
  let k:=space s.length s
  if s.length≤k then some []
  else match p7 (at_+k) (s.drop k)with
   |none=>none
   |some t=>(wD n (at_+k+t.text.length) (s.drop (k+t.text.length))).map (t::·)
def tokens(s:aH):Option (List Tok):=if 6000<s.length then none else wD (s.length+1) 0 s
end Fr
namespace Vw
open Go.RowKit Img
section
attribute [local irreducible] aE aG End aB Still aN aU RunT Fn aS
section
abbrev BB(c:UInt8):Value:= .int .u8 (c.toNat:Int)
abbrev yV(f:FuncId)(ok:UInt8→Bool):Prop:=∀c:UInt8,Fn Tryz.prog f #[BB c] [] [] (σ:=Unit) (fun _=>True) (fun _=> .bool (ok c)) (fun _=>[])
theorem FW:yV 83 Fr.letter:=fun c=>by
 refine JE [BB c] Tryz.func83 Tryz.ntmps83 fun w S=>?_;refine Jn ?_
 repeat' (first|(refine Fy ?_)|refine gQ (k:=fun h=>?_) (k':=fun h=>?_)|fail)
 all_goals refine End.aX () (he:=by refine jZ ?_;(first|(simp[Fr.letter, *];done)|(simp[Fr.letter];omega)|(rw[sA];simp[Fr.letter];omega)|(simp[Fr.letter, *];intros;omega))) (hp:=trivial)
theorem ES:yV 86 Fr.digit:=fun c=>by
 refine JE [BB c] Tryz.func86 Tryz.ntmps86 fun w S=>?_;refine Jn ?_
 repeat' (first|(refine Fy ?_)|refine gQ (k:=fun h=>?_) (k':=fun h=>?_)|fail)
 all_goals refine End.aX () (he:=by refine jZ ?_;(first|(simp[Fr.digit, *];done)|(simp[Fr.digit];omega)|(rw[sA];simp[Fr.digit];omega)|(simp[Fr.digit, *];intros;omega))) (hp:=trivial)
theorem aCk:yV 125 (fun c=>!decide (c.toNat=10)):=fun c=>by
 refine JE [BB c] Tryz.func125 Tryz.ntmps125 fun w S=>?_;refine a8 ?_;refine End.aX () (he:=by refine jZ ?_;(first|(simp[*];done)|(simp[];omega)|(rw[sA];simp[];omega)|(simp[*];intros;omega))) (hp:=trivial)
attribute [local irreducible] Fr.letter Fr.digit
theorem ZH:yV 85 Fr.word∧yV 156 Fr.word:=by
 constructor
 ·intro c;refine JE [BB c] Tryz.func85 Tryz.ntmps85 fun w S=>?_;refine Jn ?_
  repeat' (first|(refine Fy ?_)|(refine dV (FW c) fun s hs=>?_)|(refine dV (ES c) fun s hs=>?_)|refine gQ (k:=fun h=>?_) (k':=fun h=>?_)|fail)
  all_goals refine End.aX () (he:=by refine jZ ?_;unfold Fr.word;simp[*]) (hp:=trivial)
 ·intro c;refine JE [BB c] Tryz.func156 Tryz.ntmps156 fun w S=>?_;refine Jn ?_
  repeat' (first|(refine Fy ?_)|(refine dV (FW c) fun s hs=>?_)|(refine dV (ES c) fun s hs=>?_)|refine gQ (k:=fun h=>?_) (k':=fun h=>?_)|fail)
  all_goals refine End.aX () (he:=by refine jZ ?_;unfold Fr.word;simp[*]) (hp:=trivial)
theorem OJ{ok:UInt8→Bool}:∀{s:List UInt8} {n:Nat},n≤s.length→(∀j,j<n→ok (s.getD j 0)=true)→(n<s.length→ok (s.getD n 0)=false)→Fr.fA ok s=n
 |[],n,h,_,_=>by simp at h;subst h;rfl
 |c::r,0,_,_,h2=>by
  have:=h2 aW;unfold Fr.fA;rw[BU]
  simp_all
 |c::r,n+1,h,h1,h2=>by
  have h0:=h1 0 aA;have ih:=OJ (ok:=ok) (s:=r) (n:=n) (by simpa using h) (fun j hj=>by simpa using h1 (j+1) aA) (fun hn=>by simpa using h2 (by simpa using hn));unfold Fr.fA at *;rw[BU]
  simp_all
theorem BH(ok:UInt8→Bool)(s:List UInt8):Fr.fA ok s≤s.length:=(List.takeWhile_sublist _).length_le
theorem HO(t:List UInt8)(ht:t.length≤6000)(f:FuncId)(ok:UInt8→Bool)(hf:yV f ok)(hc:fW Tryz.prog f=true):
  Fn Tryz.prog 84 #[sv t, .func (.func f) #[] #[]] [] [] (σ:=Unit) (fun _=>True) (fun _=> .int .i64 (Fr.fA ok t:Nat)) (fun _=>[]):=by
 refine JE [sv t, .func (.func f) #[] #[]] Tryz.func84 Tryz.ntmps84 fun w S=>?_;refine a8 ?_;refine kS (σ:=Nat) (fun k=>k≤t.length∧∀j,j<k→ok (t.getD j 0)=true) (fun k=>[(0,sv t),(1, .func (.func f) #[] #[]),(5, .int .i64 k)]) (fun k=>[aO w S]) (fun k=>t.length-k) 0 ?_ fun k hk K hK=>?_
 ·exact⟨bQ _,fun j hj=>absurd hj (xE _)⟩
 refine Jn ?_
 by_cases h:k<t.length
 ·refine a8 ?_;refine aE.eE (h:=?_);refine aB.bA (hc:=hc) (spec:=hf _) (k:=?_);intro s hs;refine Jn ?_
  cases h2:ok (t.getD k 0)with
  |true=>
   refine a8 ?_;refine End.pY hK (k+1) ⟨h,fun j hj=>?_⟩ aA
   by_cases hjk:j=k
   ·rw[hjk];exact h2
   ·exact hk.2 j aA
  |false=>
   refine a8 ?_;exact End.aX () (he:=by rw[OJ hk.1 hk.2 (fun _=>h2)]) (hp:=trivial)
 ·refine a8 ?_;exact End.aX () (he:=by rw[OJ hk.1 hk.2 (fun hn=>absurd hn h)]) (hp:=trivial)
theorem aEi(a b:List UInt8)(ha:a.length≤6000)(hb:b.length≤6000):Fn Tryz.prog 154 #[sv a,sv b] [] [] (σ:=Unit) (fun _=>True) (fun _=> .bool (b.isPrefixOf a)) (fun _=>[]):=by
 refine JE [sv a,sv b] Tryz.func154 Tryz.ntmps154 fun w S=>?_;refine Jn ?_
 by_cases h:b.length≤a.length
 ·refine a8 ?_;refine End.aX () (he:=by refine jZ ?_;rw[sA,JV,List.isPrefixOf_iff_prefix,List.prefix_iff_eq_take];exact eq_comm) (hp:=trivial)
 ·refine a8 ?_;refine End.aX () (he:=by refine jZ ?_;rw[eq_comm,Bool.eq_false_iff];intro h';exact h (List.isPrefixOf_iff_prefix.1 h').length_le) (hp:=trivial)
theorem aEj(a b:List UInt8)(ha:a.length≤6000)(hb:b.length≤6000):Fn Tryz.prog 128 #[sv a,sv b] [] [] (σ:=Unit) (fun _=>True) (fun _=> .bool (b.isPrefixOf a)) (fun _=>[]):=by
 refine JE [sv a,sv b] Tryz.func128 Tryz.ntmps128 fun w S=>?_;refine a8 ?_;refine tT (aEi a b ha hb) fun s hs=>?_;exact End.aX () (he:=rfl) (hp:=trivial)
def gL(s:List UInt8):List Value:=[sv s]
instance:bH gL:=⟨fun _=>rfl,aK,fun a u hu=>by simp[gL]at hu;subst hu;rfl⟩
theorem aBq{α:Type} [Inhabited α]{p:α→Bool}{l:List α}(h:∀j,j<l.length→p (l.getD j default)=false):l.find? p=none:=by
 rw[List.find?_eq_none];intro x hx;obtain⟨j,hj,rfl⟩:=pC hx;have:=h j hj;rw[Jd,Je hj]at this;simpa using this
theorem RZ{α:Type} [Inhabited α]{p:α→Bool}:∀{l:List α} {k:Nat},k<l.length→(∀j,j<k→p (l.getD j default)=false)→p (l.getD k default)=true→l.find? p=some (l.getD k default)
 |[],k,h,_,_=>absurd h (xE _)
 |a::r,0,_,_,h2=>by rw[y8];simp_all
 |a::r,k+1,h,h1,h2=>by
  have h0:=h1 0 aA;rw[y8];have ih:=RZ (p:=p) (l:=r) (k:=k) (by simpa using h) (fun j hj=>by simpa using h1 (j+1) aA) (by simpa using h2)
  simp_all
theorem aGV(k:Nat):(Fr.sY.getD k default).length≤6000:=by
 by_cases h:k<18
 ·have:∀j<18,(Fr.sY.getD j default).length≤6000:=aK;exact this k h
 ·rw[Jd,yZ (by show 18≤k;omega)];exact bQ _
theorem aGT(t:List UInt8)(ht:t.length≤6000):Fn Tryz.prog 88 #[sv t] [] [] (σ:=Unit) (fun _=>True) (fun _=>sv (Fr.sign t)) (fun _=>[]):=by
 refine JE [sv t] Tryz.func88 Tryz.ntmps88 fun w S=>?_;refine Jn ?_;have hl:Fr.sY.length=18:=rfl
 repeat(refine Fy ?_;try intro b)
 apply aG.imp (fun w hm=>hm.jB (f:=gL) .head Fr.sY (n:=18) (by rfl) (by rfl) (by unfold maxLen;simp));refine kS (σ:=Nat) (fun k=>k≤18∧∀j,j<k→(Fr.sY.getD j default).isPrefixOf t=false) (fun k=>[(0,sv t),(5, .slice (some ⟨b,0,none⟩) 18 18),(6, .int .i64 (18:Int)),(7, .int .i64 k)]) (fun k=>[aO w S,arr (some ⟨b,0,none⟩) 18 18 9 gL Fr.sY]) (fun k=>18-k) 0 ?_ fun k hk K hK=>?_
 ·exact⟨bQ _,fun j hj=>absurd hj (xE _)⟩
 refine Jn ?_
 by_cases h:k<18
 ·refine a8 ?_;refine dV (aEj t (Fr.sY.getD k default) ht (aGV k)) fun s hs=>?_
  cases h2:(Fr.sY.getD k default).isPrefixOf t with
  |true=>
   refine a8 ?_;exact End.aX () (he:=by unfold Fr.sign;rw[RZ aA hk.2 h2];rfl) (hp:=trivial)
  |false=>
   refine a8 ?_;refine End.pY hK (k+1) ⟨h,fun j hj=>?_⟩ aA
   by_cases hjk:j=k
   ·rw[hjk];exact h2
   ·exact hk.2 j aA
 ·refine a8 ?_;refine End.aX () (he:=by unfold Fr.sign;rw[aBq (fun j hj=>hk.2 j aA)];rfl) (hp:=trivial)
end
theorem NC:∀(n:Nat) (s:List UInt8),s.length≤n→∀m,s.length≤m→Fr.space n s=Fr.space m s
 |0,s,h,m,_=>by
  obtain rfl:s=[]:=qC aA
  cases m<;>rfl
 |n+1,[],h,m,_=>by cases m<;>rfl
 |n+1,c::r,h,0,h2=>by simp at h2
 |n+1,c::r,h,m+1,h2=>by
  have h:r.length≤n:=by simpa using h
  have h2:r.length≤m:=by simpa using h2
  unfold Fr.space;rw[NC n r h m h2]
  split
  ·rfl
  ·split
   ·rename_i hc _
    have hj:1≤Fr.fA (fun c=>!decide (c.toNat=10)) (c::r):=by
     unfold Fr.fA;rw[BU]
     simp_all
    dsimp only;rw[NC n _ (by rw[fM,JW];omega) m (by rw[fM,JW];omega)]
   ·rfl
def sp(s:List UInt8):Nat:=Fr.space s.length s
theorem XB{c:UInt8}{r:List UInt8}(h:c.toNat=32∨c.toNat=9∨c.toNat=10):sp (c::r)=1+sp r:=by
 unfold sp;rw[JW,Fr.space,if_pos h,Nat.add_comm]
theorem XD{c:UInt8}{r:List UInt8}(h:¬(c.toNat=32∨c.toNat=9∨c.toNat=10))(h2:c.toNat=35):
  1≤Fr.fA (fun c=>!decide (c.toNat=10)) (c::r)∧sp (c::r)=Fr.fA (fun c=>!decide (c.toNat=10)) (c::r)+sp ((c::r).drop (Fr.fA (fun c=>!decide (c.toNat=10)) (c::r))):=by
 have hj:1≤Fr.fA (fun c=>!decide (c.toNat=10)) (c::r):=by
  unfold Fr.fA;rw[BU]
  simp_all
 refine⟨hj,?_⟩;unfold sp;rw[JW,Fr.space,if_neg h,if_pos h2,Nat.add_comm,NC _ _ (by rw[fM,JW];omega) _ (bS _)]
theorem XC{c:UInt8}{r:List UInt8}(h:¬(c.toNat=32∨c.toNat=9∨c.toNat=10))(h2:¬c.toNat=35):sp (c::r)=0:=by
 unfold sp;rw[JW,Fr.space,if_neg h,if_neg h2]
theorem NB:∀(n:Nat) (s:List UInt8),s.length≤n→sp s≤s.length
 |0,s,h=>by
  obtain rfl:s=[]:=qC aA;exact bS _
 |n+1,[],_=>bS _
 |n+1,c::r,h=>by
  have h:r.length≤n:=by simpa using h
  by_cases h1:c.toNat=32∨c.toNat=9∨c.toNat=10
  ·rw[XB h1,JW];have:=NB n r h;omega
  ·by_cases h2:c.toNat=35
   ·obtain⟨h3,h4⟩:=XD (r:=r) h1 h2;rw[h4];have h5:=BH (fun c=>!decide (c.toNat=10)) (c::r);have h6:=NB n ((c::r).drop (Fr.fA (fun c=>!decide (c.toNat=10)) (c::r))) (by rw[fM,JW];omega);rw[fM]at h6;omega
   ·rw[XC h1 h2];exact bQ _
attribute [local irreducible] Fr.letter Fr.digit Fr.word
theorem XE(t:List UInt8)(ht:t.length≤6000):Fn Tryz.prog 82 #[sv t] [] [] (σ:=Unit) (fun _=>True) (fun _=> .int .i64 (sp t:Nat)) (fun _=>[]):=by
 refine JE [sv t] Tryz.func82 Tryz.ntmps82 fun w S=>?_;refine a8 ?_;refine kS (σ:=Nat) (fun k=>k≤t.length∧sp t=k+sp (t.drop k)) (fun k=>[(0,sv t),(3, .int .i64 k)]) (fun k=>[aO w S]) (fun k=>t.length-k) 0 ?_ fun k hk K hK=>?_
 ·exact⟨bQ _,aW⟩
 refine Jn ?_;obtain⟨hk,hs⟩:=hk
 by_cases h:k<t.length
 ·have hd:t.drop k=t.getD k 0::t.drop (k+1):=drop_cons h;have hw:=BH (fun c=>!decide (c.toNat=10)) (t.drop k);rw[fM]at hw;have hj:=fun a b=>(XD (c:=t.getD k 0) (r:=t.drop (k+1)) a b);rw[←hd,List.drop_drop]at hj;have he:=fun a b=>(XC (c:=t.getD k 0) (r:=t.drop (k+1)) a b);have hb:=fun a=>(XB (c:=t.getD k 0) (r:=t.drop (k+1)) a);rw[←hd]at he hb
  repeat' (first|(refine Fy ?_)|(refine dV (HO (t.drop k) (by rw[fM];omega) _ _ aCk b7) fun s hs=>?_)|refine gQ (k:=fun h=>?_) (k':=fun h=>?_)|fail)
  ·exact End.pY hK (k+1) ⟨aA,by rw[hs,hb aA];omega⟩ aA
  ·exact End.pY hK (k+1) ⟨aA,by rw[hs,hb aA];omega⟩ aA
  ·exact End.pY hK (k+1) ⟨aA,by rw[hs,hb aA];omega⟩ aA
  ·obtain⟨h3,h4⟩:=hj aA aA;exact End.pY hK (k+Fr.fA (fun c=>!decide (c.toNat=10)) (t.drop k)) ⟨aA,aA⟩ aA
  ·exact End.aX () (he:=by rw[hs,he aA aA];rfl) (hp:=trivial)
 ·refine a8 ?_;exact End.aX () (he:=by rw[hs,iS aA];rfl) (hp:=trivial)
end
end Vw
namespace Vw
open Go.RowKit Img Go.Shelf
abbrev zR:Nat:=2
def aCg:Go.Shelf.Ren:=⟨fun|144=>155|143=>174|219=>183|217=>191|225=>192|224=>193|267=>194|266=>204|314=>205|n=>n,fun|9=>9|4=>4|3=>3|5=>5|46=>117|146=>345|51=>344|n=>n,fun|1=>zR|n=>n⟩
theorem aCf:Go.Proofs.Lays.n144 Tryz.prog aCg:={
 mixed:=b7
 f143:=Tryz.func174.trans (congrArg some b7)
 f144:=Tryz.func155.trans (congrArg some b7)
 f217:=Tryz.func191.trans (congrArg some b7)
 f219:=Tryz.func183.trans (congrArg some b7)
 f224:=Tryz.func193.trans (congrArg some b7)
 f225:=Tryz.func192.trans (congrArg some b7)
 f266:=Tryz.func204.trans (congrArg some b7)
 f267:=Tryz.func194.trans (congrArg some b7)
 f314:=Tryz.func205.trans (congrArg some b7)
 t3:=Tryz.underlying3
 a3:=Tryz.isAgg3
 z3:=Tryz.sizeOf3
 v3:=Tryz.zeroValue3
 t4:=Tryz.underlying4
 a4:=Tryz.isAgg4
 z4:=Tryz.sizeOf4
 v4:=Tryz.zeroValue4
 t5:=Tryz.underlying5
 a5:=Tryz.isAgg5
 z5:=Tryz.sizeOf5
 v5:=Tryz.zeroValue5
 t9:=Tryz.underlying9
 a9:=Tryz.isAgg9
 z9:=Tryz.sizeOf9
 v9:=Tryz.zeroValue9
 t46:=Tryz.underlying117
 a46:=Tryz.isAgg117
 z46:=Tryz.sizeOf117
 v46:=Tryz.zeroValue117
 t51:=Tryz.underlying344
 a51:=Tryz.isAgg344
 z51:=Tryz.sizeOf344
 v51:=Tryz.zeroValue344
 t146:=Tryz.underlying345
 a146:=Tryz.isAgg345
 z146:=Tryz.sizeOf345
 v146:=Tryz.zeroValue345
 g1:=by kernel_rfl}
@[irreducible] def cF : Chunk where
 holds w:=∃m,w.cell? ⟨zR,0,none⟩=some (.int .i64 m)
 dA b:=b=zR
 bE:=false
 lT k hs h:=by
  obtain⟨m,h⟩:=h;have hlt:=World.block_lt_of_cell? _ _ h;exact⟨m,by rw[k.cell (p:=⟨zR,0,none⟩) hlt (hs _ rfl)];exact h⟩
 lt h b hb:=by
  obtain⟨m,h⟩:=h;subst hb;exact World.block_lt_of_cell? _ _ h
theorem SR{w:World}:cF.holds w↔∃m,w.cell? ⟨zR,0,none⟩=some (.int .i64 m):=by unfold cF;exact Iff.rfl
@[simp] theorem FE : cF.bE = false := by unfold cF; rfl
theorem aHY(a b:List UInt8)(ha:a.length≤6000):Fn Tryz.prog 155 #[sv a,sv b] [cF] [] (σ:=Unit) (fun _=>True) (fun _=> .bool (Go.Lib.contains a b)) (fun _=>[]):=fun w hm=>by
 obtain⟨m,h⟩:=SR.1 (hm.all cF aW);refine(Any.strings_Contains aCf ⟨a.toArray⟩ ⟨b.toArray⟩ m w (by rw[wA];omega) h).mono ?_;rintro e w' ⟨rfl,rfl⟩;exact⟨(),trivial,rfl,aW,(A3 aW hm).sub aW⟩
end Vw
section
open Go.RowKit Go.ChangeShapes Go.WideShapes Go.ChangeAt
section
variable{H:Type}{enc:TypeId×Value→H}{P:Program}{w:World}
abbrev ED(enc:TypeId×Value→H)(P:Program)(w:World)(fuel:Nat)(t:TypeId)(cs:List Value)(x:DataW H×List MemPlace):Prop:=
 DataW.trod enc P w 0 (fun _=>true) true fuel t cs=some x
def Fits(P:Program)(t:TypeId)(d:DataW H):Prop:=∀n∈d.weights P t,n≤reachBytes
theorem R0{e:TypeId}:∀{l:List (DataW H)},(∀n∈DataW.weightsAll P e l,n≤reachBytes)→∀d∈l,Fits P e d
 |[],_,d,hd=>by cases hd
 |x::r,h,d,hd=>by
  simp only[DataW.weightsAll,dF]at h;rcases cY.1 hd with rfl|hd
  ·exact fun n hn=>h n (.inl hn)
  ·exact R0 (fun n hn=>h n (.inr hn)) d hd
theorem aBr{ts:List TypeId}{ds:List (DataW H)}(h:∀n∈DataW.weightsEach P ts ds,n≤reachBytes){j:Nat}{t:TypeId}{d:DataW H}(ht:ts[j]?=some t)(hd:ds[j]?=some d):Fits P t d:=
 fun n hn=>h n (DataW.weights_mem_each ht hd n hn)
theorem aFG{α:Type} [Inhabited α]{t e:TypeId}{size:Nat}(f:α→List Value)(Q:α→Prop)(ht:P.underlying t=some (.slice e))(hc:P.cellsOf e=size)(hs:0<size)
  (hel:∀fuel cs x,ED enc P w fuel e cs x→Fits P e x.1→cs.length=size→∃a,cs=f a∧Q a)
  {fuel:Nat} {cs:List Value} {x:DataW H×List MemPlace} (h:ED enc P w fuel t cs x) (hf:Fits P t x.1):
  ∃(v:Value) (l:List α),cs=[v]∧Row w v size l.length (l.flatMap f)∧(∀a∈l,Q a)∧l.length*P.bytesOf e≤reachBytes∧(∀b,v.ownBlock=some b→0<l.length→b<w.heap.size):=by
 rcases Deep.open_slice ht h with⟨rfl,rfl⟩|⟨a,len,cap,m,n,D,Pl,rfl,hb,hl,hm,hmm,rfl,hx⟩
 ·exact⟨_,[],rfl,⟨aW,bQ _,none,0,rfl,bS _,fun h=>by simp at h⟩,aW,aW,fun b h=>by cases h⟩
 ·simp only[if_true]at hmm;subst hmm;have hw:=hf;simp only[Fits,DataW.weights,ht,cY,dF]at hw;have hel':∀i,i<len→∃y:α,(∀j,j<size→w.cell? (a.add (i*size+j))=(f y)[j]?)∧(f y).length=size∧Q y:=by
   intro i hi;obtain⟨cs',h1,h2⟩:=hx i aA;rw[hc]at h1;obtain⟨-,h3,h4⟩:=World.cells?_some h1;obtain⟨y,rfl,hq⟩:=hel n cs' (D i,Pl i) h2 (R0 (fun n hn=>hw n (.inr (.inl hn))) (D i) (eY.2 ⟨i,by simpa using hi,rfl⟩)) h3;refine⟨y,fun j hj=>?_,h3,hq⟩;rw[←Deep.add_add];exact h4 j hj
  obtain⟨F,hF⟩:=Deep.choose_lt hel';refine⟨_,(List.range len).map F,rfl,?_,?_,?_,?_⟩
  ·have hlen:∀m,m≤len→(((List.range m).map F).flatMap f).length=m*size:=by
    intro m hm
    induction m with
    |zero=>simp
    |succ m ih=>
     rw[nT,Jq,r8,Jl,ih aA];simp[(hF m aA).2.1,Nat.add_mul]
   have hget:∀m,m≤len→∀j,j<m*size→w.cell? (a.add j)=(((List.range m).map F).flatMap f)[j]?:=by
    intro m hm
    induction m with
    |zero=>intro j hj;simp at hj
    |succ m ih=>
     intro j hj;rw[nT,Jq,r8]
     by_cases hjm:j<m*size
     ·rw[tD (by rw[hlen m aA];exact hjm)];exact ih aA j hjm
     ·rw[rD (by rw[hlen m aA];omega),hlen m aA];have:=(hF m aA).1 (j-m*size) (by rw[Nat.add_mul]at hj;omega);rw[show m*size+(j-m*size)=j by omega]at this;simpa using this
   refine⟨by simp only[Jf,List.length_range];exact hlen len (bS _),by simp;omega,some a,m,aW,by simpa using hl,fun hpos=>?_⟩;simp only[Jf,List.length_range]at hpos⊢;have h0:=hget len (bS _) 0 (Nat.mul_pos hpos hs);have hsome:(w.cell? (a.add 0)).isSome=true:=by
    rw[h0,Je (by rw[hlen len (bS _)];exact Nat.mul_pos hpos hs)];rfl
   obtain⟨b,off,spot⟩:=a;have hspot:spot=none:=by
    cases spot with
    |none=>rfl
    |some s=>
     unfold World.cell? Addr.add at hsome
     split at hsome<;>simp_all
   subst hspot;exact⟨b,off,rfl,fun j hj=>by rw[←Addr.add_lit];exact hget len (bS _) j hj⟩
  ·intro y hy;obtain⟨i,hi,rfl⟩:=eY.1 hy;exact(hF i (by simpa using hi)).2.2
  ·have:=hw _ (.inl rfl);simp only[Jf,List.length_range]at this⊢;refine dP (Nat.mul_le_mul_right _ ?_) this;omega
  ·intro b hb' hpos;simp only[Jf,List.length_range]at hpos;simp[Value.ownBlock]at hb';subst hb';obtain⟨y,hy1,hy2, -⟩:=hel' 0 hpos;have:=hy1 0 hs;rw[Je aA]at this;have hlt:=World.block_lt_of_cell? w _ this;have e1:(a.add (0*size+0)).block=a.block:=by unfold Addr.add;split<;>rfl
   rwa [e1]at hlt
theorem wf_i64{n:Int}(h:(Lit.int .i64 n).wf=true): -9223372036854775808≤n∧n≤9223372036854775807:=by
 simpa[Lit.wf,IntKind.min,IntKind.max,IntKind.signed,IntKind.bits]using h
theorem aCe{f:Func}{s:ChangeSpec}{W W':World}{args:Array Value}{ds gs:List (DataW H)}{before:List MemPlace}{tb:TypeId}
  (hl:laidOutB P=true) (hr:∀t∈f.params.toList,P.readableRec t=true∧t<P.types.size) (hrt:f.resultTypes= #[tb]) (htb:P.underlying tb=some .bool) (hsv:s.vars=[])
  (hW:DataW.Whole enc P f.params.toList s.vars false W args.toList ds gs before) (hfn:(s.fn H (ds ++gs))={results:=[.lit (.bool true)],args:=ds}) (hb:Below W.heap.size W W'):
  s.post enc P f false true false false W args (.bool true) W':=by
 have hlt:=hW.lt;have hW0:=hW;obtain⟨p,q,hA,hV,rfl,hfz,hnd⟩:=hW;rw[hsv]at hV;obtain⟨rfl,rfl⟩:=trodVars_none hV;have key:∀(ts:List TypeId) (vs:List Value) (ds:List (DataW H)) (p:List MemPlace),(∀t∈ts,P.readableRec t=true∧t<P.types.size)→(∀x∈p,x.block<W.heap.size)→
   DataW.TrodAll enc P W 0 (fun _=>true) true ts vs ds p→DataW.TrodAll enc P W' 0 (fun b=>decide (b<W.heap.size)) true ts vs ds p:=by
  intro ts
  induction ts with
  |nil=>intro vs ds p _ _ h;cases vs<;>cases ds<;>simp_all[DataW.TrodAll]
  |cons t ts ih=>
   intro vs ds p h1 h2 h
   cases vs with
   |nil=>simp[DataW.TrodAll]at h
   |cons v vs=>
    cases ds with
    |nil=>simp[DataW.TrodAll]at h
    |cons d ds=>
     obtain⟨p1,p2,h3,h4,rfl⟩:=h;have ht:=h1 t aW;exact⟨p1,p2,Below.trod hl ht.1 ht.2 h3 hb (fun x hx=>h2 x (by simp[hx])),ih vs ds p2 (fun t ht=>h1 t (by simp[ht])) (fun x hx=>h2 x (by simp[hx])) h4,rfl⟩
 refine⟨ds,[],_,[],p,[],hW0,?_,?_,?_,hb.frame _,fun h=>by cases h⟩
 ·rw[hfn,hrt];exact trodAll_mk1 (shut_bool htb true)
 ·rw[hfn];exact key _ _ _ _ hr (fun x hx=>hlt x (by simp[hx])) hA
 ·rw[hfn,hsv];rfl
end
section
variable{H:Type}{enc:TypeId×Value→H}{P:Program}{w:World}
theorem aAK(d:DataW H):1≤Rows.uptoBulk d:=by
 cases d with
 |lit l=>cases l<;>simp[Rows.uptoBulk]
 |nil=>simp[Rows.uptoBulk]
 |ptr d=>simp[Rows.uptoBulk]
 |slice elems spare=>simp[Rows.uptoBulk]
 |agg parts=>simp[Rows.uptoBulk]
 |iface t d=>simp[Rows.uptoBulk]
 |map entries=>simp[Rows.uptoBulk]
 |held h=>simp[Rows.uptoBulk]
theorem RH{e:TypeId}(he:P.underlying e=some (.int .i64)):∀fuel cs (x:DataW H×List MemPlace),ED enc P w fuel e cs x→cs.length=1→∃n:Int,cs=[.int .i64 n]∧ImgM.In64 n∧1≤Rows.uptoBulk x.1:=by
 intro fuel cs x h _;obtain⟨n,rfl,_,hw⟩:=DataW.trod_int he h;exact⟨n,rfl,wf_i64 hw,aAK _⟩
end
section
variable{H:Type}{enc:TypeId×Value→H}{w:World}
open Img
theorem QR:Tryz.prog.cellsOf 3=1:=b7
end
end
end Go.Proofs.YtofckcabpchcmaaGreatDoor
