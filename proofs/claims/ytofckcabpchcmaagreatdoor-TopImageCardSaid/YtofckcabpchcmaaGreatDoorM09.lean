/- Package verify, walked: what is asked of types, units, instructions, heads. -/
import Derived.Test.YtofckcabpchcmaaGreatDoorM08
set_option linter.unusedVariables false
set_option linter.unusedSimpArgs false
set_option linter.unusedSectionVars false
set_option maxRecDepth 100000
namespace Go.Proofs.YtofckcabpchcmaaGreatDoor
namespace Vw
open Go.RowKit Img
attribute [local irreducible] aE aG End aB Still aN aU RunT Fn aS
abbrev ck(cb mb:Nat)(m:ML):List Chunk:=[aF cb [.pointer (some ⟨mb,0,none⟩)] 128,aF mb [.slice m.bo m.bx.length m.bc, .slice m.uo m.us.length m.uc] 26]
abbrev ptr(b:Nat):Value:= .pointer (some ⟨b,0,none⟩)
theorem jZ{a b:Bool}(h:a=b):Value.bool a=Value.bool b:=by rw[h]
theorem int_eq{k:IntKind}{a b:Int}(h:a=b):Value.int k a=Value.int k b:=by rw[h]
theorem DB(t:Int):Fn Tryz.prog 71 #[.int .i64 t] [] [] (σ:=Unit) (fun _=>True) (fun _=> .bool (Ver.plain t)) (fun _=>[]):=by
 refine JE [.int .i64 t] Tryz.func71 Tryz.ntmps71 fun w S=>?_;refine Jn ?_
 repeat' (first|refine Jo ?_|(refine JB ?_;intro b)|(refine JA ?_;intro ao cap)|refine gQ (k:=fun h=>?_) (k':=fun h=>?_)|fail)
 all_goals ((refine End.aX (()) (he:=by refine jZ ?_;(first|(simp[Ver.plain, *];done)|(simp[Ver.plain];omega)|(rw[sA];simp[Ver.plain];omega)|(simp[Ver.plain, *];intros;omega))) (hp:=?_));trivial)
theorem YE(cb mb:Nat)(m:ML)(i k:Int):Fn Tryz.prog 114 #[ptr cb, .int .i64 i, .int .i64 k] [md m] (ck cb mb m) (σ:=Unit) (fun _=>True) (fun _=> .bool (Ver.isUnit m.aC i k)) (fun _=>ck cb mb m):=by
 refine JE [ptr cb, .int .i64 i, .int .i64 k] Tryz.func114 Tryz.ntmps114 fun w S=>?_;refine Jn ?_
 repeat' (first|refine Jo ?_|(refine JB ?_;intro b)|(refine JA ?_;intro ao cap)|refine gQ (k:=fun h=>?_) (k':=fun h=>?_)|fail)
 all_goals ((refine End.aX (()) (he:=by refine jZ ?_;(first|(simp[Ver.isUnit,sO, *];done)|(simp[Ver.isUnit,sO];omega)|(rw[sA];simp[Ver.isUnit,sO];omega)|(simp[Ver.isUnit,sO, *];intros;omega))) (hp:=?_));trivial)
theorem SY(cb mb:Nat)(m:ML)(t:Int)(ht:ImgM.In64 t):Fn Tryz.prog 113 #[ptr cb, .int .i64 t] [md m] (ck cb mb m) (σ:=Unit) (fun _=>True) (fun _=> .bool (Ver.handle m.aC t)) (fun _=>ck cb mb m):=by
 unfold ImgM.In64 at ht;refine JE [ptr cb, .int .i64 t] Tryz.func113 Tryz.ntmps113 fun w S=>?_;refine Jn ?_
 repeat' (first|(refine Jc ?_;refine aB.bA (spec:=YE cb mb m _ _) (k:=?_);intro s hs;refine Jn ?_)|refine Jo ?_|(refine JB ?_;intro b)|(refine JA ?_;intro ao cap)|refine gQ (k:=fun h=>?_) (k':=fun h=>?_)|fail)
 all_goals ((refine End.aX (()) (he:=by refine jZ ?_;(first|(simp[Ver.handle, *];done)|(simp[Ver.handle];omega)|(rw[sA];simp[Ver.handle];omega)|(simp[Ver.handle, *];intros;omega))) (hp:=?_));trivial)
theorem aCP(cb mb pb:Nat)(m:ML)(t:Int)(ht:ImgM.In64 t):Fn Tryz.prog 112 #[.int .i64 t,ptr pb] [md m] (aF pb [ptr cb] 126::ck cb mb m) (σ:=Unit) (fun _=>True) (fun _=> .bool (!Ver.plain t&& !Ver.handle m.aC t)) (fun _=>aF pb [ptr cb] 126::ck cb mb m):=by
 refine JE [.int .i64 t,ptr pb] Tryz.func112 Tryz.ntmps112 fun w S=>?_;refine Jn ?_
 repeat' (first|(refine Jc ?_;refine aB.bA (spec:=DB _) (k:=?_);intro s hs;refine Jn ?_)|(refine Jc ?_;refine aB.bA (spec:=SY cb mb m _ ht) (k:=?_);intro s hs;refine Jn ?_)|refine Jo ?_|(refine JB ?_;intro b)|(refine JA ?_;intro ao cap)|refine gQ (k:=fun h=>?_) (k':=fun h=>?_)|fail)
 all_goals ((refine End.aX (()) (he:=by refine jZ ?_;(first|(simp[*];done)|(simp[];omega)|(rw[sA];simp[];omega)|(simp[*];intros;omega))) (hp:=?_));trivial)
theorem aCY(ao:Option Addr)(n cap:Nat)(l:List Int)(hn:l.length=n)(hm:n≤9223372036854775807)(f:FuncId)(cp:List Value)(r:Chunk)(hr:r.bE=false)(pre:List Chunk)(hpx:∀c∈pre,c.bE=true)(p:Int→Bool)(hc:fW Tryz.prog f=true)
  (hf:∀x∈l,Fn Tryz.prog f (#[.int .i64 x] ++cp.toArray) [r] pre (σ:=Unit) (fun _=>True) (fun _=> .bool (p x)) (fun _=>pre)):
  Fn Tryz.prog 122 #[.slice ao n cap, .func (.func f) #[] cp.toArray] [rd ao n cap aY l,r] pre (fun s:Int=>decide (0≤s)=l.any p) (fun s=> .int .i64 s) (fun _=>pre):=by
 refine Fn.enter (args:=[.slice ao n cap, .func (.func f) #[] cp.toArray]) Tryz.func122 rfl _ Tryz.ntmps122 rfl (by simp[eO,hr]) (fun w S=>?_);refine aD ?_;apply aG.loop (σ:=Nat) (fun k=>k≤n∧∀j,j<k→p (l.getD j default)=false) (fun k=>[(0, .slice ao n cap),(1, .func (.func f) #[] cp.toArray),(7, .int .i64 n),(8, .int .i64 k)]) (fun _=>aO w S::rd ao n cap aY l::r::pre) (fun k=>n-k) 0
 rotate_left
 exact sb;exact aR.all _;intro k hs K hK;obtain⟨hk,hfn⟩:=hs
 rotate_left
 exact⟨aA,fun j hj=>aA⟩;simp only[eS];refine aD ?_
 by_cases h:k<n
 ·have hx:l.getD k default∈l:=by
   rw[Jd,Je (by omega:k<l.length)];exact hZ _
  refine aD ?_;refine aE.op aV (aB.call (hx:=aV) (hv:=n4) (hc:=hc) (hd:=aV) (spec:=hf _ hx) (t:= .skip (.skip (.skip (.all _)))) (r:=fun w=> .any tk hr .nil) (k:=?_));intro s hs
  cases hp:p (l.getD k default)with
  |true=>
   refine aD ?_;refine End.xN (k:Int) aV aV rfl ?_ hpx .zI rfl;have:l.any p=true:=uY.2 ⟨_,hx,hp⟩;rw[this];simp
  |false=>
   refine aD ?_;refine End.round hK (k+1) ⟨aA,fun j hj=>?_⟩ aA sb .back
   by_cases hjk:j=k
   ·subst hjk;exact hp
   ·exact hfn j aA
 ·refine aD ?_;refine End.xN (-1:Int) aV aV rfl ?_ hpx (.cons .head (.skip (.skip (.all _)))) rfl;have:l.any p=false:=by
   rw[List.any_eq_false];intro x hx;obtain⟨j,hj,rfl⟩:=pC hx;have:=hfn j aA;rw[Jd,Je hj]at this;simpa using this
  rw[this];rfl
theorem Q2(ao:Option Addr)(n cap:Nat)(l:List Int)(hn:l.length=n)(hm:n≤9223372036854775807)(f:FuncId)(cp:List Value)(r:Chunk)(hr:r.bE=false)(pre:List Chunk)(hpx:∀c∈pre,c.bE=true)(p:Int→Bool)(hc:fW Tryz.prog f=true)
  (hf:∀x∈l,Fn Tryz.prog f (#[.int .i64 x] ++cp.toArray) [r] pre (σ:=Unit) (fun _=>True) (fun _=> .bool (p x)) (fun _=>pre)):
  Fn Tryz.prog 77 #[.slice ao n cap, .func (.func f) #[] cp.toArray] [rd ao n cap aY l,r] pre (σ:=Unit) (fun _=>True) (fun _=> .bool (l.any p)) (fun _=>pre):=by
 refine Fn.enter (args:=[.slice ao n cap, .func (.func f) #[] cp.toArray]) Tryz.func77 rfl _ Tryz.ntmps77 rfl (by simp[eO,hr]) (fun w S=>?_);refine aD ?_;refine aE.op aV (aB.IH (hx:=aV) (hv:=n4) (hc:=b7) (hd:=aV) (spec:=aCY ao n cap l hn hm f cp r hr pre hpx p hc hf) (t:= .skip (.skip (.skip (.all _)))) (r:=fun w=> .rd tk (.any tk hr .nil)) (k:=?_));intro s hs;refine aD ?_;exact End.xN () aV aV (jZ hs) trivial hpx .zI rfl
theorem aCZ(ao:Option Addr)(n cap:Nat)(l:List ImgM.aT)(hn:l.length=n)(hm:n≤9223372036854775807)(f:FuncId)(cp:List Value)(r:Chunk)(hr:r.bE=false)(pre:List Chunk)(hpx:∀c∈pre,c.bE=true)(p:ImgM.aT→Bool)(hc:fW Tryz.prog f=true)
  (hf:∀x∈l,Fn Tryz.prog f (#[.agg (dB x).toArray] ++cp.toArray) [r] pre (σ:=Unit) (fun _=>True) (fun _=> .bool (p x)) (fun _=>pre)):
  Fn Tryz.prog 124 #[.slice ao n cap, .func (.func f) #[] cp.toArray] [rd ao n cap dB l,r] pre (fun s:Int=>decide (0≤s)=l.any p) (fun s=> .int .i64 s) (fun _=>pre):=by
 refine Fn.enter (args:=[.slice ao n cap, .func (.func f) #[] cp.toArray]) Tryz.func124 rfl _ Tryz.ntmps124 rfl (by simp[eO,hr]) (fun w S=>?_);refine aD ?_;apply aG.loop (σ:=Nat) (fun k=>k≤n∧∀j,j<k→p (l.getD j default)=false) (fun k=>[(0, .slice ao n cap),(1, .func (.func f) #[] cp.toArray),(7, .int .i64 n),(8, .int .i64 k)]) (fun _=>aO w S::rd ao n cap dB l::r::pre) (fun k=>n-k) 0
 rotate_left
 exact sb;exact aR.all _;intro k hs K hK;obtain⟨hk,hfn⟩:=hs
 rotate_left
 exact⟨aA,fun j hj=>aA⟩;simp only[eS];refine aD ?_
 by_cases h:k<n
 ·have hx:l.getD k default∈l:=by
   rw[Jd,Je (by omega:k<l.length)];exact hZ _
  refine aD ?_;refine aE.op aV (aB.call (hx:=aV) (hv:=n4) (hc:=hc) (hd:=aV) (spec:=hf _ hx) (t:= .skip (.skip (.skip (.all _)))) (r:=fun w=> .any tk hr .nil) (k:=?_));intro s hs
  cases hp:p (l.getD k default)with
  |true=>
   refine aD ?_;refine End.xN (k:Int) aV aV rfl ?_ hpx .zI rfl;have:l.any p=true:=uY.2 ⟨_,hx,hp⟩;rw[this];simp
  |false=>
   refine aD ?_;refine End.round hK (k+1) ⟨aA,fun j hj=>?_⟩ aA sb .back
   by_cases hjk:j=k
   ·subst hjk;exact hp
   ·exact hfn j aA
 ·refine aD ?_;refine End.xN (-1:Int) aV aV rfl ?_ hpx (.cons .head (.skip (.skip (.all _)))) rfl;have:l.any p=false:=by
   rw[List.any_eq_false];intro x hx;obtain⟨j,hj,rfl⟩:=pC hx;have:=hfn j aA;rw[Jd,Je hj]at this;simpa using this
  rw[this];rfl
theorem aAm(ao:Option Addr)(n cap:Nat)(l:List ImgM.aT)(hn:l.length=n)(hm:n≤9223372036854775807)(f:FuncId)(cp:List Value)(r:Chunk)(hr:r.bE=false)(pre:List Chunk)(hpx:∀c∈pre,c.bE=true)(p:ImgM.aT→Bool)(hc:fW Tryz.prog f=true)
  (hf:∀x∈l,Fn Tryz.prog f (#[.agg (dB x).toArray] ++cp.toArray) [r] pre (σ:=Unit) (fun _=>True) (fun _=> .bool (p x)) (fun _=>pre)):
  Fn Tryz.prog 80 #[.slice ao n cap, .func (.func f) #[] cp.toArray] [rd ao n cap dB l,r] pre (σ:=Unit) (fun _=>True) (fun _=> .bool (l.any p)) (fun _=>pre):=by
 refine Fn.enter (args:=[.slice ao n cap, .func (.func f) #[] cp.toArray]) Tryz.func80 rfl _ Tryz.ntmps80 rfl (by simp[eO,hr]) (fun w S=>?_);refine aD ?_;refine aE.op aV (aB.IH (hx:=aV) (hv:=n4) (hc:=b7) (hd:=aV) (spec:=aCZ ao n cap l hn hm f cp r hr pre hpx p hc hf) (t:= .skip (.skip (.skip (.all _)))) (r:=fun w=> .rd tk (.any tk hr .nil)) (k:=?_));intro s hs;refine aD ?_;exact End.xN () aV aV (jZ hs) trivial hpx .zI rfl
theorem aC0(ao:Option Addr)(n cap:Nat)(l:List Int)(hn:l.length=n)(hm:n≤9223372036854775807)(v:Int):
  Fn Tryz.prog 148 #[.slice ao n cap, .int .i64 v] [rd ao n cap aY l] [] (fun s:Int=>decide (0≤s)=decide (v∈l)) (fun s=> .int .i64 s) (fun _=>[]):=by
 refine JE [.slice ao n cap, .int .i64 v] Tryz.func148 Tryz.ntmps148 fun w S=>?_;refine aD ?_;refine kS (σ:=Nat) (fun k=>k≤n∧∀j,j<k→l.getD j default≠v) (fun k=>[(0, .slice ao n cap),(1, .int .i64 v),(7, .int .i64 n),(8, .int .i64 k)]) (fun _=>[aO w S,rd ao n cap aY l]) (fun k=>n-k) 0 ?_ fun s hs K hK=>?_
 ·exact⟨aA,fun j hj=>aA⟩
 refine Jn ?_
 rename Nat=>k
 obtain⟨hk,hfn⟩:=hs
 by_cases h:k<n
 ·have hx:l.getD k default∈l:=by
   rw[Jd,Je (by omega:k<l.length)];exact hZ _
  by_cases hv:v=l.getD k default
  ·refine aD ?_;refine cL (k:Int) ?_;rw[hv,decide_eq_true hx];simp
  ·refine aD ?_;refine End.pY hK (k+1) ?_ ?_
   ·refine⟨aA,fun j hj=>?_⟩
    by_cases hjk:j=k
    ·subst hjk;exact fun h=>hv h.symm
    ·exact hfn j aA
   ·omega
 ·refine aD ?_;refine cL (-1:Int) ?_;have:v∉l:=by
   intro hx;obtain⟨j,hj,rfl⟩:=pC hx;have:=hfn j aA;rw[Jd,Je hj]at this;simp at this
  simp[this]
theorem aAn(ao:Option Addr)(n cap:Nat)(l:List Int)(hn:l.length=n)(hm:n≤9223372036854775807)(v:Int):
  Fn Tryz.prog 123 #[.slice ao n cap, .int .i64 v] [rd ao n cap aY l] [] (σ:=Unit) (fun _=>True) (fun _=> .bool (decide (v∈l))) (fun _=>[]):=by
 refine JE [.slice ao n cap, .int .i64 v] Tryz.func123 Tryz.ntmps123 fun w S=>?_;refine aD ?_;(refine iN (aC0 ao n cap l hn hm v) fun s hs=>?_);(refine End.aX (()) (he:=by exact jZ hs) (hp:=?_));trivial
theorem aCl{l l':List Int}(n:Nat)(hn:l.length=n)(hm:l'.length=n)(h:∀j,j<n→l.getD j default=l'.getD j default):l=l':=
 pE aA (fun j h1 h2=>by have:=h j aA;simpa[Jd,h1,h2]using this)
theorem aB3(ao bo:Option Addr)(n m cap cap':Nat)(l l':List Int)(hn:l.length=n)(hm:l'.length=m)(hn2:n≤9223372036854775807)(hm2:m≤9223372036854775807):
  Fn Tryz.prog 116 #[.slice ao n cap, .slice bo m cap'] [rd ao n cap aY l,rd bo m cap' aY l'] [] (σ:=Unit) (fun _=>True) (fun _=> .bool (decide (l=l'))) (fun _=>[]):=by
 refine JE [.slice ao n cap, .slice bo m cap'] Tryz.func116 Tryz.ntmps116 fun w S=>?_;refine Jn ?_
 by_cases hnm:n=m
 ·subst hnm;refine aD ?_;refine kS (σ:=Nat) (fun k=>k≤n∧∀j,j<k→l.getD j default=l'.getD j default) (fun k=>[(0, .slice ao n cap),(1, .slice bo n cap'),(12, .int .i64 n),(13, .int .i64 k)]) (fun _=>[aO w S,rd ao n cap aY l,rd bo n cap' aY l']) (fun k=>n-k) 0 ?_ fun s hs K hK=>?_
  ·exact⟨aA,fun j hj=>aA⟩
  refine Jn ?_
  rename Nat=>k
  obtain⟨hk,hfn⟩:=hs
  by_cases h:k<n
  ·by_cases hv:l.getD k default=l'.getD k default
   ·refine aD ?_;refine End.pY hK (k+1) ?_ ?_
    ·refine⟨aA,fun j hj=>?_⟩
     by_cases hjk:j=k
     ·subst hjk;exact hv
     ·exact hfn j aA
    ·omega
   ·refine aD ?_;(refine End.aX (()) (he:=by exact jZ (Eq.symm (decide_eq_false (fun h=>hv (by rw[h]))))) (hp:=?_));trivial
  ·refine aD ?_;(refine End.aX (()) (he:=by exact jZ (Eq.symm (decide_eq_true (aCl n hn hm (fun j hj=>hfn j aA))))) (hp:=?_));trivial
 ·refine aD ?_;(refine End.aX (()) (he:=by exact jZ (Eq.symm (decide_eq_false (fun h=>hnm (by rw[←hn,←hm,h]))))) (hp:=?_));trivial
theorem aAf(ao:Option Addr)(n cap:Nat)(l:List Int)(hn:l.length=n)(hm:n≤1000000000):
  Fn Tryz.prog 34 #[.slice ao n cap] [rd ao n cap aY l] [] (σ:=Option Addr×Nat) (fun _=>True) (fun s=> .slice s.1 n s.2) (fun s=>[arr s.1 n s.2 3 aY l]):=by
 refine JE [.slice ao n cap] Tryz.func34 Tryz.ntmps34 fun w S=>?_;refine Jn ?_
 cases ao with
 |none=>
  apply aG.fact (n=0) (fun w hm=>by
   obtain⟨⟨-, -,ao',cap',he, -,h4⟩, -⟩:=jJ.1 (hm.has (.tail .head));rcases Nat.eq_zero_or_pos n with h|h
   ·exact h
   ·obtain⟨b,off,rfl, -⟩:=h4 h;simp at he)
  rintro rfl;obtain rfl:l=[]:=qC hn;refine aD ?_;apply End.imp (fun w hm=>hm.cU 3 aY);exact fZ (none,0)
 |some a0=>
  repeat(refine Jy ?_;try intro b)
  apply aE.imp (fun w hm=>hm.jB .head ([]:List Int) rfl rfl (by unfold maxLen;simp));refine aD ?_;apply aE.op aV;refine aB.xJ (k:=?_);intro ao cap;simp only[sD,Jk];refine aD ?_;exact fZ (_,_)
theorem aAe(ao:Option Addr)(n cap:Nat)(l:List Bool)(hn:l.length=n)(hm:n≤1000000000):
  Fn Tryz.prog 117 #[.slice ao n cap] [rd ao n cap oK l] [] (σ:=Option Addr×Nat) (fun _=>True) (fun s=> .slice s.1 n s.2) (fun s=>[arr s.1 n s.2 4 oK l]):=by
 refine JE [.slice ao n cap] Tryz.func117 Tryz.ntmps117 fun w S=>?_;refine Jn ?_
 cases ao with
 |none=>
  apply aG.fact (n=0) (fun w hm=>by
   obtain⟨⟨-, -,ao',cap',he, -,h4⟩, -⟩:=jJ.1 (hm.has (.tail .head));rcases Nat.eq_zero_or_pos n with h|h
   ·exact h
   ·obtain⟨b,off,rfl, -⟩:=h4 h;simp at he)
  rintro rfl;obtain rfl:l=[]:=qC hn;refine aD ?_;apply End.imp (fun w hm=>hm.cU 4 oK);exact fZ (none,0)
 |some a0=>
  repeat(refine Jy ?_;try intro b)
  apply aE.imp (fun w hm=>hm.jB .head ([]:List Bool) rfl rfl (by unfold maxLen;simp));refine aD ?_;apply aE.op aV;refine aB.xJ (k:=?_);intro ao cap;simp only[sD,Jk];refine aD ?_;exact fZ (_,_)
abbrev up(m:ML)(k:Nat):Value:= .pointer (place (sz m6) m.uo k 0)
abbrev lP(i:ImgM.aT):Value:= .agg (dB i).toArray
set_option maxHeartbeats 1000000 in
theorem aC3(cb mb:Nat)(m:ML)(k:Nat)(hk:k<m.us.length)(i:ImgM.aT):Fn Tryz.prog 73 #[ptr cb,up m k,lP i] [md m] (ck cb mb m) (σ:=Unit) (fun _=>True) (fun _=> .int .i64 (Ver.eV m.aC (m.us.getD k default).u i)) (fun _=>ck cb mb m):=by
 refine JE [ptr cb,up m k,lP i] Tryz.func73 Tryz.ntmps73 fun w S=>?_;refine Jn ?_
 repeat' (first|(refine Jc ?_;refine aB.bA (spec:=YE cb mb m _ _) (k:=?_);intro s hs;refine Jn ?_)|refine Jo ?_|(refine JB ?_;intro b)|(refine JA ?_;intro ao cap)|refine gQ (k:=fun h=>?_) (k':=fun h=>?_)|fail)
 all_goals ((refine End.aX (()) (he:=by refine int_eq ?_;unfold Ver.eV;(first|(simp[Ver.kG,ML.aC, *];done)|((try simp only[Ver.kG,ML.aC]);(repeat' split);all_goals (first|rfl|omega|(simp_all;done)|(simp_all;omega))))) (hp:=?_));trivial)
structure SH where
 st:List Int
 so:Option Addr
 sc:Nat
 hs:List Bool
 ho:Option Addr
 hc:Nat
instance:Inhabited SH:=⟨⟨[],none,0,[],none,0⟩⟩
def o0(x:SH):Value:= .agg #[.slice x.so x.st.length x.sc, .slice x.ho x.hs.length x.hc]
structure FS where
 st:List Int
 so:Option Addr
 sc:Nat
 err:Int
structure FR where
 dZ:List (Int×SH)
 todo:List Int
 to_:Option Addr
 tc:Nat
 has:List Bool
 ho:Option Addr
 hc:Nat
def FR.at_(r:FR):List (Int×Ver.Shape):=r.dZ.map fun p=>(p.1,(p.2.st,p.2.hs))
def aQ(r:FR)(s:FS):Ver.aZ:=⟨r.at_,r.todo,s.st,r.has,s.err⟩
abbrev rJ(cb ab:Nat)(u:Value)(r:FR)(s:FS):List Value:=
 [.pointer (some ⟨cb,0,none⟩),u, .map (some ab), .slice r.to_ r.todo.length r.tc, .slice s.so s.st.length s.sc, .slice r.ho r.has.length r.hc, .int .i64 s.err]
abbrev fm(fb cb ab:Nat)(u:Value)(r:FR)(s:FS):List Chunk:=[aF fb (rJ cb ab u r s) 195,arr s.so s.st.length s.sc 3 aY s.st]
abbrev RN(e e0:Int):Int:=if e0=0 then e else e0
abbrev mW(e:Int)(s:FS):FS:=⟨s.st,s.so,s.sc,RN e s.err⟩
theorem n6(r:FR)(s:FS)(e:Int):aQ r (mW e s)=Ver.fail e (aQ r s):=by
 unfold Ver.fail aQ
 by_cases h:s.err=0<;>simp[h]
theorem aBl(fb cb ab:Nat)(u:Value)(r:FR)(z:FS)(e E:Int)(hE:RN e z.err=E):Fn Tryz.prog 115 #[ptr fb, .int .i64 e] [] [aF fb (rJ cb ab u r z) 195] (σ:=Unit) (fun _=>True) (fun _=> .tuple #[]) (fun _=>[aF fb (rJ cb ab u r ⟨z.st,z.so,z.sc,E⟩) 195]):=by
 by_cases h0:z.err=0
 ·obtain rfl:E=e:=by rw[←hE];exact if_pos h0
  refine JE [ptr fb, .int .i64 E] Tryz.func115 Tryz.ntmps115 fun w S=>?_;refine aD ?_;(refine End.dL (()) (hp:=?_));trivial
 ·obtain rfl:E=z.err:=by rw[←hE];exact if_neg h0
  refine JE [ptr fb, .int .i64 e] Tryz.func115 Tryz.ntmps115 fun w S=>?_;refine aD ?_;(refine End.dL (()) (hp:=?_));trivial
theorem n5(fb cb ab:Nat)(u:Value)(r:FR)(z:FS)(e:Int):Fn Tryz.prog 115 #[ptr fb, .int .i64 e] [] [aF fb (rJ cb ab u r z) 195] (σ:=Unit) (fun _=>True) (fun _=> .tuple #[]) (fun _=>[aF fb (rJ cb ab u r (mW e z)) 195]):=aBl fb cb ab u r z e _ rfl
theorem yB(fb cb ab:Nat)(u:Value)(r:FR)(z:FS)(hl:z.st.length≤1000):Fn Tryz.prog 120 #[ptr fb] [] (fm fb cb ab u r z) (fun z'=>aQ r z'=(Ver.pop (aQ r z)).2) (fun _=> .int .i64 (Ver.pop (aQ r z)).1) (fun z'=>fm fb cb ab u r z'):=by
 by_cases h0:z.st.length=0
 ·have hp:Ver.pop (aQ r z)=(0,Ver.fail 12 (aQ r z)):=by unfold Ver.pop;exact if_pos h0
  rw[hp];refine JE [ptr fb] Tryz.func120 Tryz.ntmps120 fun w S=>?_;refine aD ?_;(refine iN (n5 fb cb ab u r z 12) fun s hs=>?_);refine cL (mW 12 z) ?_;exact n6 r z 12
 ·have hp:Ver.pop (aQ r z)=(z.st.getD (z.st.length-1) default,{aQ r z with stack:=z.st.take (z.st.length-1)}):=by unfold Ver.pop;exact if_neg h0
  rw[hp];have hn:IntKind.i64.wrap ((z.st.length:Int)-1)=((z.st.length-1:Nat):Int):=by rw[dX aA];omega
  have hlen:(z.st.take (z.st.length-1)).length=z.st.length-1:=aW;refine JE [ptr fb] Tryz.func120 Tryz.ntmps120 fun w S=>?_;refine Jn ?_
  repeat(refine Jy ?_;try intro ao cap)
  (refine End.aX ((⟨z.st.take (z.st.length-1),ao,cap,z.err⟩:FS)) (he:=Jv) (ht:=Jx) (hp:=?_));rfl
theorem jU(fb cb ab:Nat)(u:Value)(r:FR)(z:FS)(t:Int)(hl:z.st.length≤1000):Fn Tryz.prog 118 #[ptr fb, .int .i64 t] [] (fm fb cb ab u r z) (fun z'=>aQ r z'=Ver.push t (aQ r z)) (fun _=> .tuple #[]) (fun z'=>fm fb cb ab u r z'):=by
 by_cases h0:300<z.st.length+1
 ·have hp:Ver.push t (aQ r z)=Ver.fail 4 {aQ r z with stack:=z.st ++[t]}:=by unfold Ver.push;exact if_pos h0
  rw[hp];refine JE [ptr fb, .int .i64 t] Tryz.func118 Tryz.ntmps118 fun w S=>?_;refine Jn ?_
  repeat(refine Jy ?_;try first|intro ao cap|intro b)
  (refine eM (n5 fb cb ab u r ⟨z.st ++[t],ao,cap,z.err⟩ 4) fun s hs=>?_);(refine End.dL (mW 4 ⟨z.st ++[t],ao,cap,z.err⟩) (ht:=Jx) (hp:=?_));exact n6 r ⟨z.st ++[t],ao,cap,z.err⟩ 4
 ·have hp:Ver.push t (aQ r z)={aQ r z with stack:=z.st ++[t]}:=by unfold Ver.push;exact if_neg h0
  rw[hp];refine JE [ptr fb, .int .i64 t] Tryz.func118 Tryz.ntmps118 fun w S=>?_;refine Jn ?_
  repeat(refine Jy ?_;try first|intro ao cap|intro b)
  (refine End.dL ((⟨z.st ++[t],ao,cap,z.err⟩:FS)) (ht:=Jx) (hp:=?_));rfl
theorem EU(fb cb ab:Nat)(u:Value)(r:FR)(z:FS)(hl:z.st.length≤1000):Fn Tryz.prog 146 #[ptr fb] [] (fm fb cb ab u r z) (fun z'=>aQ r z'=Ver.done (aQ r z)) (fun _=> .bool false) (fun z'=>fm fb cb ab u r z'):=by
 by_cases h0:z.st.length=0
 ·have hp:Ver.done (aQ r z)=aQ r z:=by unfold Ver.done;exact if_pos h0
  rw[hp];refine JE [ptr fb] Tryz.func146 Tryz.ntmps146 fun w S=>?_;refine aD ?_;refine cL z ?_;rfl
 ·have hp:Ver.done (aQ r z)=Ver.fail 12 (aQ r z):=by unfold Ver.done;exact if_neg h0
  rw[hp];refine JE [ptr fb] Tryz.func146 Tryz.ntmps146 fun w S=>?_;refine aD ?_;(refine iN (n5 fb cb ab u r z 12) fun s hs=>?_);refine cL (mW 12 z) ?_;exact n6 r z 12
theorem DD(f:Ver.aZ):(Ver.pop f).2.stack.length≤f.stack.length:=by
 unfold Ver.pop Ver.fail
 split
 ·split<;>simp
 ·simp
theorem aIP(t:Int)(f:Ver.aZ):(Ver.lX t f).stack.length≤f.stack.length:=by
 have:=DD f;unfold Ver.lX
 split
 ·unfold Ver.fail;split<;>exact this
 ·exact this
theorem lY(l:List Int)(f:Ver.aZ):(Ver.want l f).stack.length≤f.stack.length:=by
 induction l with
 |nil=>exact bS _
 |cons t r ih=>exact dP (aIP t _) ih
theorem lJ(fb cb ab:Nat)(u:Value)(r:FR)(z:FS)(ao:Option Addr)(n cap:Nat)(l:List Int)(hn:l.length=n)(hn2:n≤1000)(hl:z.st.length≤1000):
  Fn Tryz.prog 119 #[ptr fb, .slice ao n cap] [rd ao n cap aY l] (fm fb cb ab u r z) (fun z'=>aQ r z'=Ver.want l (aQ r z)) (fun _=> .tuple #[]) (fun z'=>fm fb cb ab u r z'):=by
 refine JE [ptr fb, .slice ao n cap] Tryz.func119 Tryz.ntmps119 fun w S=>?_;refine aD ?_;refine kS (σ:=Nat×FS) (fun s=>s.1≤n∧aQ r s.2=Ver.want (l.drop s.1) (aQ r z)) (fun s=>[(0,ptr fb),(1, .slice ao n cap),(4, .int .i64 ((s.1:Int)-1))]) (fun s=>aO w S::rd ao n cap aY l::fm fb cb ab u r s.2) (fun s=>s.1) (n,z) ?_ fun s hs K hK=>?_
 ·exact⟨bS _,by rw[iS (by simp only;omega)];rfl⟩
 refine Jn ?_;obtain⟨k,y⟩:=s;obtain⟨hk,hy⟩:=hs;simp only at hk hy hK⊢;have hyl:y.st.length≤1000:=by
  have h1:=lY (l.drop k) (aQ r z);rw[←hy]at h1;exact dP h1 hl
 by_cases hk0:k=0
 ·subst hk0;refine aD ?_;(refine End.dL (y) (hp:=?_));exact hy
 ·obtain⟨j,rfl⟩:∃j,k=j+1:=⟨k-1,aA⟩;have hd:Ver.want (l.drop j) (aQ r z)=Ver.lX (l.getD j default) (aQ r y):=by rw[drop_cons aA,hy];rfl
  have hj:(((j+1:Nat):Int)-1)=(j:Int):=aA;rw[hj];refine aD ?_;(refine dV (yB fb cb ab u r y hyl) fun s hs=>?_)
  by_cases hv:(Ver.pop (aQ r y)).1=l.getD j default
  ·refine aD ?_;refine End.pY hK (j,s) ?_ ?_
   ·refine⟨by simp only;omega,?_⟩;rw[hd,Ver.lX,if_neg (fun h=>h hv)];exact hs
   ·simp only;omega
  ·refine aD ?_;obtain⟨y',rfl⟩:∃y',y'=s:=⟨_,rfl⟩;have hy1:=hs;(refine iN (n5 fb cb ab u r y' 9) fun s hs=>?_);refine End.pY hK (j,mW 9 y') ?_ ?_
   ·refine⟨by simp only;omega,?_⟩;rw[hd,Ver.lX,if_pos hv,n6,hy1]
   ·simp only;omega
structure Ok(M:ImgM.aL):Prop where
 boxes:M.boxes.length≤30
 aJ:M.aJ.length≤30
 head:∀k,k<M.aJ.length→Ver.head M (M.aJ.getD k default)=0
 eV:∀k,k<M.aJ.length→∀i∈(M.aJ.getD k default).code,Ver.eV M (M.aJ.getD k default) i=0
theorem xW{M:ImgM.aL}{u:ImgM.bM}(h:Ver.head M u=0):u.locals.length≤200∧0≤u.params∧u.params≤6∧u.params≤u.locals.length∧1≤u.code.length∧u.code.length≤4000:=by
 unfold Ver.head at h
 split at h
 ·cases h
 split at h
 ·cases h
 split at h
 ·cases h
 omega
theorem PM(fb cb ab mb:Nat)(u:Value)(m:ML)(r:FR)(z:FS)(hl:z.st.length≤1000)(k:Nat)(hk:k<m.us.length)(hh:Ver.head m.aC (m.us.getD k default).u=0):
  Fn Tryz.prog 145 #[ptr fb, .int .i64 k] [md m] (fm fb cb ab u r z ++ck cb mb m) (fun z'=>aQ r z'=Ver.args m.aC k (aQ r z)) (fun _=>up m k) (fun z'=>fm fb cb ab u r z' ++ck cb mb m):=by
 obtain⟨h1,h2,h3,h4,h5,h6⟩:=xW hh;have ha:Ver.args m.aC k (aQ r z)=Ver.want ((m.us.getD k default).u.locals.take (m.us.getD k default).u.params.toNat) (aQ r z):=by
  unfold Ver.args;rw[Jj,ML.jK]
 rw[ha];refine JE [ptr fb, .int .i64 k] Tryz.func145 Tryz.ntmps145 fun w S=>?_;refine Jn ?_;refine aD ?_;refine b8 10 [md m,aF fb (rJ cb ab u r z) 195,aF cb [.pointer (some ⟨mb,0,none⟩)] 128,aF mb [.slice m.bo m.bx.length m.bc, .slice m.uo m.us.length m.uc] 26] 11 ?_;refine bR [0,1,2,3,4,5,6,7,8] ?_;(refine JT 9 ?_;refine aB.aAx (m:=m) (k:=k) (kk:=?_);intro ao cap;refine JG ?_;refine Jn ?_);(refine JT 10 ?_;refine aB.bA (spec:=lJ fb cb ab u r z ao _ cap ((m.us.getD k default).u.locals.take (m.us.getD k default).u.params.toNat) (List.length_take_of_le aA) aA hl) (k:=?_);intro s hs;refine JG ?_;refine Jn ?_);refine b6 ?_;refine aD ?_;refine cL s ?_;exact hs
theorem Q3(x:SH)(h1:x.st.length≤1000000)(h2:x.hs.length≤1000000):Fn Tryz.prog 75 #[o0 x] [rd x.so x.st.length x.sc aY x.st,rd x.ho x.hs.length x.hc oK x.hs] [] (fun y:SH=>y.st=x.st∧y.hs=x.hs) o0 (fun y=>[arr y.so y.st.length y.sc 3 aY y.st,arr y.ho y.hs.length y.hc 4 oK y.hs]):=by
 refine JE [o0 x] Tryz.func75 Tryz.ntmps75 fun w S=>?_;refine Jn ?_
 repeat(refine Jy ?_;try intro b)
 rename_i b1
 refine b8 7 [aF b1 [.slice x.so x.st.length x.sc, .slice x.ho x.hs.length x.hc] 193] 8 ?_;refine bR [0,1,3,4] ?_;refine lN 2 (aAf x.so x.st.length x.sc x.st rfl aA) fun s hs=>?_;obtain⟨ao,ac⟩:=s;refine lN 5 (aAe x.ho x.hs.length x.hc x.hs rfl aA) fun s hs=>?_;obtain⟨bo,bc⟩:=s;refine JR 6 ?_;refine gWl [7] ?_;refine b6 ?_;refine aD ?_;(refine End.fX ((⟨x.st,ao,ac,x.hs,bo,bc⟩:SH)) (he:=by rfl) (hp:=?_));exact⟨rfl,rfl⟩
theorem aEe(f:Ver.aZ)(h:∀t∈f.stack,ImgM.In64 t):ImgM.In64 (Ver.pop f).1:=by
 unfold Ver.pop
 split
 ·unfold ImgM.In64;simp only;omega
 ·refine h _ ?_;rw[Jd,Je aA];exact hZ _
def KP(m:ML):Option Int→Value
 |none=> .pointer none
 |some k=>up m k.toNat
theorem SG(fb cb ab mb:Nat)(u:Value)(m:ML)(r:FR)(z:FS)(hl:z.st.length≤1000)(ht:∀t∈z.st,ImgM.In64 t):
  Fn Tryz.prog 147 #[ptr fb] [md m] (fm fb cb ab u r z ++ck cb mb m) (fun z'=>aQ r z'=(Ver.gen m.aC (aQ r z)).2) (fun _=>KP m (Ver.gen m.aC (aQ r z)).1) (fun z'=>fm fb cb ab u r z' ++ck cb mb m):=by
 refine JE [ptr fb] Tryz.func147 Tryz.ntmps147 fun w S=>?_;refine Jn ?_;refine aD ?_;(refine dV (yB fb cb ab u r z hl) fun s hs=>?_);have ht':=aEe (aQ r z) ht;generalize hp:(Ver.pop (aQ r z)).1=t at *;have hg:Ver.gen m.aC (aQ r z)=if s.err≠0 then(none,aQ r s)else if Ver.handle m.aC t=false then(none,Ver.fail 9 (aQ r s))else(some (t-10),aQ r s):=by
  unfold Ver.gen;rw[←hs,hp];rfl
 obtain⟨y,rfl⟩:∃y,y=s:=⟨_,rfl⟩;clear hs
 by_cases he:y.err=0
 ·rw[if_neg (fun h=>h he)]at hg;refine aD ?_;(refine dV (SY cb mb m t ht') fun s hs=>?_)
  cases hh:Ver.handle m.aC t with
  |false=>
   rw[hh,if_pos rfl]at hg;rw[hg];refine aD ?_;(refine iN (n5 fb cb ab u r y 9) fun s hs=>?_);refine cL (mW 9 y) ?_;exact n6 r y 9
  |true=>
   rw[hh,if_neg aK]at hg;rw[hg];unfold ImgM.In64 at ht';have hh':=hh;simp only[Ver.handle,Ver.isUnit,JX,JV,Jf]at hh';obtain⟨g1,⟨g2,g3⟩,g4⟩:=hh';clear g4;refine aD ?_;(refine End.aX (y) (he:=by rfl) (hp:=?_));rfl
 ·rw[if_pos he]at hg;rw[hg];refine aD ?_;refine cL y ?_;rfl
end Vw
end Go.Proofs.YtofckcabpchcmaaGreatDoor
