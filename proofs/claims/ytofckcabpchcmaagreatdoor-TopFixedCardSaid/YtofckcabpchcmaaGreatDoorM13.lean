/- Package lex, walked: Tokens. -/
import Derived.Test.YtofckcabpchcmaaGreatDoorM12
set_option linter.unusedVariables false
set_option linter.unusedSimpArgs false
set_option linter.unusedSectionVars false
set_option maxRecDepth 100000
namespace Go.Proofs.YtofckcabpchcmaaGreatDoor
namespace Vw
open Go.RowKit Img
attribute [local irreducible] aE aB End aA Still aM aP RunT Fn aO
def p8(t:Fr.Tok):List Value:=[.int .i64 t.kind,sv t.text, .int .i64 t.num, .int .i64 (t.at_:Int)]
instance:bF p8:=⟨fun _=>rfl,by decide,fun a u hu=>by simp[p8]at hu;rcases hu with rfl|rfl|rfl|rfl<;>rfl⟩
abbrev aBS(e a:Int):Value:= .agg #[.int .i64 e, .int .i64 a]
structure uF where
 o:Option Addr
 c:Nat
 l:List Fr.Tok
 e:Int
 a:Int
theorem N1{ok:UInt8→Bool}{s:List UInt8}(h:0<s.length)(h2:ok (s.getD 0 0)=true):1≤Fr.eO ok s:=by
 cases s with
 |nil=>simp at h
 |cons c r=>unfold Fr.eO;rw[AV];simp_all
theorem aH8{ok:UInt8→Bool}{s:List UInt8}:∀c∈s.take (Fr.eO ok s),ok c=true:=fun c hc=>by
 unfold Fr.eO at hc;rw[←List.prefix_iff_eq_take.1 (List.takeWhile_prefix ok)]at hc;have h:=List.all_takeWhile (p:=ok) (l:=s);exact sL.1 h c hc
theorem aFc(s:List UInt8):(Fr.sign s).length≤s.length:=by
 unfold Fr.sign
 cases h:Fr.rZ.find? fun x=>x.isPrefixOf s with
 |none=>exact bP _
 |some x=>have:=List.find?_some h;exact(List.isPrefixOf_iff_prefix.1 this).length_le
theorem NF{a:Nat}{s:List UInt8}{k:Fr.Tok}(hs:0<s.length)(h:Fr.o8 a s=some k):1≤k.text.length∧k.text.length≤s.length:=by
 unfold Fr.o8 at h;rw[show s.headD 0=s.getD 0 0 by cases s<;>rfl]at h;dsimp only at h
 split at h
 ·rename_i hl
  have hw:Fr.word (s.getD 0 0)=true:=by unfold Fr.word;rw[hl];rfl
  cases h
  have:=AI Fr.word s;exact⟨by show 1≤(s.take _).length;rw[lE];have:=N1 hs hw;omega,by show(s.take _).length≤_;rw[lE];omega⟩
 ·split at h
  ·rename_i hd
   split at h
   ·cases h
   ·cases h
    have:=AI Fr.digit s;exact⟨by show 1≤(s.take _).length;rw[lE];have:=N1 hs hd;omega,by show(s.take _).length≤_;rw[lE];omega⟩
  ·split at h
   ·cases h
   ·rename_i hg
    cases h
    exact⟨JP.2 hg,aFc s⟩
theorem WN:∀(n:Nat) (a:Nat) (s:List UInt8),s.length<n→∀m,s.length<m→Fr.vH n a s=Fr.vH m a s
 |0,a,s,h,m,_=>absurd h (wC _)
 |n+1,a,s,h,0,h2=>absurd h2 (wC _)
 |n+1,a,s,h,m+1,h2=>by
  unfold Fr.vH;dsimp only
  split
  ·rfl
  ·rename_i hk
   cases ht:Fr.o8 (a+Fr.space s.length s) (s.drop (Fr.space s.length s))with
   |none=>rfl
   |some k=>
    dsimp only;have:=NF (by rw[fC];omega) ht;rw[WN n _ _ (by rw[fC];omega) m (by rw[fC];omega)]
def r9(t:List UInt8)(k:Nat):Option (List Fr.Tok):=Fr.vH (t.length+1) k (t.drop k)
theorem aGk{t:List UInt8}{k:Nat}(hk:k≤t.length)(h:¬k+sp (t.drop k)<t.length):r9 t k=some []:=by
 unfold r9;rw[Fr.vH];rw[if_pos (show(t.drop k).length≤Fr.space (t.drop k).length (t.drop k) by have:sp (t.drop k)=Fr.space (t.drop k).length (t.drop k):=rfl;rw[←this,fC];omega)]
theorem aGl{t:List UInt8}{k:Nat}(hk:k≤t.length)(h:k+sp (t.drop k)<t.length):
  r9 t k=match Fr.o8 (k+sp (t.drop k)) (t.drop (k+sp (t.drop k)))with
   |none=>none
   |some x=>(r9 t (k+sp (t.drop k)+x.text.length)).map (x::·):=by
 have e:sp (t.drop k)=Fr.space (t.drop k).length (t.drop k):=rfl;unfold r9;rw[Fr.vH];rw[if_neg (by rw[←e,fC];omega),←e,List.drop_drop]
 cases hx:Fr.o8 (k+sp (t.drop k)) (t.drop (k+sp (t.drop k)))with
 |none=>rfl
 |some x=>
  dsimp only;have:=NF (by rw[fC];omega) hx;rw[fC]at this;rw[List.drop_drop,WN t.length _ _ (by rw[fC];omega) (t.length+1) (by rw[fC];omega),Nat.add_assoc]
theorem aGn{a:Nat}{s:List UInt8}(h:Fr.letter (s.getD 0 0)=true):Fr.o8 a s=some ⟨1,s.take (Fr.eO Fr.word s),0,a⟩:=by
 unfold Fr.o8;rw[show s.headD 0=s.getD 0 0 by cases s<;>rfl];dsimp only;rw[if_pos h]
theorem WJ{a:Nat}{s:List UInt8}(h:Fr.letter (s.getD 0 0)=false)(h2:Fr.digit (s.getD 0 0)=true):Fr.o8 a s=if 15<Fr.eO Fr.digit s then none else some ⟨2,s.take (Fr.eO Fr.digit s),Fr.numOf (s.take (Fr.eO Fr.digit s)),a⟩:=by
 unfold Fr.o8;rw[show s.headD 0=s.getD 0 0 by cases s<;>rfl];dsimp only;rw[if_neg (by rw[h];decide),if_pos h2]
theorem WL{a:Nat}{s:List UInt8}(h:Fr.letter (s.getD 0 0)=false)(h2:Fr.digit (s.getD 0 0)=false):Fr.o8 a s=if Fr.sign s=[]then none else some ⟨3,Fr.sign s,0,a⟩:=by
 unfold Fr.o8;rw[show s.headD 0=s.getD 0 0 by cases s<;>rfl];dsimp only;rw[if_neg (by rw[h];decide),if_neg (by rw[h2];decide)]
attribute [local irreducible] Fr.letter Fr.digit Fr.word Fr.sign Fr.numOf Fr.eO Fr.space sp r9
set_option maxHeartbeats 1000000 in
theorem aGo(t:List UInt8)(hn:t.length≤9223372036854775807):Fn Tryz.prog 48 #[sv t] [] [] (σ:=uF) (fun s=>(s.e=0∧Fr.tokens t=some s.l)∨(s.e≠0∧Fr.tokens t=none)) (fun s=> .tuple #[.slice s.o s.l.length s.c,aBS s.e s.a]) (fun s=>[arr s.o s.l.length s.c 202 p8 s.l]):=by
 refine JE [sv t] Tryz.func48 Tryz.ntmps48 fun w S=>?_;refine Jn ?_
 by_cases h:6000<t.length
 ·repeat(refine Fy ?_;try intro b)
  apply End.imp (fun w hm=>hm.bY 202 p8);exact End.nQ (⟨none,0,[],4,0⟩:uF) (.inr ⟨by decide,by unfold Fr.tokens;rw[if_pos h]⟩) (by exact rfl)
 have e0:Fr.tokens t=r9 t 0:=by unfold Fr.tokens r9;rw[if_neg h,List.drop_zero]
 repeat(refine Fy ?_;try intro b)
 refine JQ (V0 t (by omega)) ?_;intro s hs;refine Jn ?_
 repeat(refine Fy ?_)
 apply aB.imp (fun w hm=>hm.bY 202 p8);rw[show sp t=0+sp (t.drop 0) by rw[List.drop_zero,uD]];refine aB.only ((fun z:Nat×uF=>[aI w S,aD b [.int .i64 0, .int .i64 0] 70,arr z.2.o z.2.l.length z.2.c 202 p8 z.2.l]) (0,⟨none,0,[],0,0⟩)) (aK) ?_;apply aB.loop (σ:=Nat×uF) (fun z=>z.1≤t.length∧z.2.l.length≤z.1∧Fr.tokens t=(r9 t z.1).map (z.2.l ++ ·)) (fun z=>[(0,sv t),(3,ptr b),(4, .slice z.2.o z.2.l.length z.2.c),(5, .int .i64 ((z.1+sp (t.drop z.1):Nat):Int))]) (fun z:Nat×uF=>[aI w S,aD b [.int .i64 0, .int .i64 0] 70,arr z.2.o z.2.l.length z.2.c 202 p8 z.2.l]) (fun z=>t.length-z.1) (0,⟨none,0,[],0,0⟩)
 rotate_left
 exact sb;exact aK;intro z hz K hK;(refine Jn ?_)
 rotate_left
 ·exact⟨bP _,bP _,by rw[e0];simp⟩
 obtain⟨k,x⟩:=z;obtain⟨hk,hlen,htk⟩:=hz;dsimp only at hk hlen htk⊢;obtain⟨q,hqe⟩:∃q,q=k+sp (t.drop k):=⟨_,rfl⟩;rw[←hqe]
 by_cases hq:q<t.length
 ·have hnx:=aGl hk (by omega);rw[←hqe]at hnx;obtain⟨u,hue⟩:∃u,u=t.drop q:=⟨_,rfl⟩;have hsl:0<u.length:=by rw[hue,fC];omega
  have hsl2:u.length≤6000:=by rw[hue,fC];omega
  have hsl3:u.length+q=t.length:=by rw[hue,fC];omega
  have hex:=fun k=>NF (a:=q) (k:=k) hsl
  rw[←hue]at hnx;have hw1:=AI Fr.word u;have hw2:=AI Fr.digit u
  repeat(refine Fy ?_;try intro b)
  rw[←hue]
  repeat(refine Fy ?_)
  obtain⟨tb,rfl⟩:∃x,x=b:=⟨_,rfl⟩;refine JQ (EI (u.getD 0 0)) ?_;intro s hs;refine Jn ?_
  repeat(refine Fy ?_)
  refine A8 (σ:=Fr.Tok) (fun y=>Fr.o8 q u=some y) (fun y=>[(0,sv t),(3,ptr b),(4, .slice x.o x.l.length x.c),(5, .int .i64 (q:Int)),(7,ptr tb)]) (fun y=>[aI w S,aD b [.int .i64 0, .int .i64 0] 70,arr x.o x.l.length x.c 202 p8 x.l,aD tb (p8 y) 202]) ?_ ?_
  ·intro y hy;obtain⟨y1,y2⟩:=hex y hy
   repeat(refine Fy ?_;try first|intro ao cap|intro b)
   refine JQ (V0 (t.drop (q+y.text.length)) (by rw[fC];omega)) ?_;intro s hs;refine Jn ?_;have hsp:=MS _ (t.drop (q+y.text.length)) (cG _);rw[fC]at hsp
   repeat(refine Fy ?_)
   rw[show x.l.length+1=(x.l ++[y]).length by simp,show(q:Int)+(y.text.length:Int)+(sp (t.drop (q+y.text.length)):Int)=((q+y.text.length+sp (t.drop (q+y.text.length)):Nat):Int) by omega];refine End.bK hK (q+y.text.length,⟨ao,cap,x.l ++[y],0,0⟩) ⟨by show q+y.text.length≤_;omega,by simp;omega,?_⟩ (by show t.length-(q+y.text.length)<t.length-k;omega);rw[htk,hnx,hy];dsimp only
   cases r9 t (q+y.text.length)<;>simp
  intro K' hK'
  cases hl:Fr.letter (u.getD 0 0)with
  |true=>
   repeat(refine Fy ?_)
   apply aB.draw 7 ([]) (by kernel_rfl) 8 rfl;refine JR 0 ?_;refine JR 1 ?_;refine JR 4 ?_;(refine JT 2 ?_;refine aA.aZ (spec:=GO u hsl2 _ _ X9.1 (by kernel_rfl)) (k:=?_);intro s hs;refine JG ?_);refine RunT.a7 3 (hy:=Fs) (h:=?_);(refine JT 5 ?_;(refine Jw ?_);refine JG ?_);refine JR 6 ?_;(refine JT 7 ?_;(refine Jw ?_);refine JG ?_);(apply RunT.done;kernel_rfl)
   repeat(refine Fy ?_)
   refine End.some_ hK' (⟨1,u.take (Fr.eO Fr.word u),0,q⟩:Fr.Tok) ?_;exact aGn hl
  |false=>
   repeat(refine Fy ?_)
   refine JQ (DR (u.getD 0 0)) ?_;intro s hs;refine Jn ?_
   repeat(refine Fy ?_)
   cases hd:Fr.digit (u.getD 0 0)with
   |true=>
    repeat(refine Fy ?_)
    apply aB.draw 7 ([]) (by kernel_rfl) 8 rfl;refine JR 0 ?_;refine JR 1 ?_;refine JR 4 ?_;(refine JT 2 ?_;refine aA.aZ (spec:=GO u hsl2 _ _ DR (by kernel_rfl)) (k:=?_);intro s hs;refine JG ?_);refine RunT.a7 3 (hy:=Fs) (h:=?_);(refine JT 5 ?_;(refine Jw ?_);refine JG ?_);refine JR 6 ?_;(refine JT 7 ?_;(refine Jw ?_);refine JG ?_);(apply RunT.done;kernel_rfl);have hdg:= @aH8 Fr.digit u;have hlt:(u.take (Fr.eO Fr.digit u)).length=Fr.eO Fr.digit u:=by rw[lE];omega
    by_cases h15:15<Fr.eO Fr.digit u
    ·repeat(refine Fy ?_)
     apply End.imp (fun w hm=>hm.bY 202 p8);exact End.nQ (⟨none,0,[],3,q⟩:uF) (.inr ⟨by show(3:Int)≠0;decide,by rw[htk,hnx,WJ hl hd,if_pos h15];rfl⟩) (by exact rfl)
    ·repeat(refine Fy ?_)
     refine JQ (aDv (u.take (Fr.eO Fr.digit u)) (by have:=N1 hsl hd;omega) (by omega) hdg) ?_;intro s hs;refine Jn ?_
     repeat(refine Fy ?_)
     refine End.some_ hK' (⟨2,u.take (Fr.eO Fr.digit u),Fr.numOf (u.take (Fr.eO Fr.digit u)),q⟩:Fr.Tok) ?_;rw[WJ hl hd,if_neg h15]
   |false=>
    repeat(refine Fy ?_)
    refine JQ (aFb u hsl2) ?_;intro s hs;refine Jn ?_
    repeat(refine Fy ?_)
    by_cases hg:Fr.sign u=[]
    ·rw[hg]
     repeat(refine Fy ?_)
     apply End.imp (fun w hm=>hm.bY 202 p8);exact End.nQ (⟨none,0,[],2,q⟩:uF) (.inr ⟨by show(2:Int)≠0;decide,by rw[htk,hnx,WL hl hd,if_pos hg];rfl⟩) (by exact rfl)
    ·have hg':decide (Fr.sign u=[])=false:=decide_eq_false hg
     repeat(refine Fy ?_)
     refine End.some_ hK' (⟨3,Fr.sign u,0,q⟩:Fr.Tok) ?_;rw[WL hl hd,if_neg hg]
 ·repeat(refine Fy ?_)
  exact End.nQ (⟨x.o,x.c,x.l,0,0⟩:uF) (.inl ⟨rfl,by rw[htk,aGk hk (by omega)];simp⟩) (by exact rfl)
end Vw
namespace Fr
structure Ty where
 kind:Int
 gen:aF
 deriving DecidableEq
instance:Inhabited Ty:=⟨⟨0,[]⟩⟩
inductive Ex where
 |mk (kind:Int) (n:Int) (name:aF) (kids:List Ex)
namespace Ex
def kind:Ex→Int|mk k _ _ _=>k
def n:Ex→Int|mk _ n _ _=>n
def name:Ex→aF|mk _ _ s _=>s
def kids:Ex→List Ex|mk _ _ _ l=>l
end Ex
instance:Inhabited Ex:=⟨.mk 0 0 [] []⟩
inductive St where
 |mk (kind:Int) (name:aF) (x:Ex) (body eY:List St)
namespace St
def kind:St→Int|mk k _ _ _ _=>k
def name:St→aF|mk _ s _ _ _=>s
def x:St→Ex|mk _ _ x _ _=>x
def body:St→List St|mk _ _ _ b _=>b
def eY:St→List St|mk _ _ _ _ e=>e
end St
instance:Inhabited St:=⟨.mk 0 [] default [] []⟩
structure Pm where
 name:aF
 type:Ty
instance:Inhabited Pm:=⟨⟨[],default⟩⟩
structure Df where
 kind:Int
 name:aF
 type:Ty
 aS:Ty
 cap:Int
 params:List Pm
 body:List St
instance:Inhabited Df:=⟨⟨0,[],default,default,0,[],[]⟩⟩
abbrev Rd(α:Type):=List Tok→Option (α×List Tok)
def is(s:aF)(l:List Tok):Option (List Tok):=match l with
 |t::r=>if t.text=s then some r else none
 |[]=>none
def pW(ss:List aF)(l:List Tok):Option (List Tok):=match ss with
 |[]=>some l
 |s::r=>(is s l).bind (pW r)
def name:Rd aF
 |t::r=>if t.kind=1∧named t.text=true then some (t.text,r)else none
 |[]=>none
def number:Rd Int
 |t::r=>if t.kind=2 then some (t.num,r)else none
 |[]=>none
--words,as bytes
def XT:aF:=[110,117,109]
def XK:aF:=[98,111,111,108]
def XL:aF:=[98,111,120]
def XP:aF:=[102,110]
def XQ:aF:=[103,101,110]
def X2:aF:=[116,97,115,107]
def X1:aF:=[116,97,107,101,115]
def X6:aF:=[121,105,101,108,100,115]
def XR:aF:=[105,102]
def XN:aF:=[101,108,115,101]
def X4:aF:=[119,104,105,108,101]
def XS:aF:=[108,101,116]
def XX:aF:=[114,101,116,117,114,110]
def X0:aF:=[115,116,111,112]
def XY:aF:=[115,101,110,100]
def XU:aF:=[111,117,116]
def XM:aF:=[100,111]
def X3:aF:=[116,114,117,101]
def XO:aF:=[102,97,108,115,101]
def XV:aF:=[114,101,99,118]
def X5:aF:=[121,105,101,108,100]
def XW:aF:=[114,101,115,117,109,101]
def XJ:aF:=[97,108,105,118,101]
def XZ:aF:=[115,116,97,114,116]
def wOr:aF:=[111,114]
def aHY:aF:=[97,110,100]
def CU:aF:=[110,111,116]
def o1:aF:=[40]
def pY:aF:=[41]
def TQ:aF:=[123]
def LY:aF:=[125]
def w9:aF:=[44]
def FG:aF:=[59]
def FF:aF:=[61]
def B7:aF:=[45]
def gK:Rd Ty:=fun l=>match is XT l with
 |some r=>some (⟨1,[]⟩,r)
 |none=>match is XK l with
  |some r=>some (⟨2,[]⟩,r)
  |none=>(name l).map fun(s,r)=>(⟨3,s⟩,r)
def ops:Nat→List (aF×Int)×Bool
 |0=>([(wOr,18)],false)
 |1=>([(aHY,17)],false)
 |2=>([([61,61],11),([33,61],12),([60],13),([60,61],14),([62],15),([62,61],16)],true)
 |3=>([([43],6),([45],7)],false)
 |_=>([([42],8),([47],9),([37],10)],false)
def nY(n:Nat)(s:aF):Int:=(((ops n).1.find? fun x=>decide (x.1=s)).map (·.2)).getD 0
def more(n:Nat)(next:Rd Ex):Nat→Ex→Rd Ex
 |0,x,l=>some (x,l)
 |k+1,x,l=>match l with
  |[]=>some (x,[])
  |t::r=>
   if nY n t.text=0 then some (x,t::r)
   else(next r).bind fun(y,r')=>if(ops n).2=true then some (.mk (nY n t.text) 0 [] [x,y],r')else more n next k (.mk (nY n t.text) 0 [] [x,y]) r'
def levels(un:Rd Ex):Nat→Rd Ex
 |0=>un
 |k+1=>fun l=>(levels un k l).bind fun(x,r)=>more (4-k) (levels un k) (r.length+1) x r
def listed{α:Type}(one:Rd α):Nat→Bool→Rd (List α)
 |n,first,l=>match is pY l with
  |some r=>some ([],r)
  |none=>match n with
   |0=>none
   |n+1=>(if first then some l else is w9 l).bind fun l=>(one l).bind fun(x,r)=>(listed one n false r).map fun(xs,r)=>(x::xs,r)
def args(one:Rd Ex):Rd (List Ex):=fun l=>(is o1 l).bind (listed one 6 true)
def wP(one:Rd Ex):Nat→Bool→Rd (List Ex)
 |0,_,l=>some ([],l)
 |n+1,first,l=>(if first then some l else is w9 l).bind fun l=>(one l).bind fun(x,r)=>(wP one n false r).map fun(xs,r)=>(x::xs,r)
def fixed(one:Rd Ex)(kind:Int)(n:Nat):Rd Ex:=fun l=>(is o1 l).bind fun l=>(wP one n true l).bind fun(xs,r)=>(is pY r).map fun r=>(.mk kind 0 [] xs,r)
def uY(one:Rd Ex):Rd Ex:=fun l=>
 if 0<l.length∧(l.headD default).kind=2 then(number l).map fun(n,r)=>(.mk 1 n [] [],r)
 else match is X3 l with
 |some r=>some (.mk 2 1 [] [],r)
 |none=>match is XO l with
 |some r=>some (.mk 2 0 [] [],r)
 |none=>match is o1 l with
 |some r=>(one r).bind fun(x,r)=>(is pY r).map fun r=>(x,r)
 |none=>match is XV l with
 |some r=>(is o1 r).bind fun r=>(name r).bind fun(s,r)=>(is pY r).map fun r=>(.mk 20 0 s [],r)
 |none=>match is X5 l with
 |some r=>fixed one 21 1 r
 |none=>match is XW l with
 |some r=>fixed one 23 2 r
 |none=>match is XJ l with
 |some r=>fixed one 24 1 r
 |none=>match is XZ l with
 |some r=>(name r).bind fun(s,r)=>(args one r).map fun(xs,r)=>(.mk 22 0 s xs,r)
 |none=>(name l).bind fun(s,r)=>match is o1 r with
  |some _=>(args one r).map fun(xs,r)=>(.mk 19 0 s xs,r)
  |none=>some (.mk 3 0 s [],r)
def unary(inner:Rd Ex)(prim:Rd Ex):Rd Ex:=fun l=>match is B7 l with
 |some r=>(inner r).map fun(x,r)=>(.mk 4 0 [] [x],r)
 |none=>match is CU l with
  |some r=>(inner r).map fun(x,r)=>(.mk 5 0 [] [x],r)
  |none=>prim l
def exprs:Nat→Rd Ex×Rd Ex
 |0=>(fun _=>none,unary (fun _=>none) (uY fun _=>none))
 |f+1=>
  let u:=(exprs f).2
  let e:=levels u 5
  (e,unary u (uY e))
def expr(f:Nat):Rd Ex:=(exprs f).1
def params:Rd (List Pm):=fun l=>(is o1 l).bind (listed (fun l=>(name l).bind fun(s,r)=>(gK r).map fun(t,r)=>(⟨s,t⟩,r)) 6 true)
def stats(one:Rd St):Nat→Rd (List St)
 |n,l=>match is LY l with
  |some r=>some ([],r)
  |none=>match n with
   |0=>none
   |n+1=>(one l).bind fun(x,r)=>(stats one n r).map fun(xs,r)=>(x::xs,r)
def rY(kind:Int)(s:aF)(x:Ex)(l:List Tok):Option (St×List Tok):=(is FG l).map fun r=>(.mk kind s x [] [],r)
def stat(ex:Rd Ex)(body:Rd (List St)):Rd St:=fun l=>match is XR l with
 |some r=>(ex r).bind fun(x,r)=>(body r).bind fun(b,r)=>match is XN r with
  |some r=>(body r).map fun(e,r)=>(.mk 3 [] x b e,r)
  |none=>some (.mk 3 [] x b [],r)
 |none=>match is X4 l with
 |some r=>(ex r).bind fun(x,r)=>(body r).map fun(b,r)=>(.mk 4 [] x b [],r)
 |none=>match is XS l with
 |some r=>(name r).bind fun(s,r)=>(is FF r).bind fun r=>(ex r).bind fun(x,r)=>rY 1 s x r
 |none=>match is XX l with
 |some r=>(ex r).bind fun(x,r)=>rY 5 [] x r
 |none=>match is X0 l with
 |some r=>rY 6 [] default r
 |none=>match is XY l with
 |some r=>(name r).bind fun(s,r)=>(ex r).bind fun(x,r)=>rY 7 s x r
 |none=>match is XU l with
 |some r=>(ex r).bind fun(x,r)=>rY 8 [] x r
 |none=>match is XM l with
 |some r=>(ex r).bind fun(x,r)=>rY 9 [] x r
 |none=>(name l).bind fun(s,r)=>(is FF r).bind fun r=>(ex r).bind fun(x,r)=>rY 2 s x r
def body:Nat→Rd (List St)
 |0=>fun _=>none
 |f+1=>fun l=>(is TQ l).bind (stats (stat (expr f) (body f)) 50)
def uL:Rd Df:=fun l=>match is XL l with
 |some r=>(name r).bind fun(s,r)=>(gK r).bind fun(t,r)=>(number r).bind fun(n,r)=>if n<1∨20<n then none else(is FG r).map fun r=>(⟨1,s,t,default,n,[],[]⟩,r)
 |none=>match is XP l with
 |some r=>(name r).bind fun(s,r)=>(params r).bind fun(ps,r)=>(gK r).bind fun(t,r)=>(body 200 r).map fun(b,r)=>(⟨2,s,t,default,0,ps,b⟩,r)
 |none=>match is XQ l with
 |some r=>(name r).bind fun(s,r)=>(params r).bind fun(ps,r)=>(is X1 r).bind fun r=>(gK r).bind fun(k,r)=>(is X6 r).bind fun r=>(gK r).bind fun(t,r)=>(body 200 r).map fun(b,r)=>(⟨3,s,t,k,0,ps,b⟩,r)
 |none=>match is X2 l with
 |some r=>(name r).bind fun(s,r)=>(body 200 r).map fun(b,r)=>(⟨4,s,default,default,0,[],b⟩,r)
 |none=>none
def defs:Nat→Rd (List Df)
 |n,[]=>some ([],[])
 |0,_=>none
 |n+1,l=>(uL l).bind fun(d,r)=>(defs n r).map fun(ds,r)=>(d::ds,r)
def parse(s:aF):Option (List Df):=(tokens s).bind fun l=>(defs 30 l).map (·.1)
end Fr
section
open Go Go.RowKit
section
variable{P:Program} [eP P]{Q:Exit→Act→World→Prop}{N:Nd}{E:Env}{L L' F:List Chunk}{ops:Array Oper}
variable{dst:Option Tmp}{ty:TypeId}{pos:String}{aft:Array Edge}{g:Option (Nat×Bool)}{C:Env→List Chunk→Prop}
variable{σ τ:Type}{post:σ→Prop}{val:σ→Value}{mem:σ→List Chunk}{bad:τ→Prop}{why:τ→Value}{memE:τ→List Chunk}{f:FuncId}{fn:Func}{c:Code}{R pre:List Chunk}{w0:World}{S:Nat→Prop}
theorem bA{Q:Exit→Act→World→Prop}(h:aO Q:=by(repeat(first|exact aO.mC|exact aO.body|apply aO.pX|apply aO.p7|apply aO.block));first|done|fail):aO Q:=h
theorem eZ{w:World}{R F:List Chunk}(h:Reads w R F:=by(repeat(first|exact Reads.nil|(apply Reads.any;(focus ((repeat(first|exact Take.head|apply Take.tail));done));(focus (first|exact fP|exact m9|assumption|(simp;done))))|(apply Reads.arr;focus ((repeat(first|exact Take.head|apply Take.tail));done))|(apply Reads.aD;(focus ((repeat(first|exact Take.head|apply Take.tail));done));(focus (exact rfl));(focus (exact rfl));(focus omega))|(apply Reads.aR;(focus ((repeat(first|exact Take.head|apply Take.tail));done));(focus assumption))));first|done|fail):Reads w R F:=h
theorem aA.HU{x:Operand}{args:List Operand}{dW:Array TypeId}{vs:List Value}(spec:pC post val mem bad why memE P f vs.toArray R pre)
  (hp:∀y,bad y→End Q N (.panic (nA (why y))) E (memE y ++F)) (k:∀s,post s→C (cD dst (val s) E) (mem s ++F)) (hx:ev E x=some (.func (.func f) #[] #[]):=by exact rfl) (hv:fX E args vs:=by exact m4) (hc:fM P f=true:=by kernel_rfl) (hd:cF N dst=true:=by exact rfl)
  (t:aQ pre L F:=by exact aK) (r:∀w,Reads w R F:=by intro w;exact eZ):
  aA P Q N ⟨dst, .call ⟨.value x,args.toArray,dW⟩,ty,pos,aft,g⟩ E L C:=aA.ZW (cap:= #[]) hx hv hc hd (by simpa using spec) t r hp k
theorem PQ{A B G T:Prop}(spec:T)(hp:B)(k:G)(h:T→Bx B→Bx G→A:=by intro sp hb hk;refine Jc ?_;exact aA.HU (spec:=sp) (hp:=hb.out) (k:=hk.out)):A:=h spec ⟨hp⟩ ⟨k⟩
theorem FQ{A G T:Prop}(spec:T)(k:G)(h:T→Bx G→A:=by intro sp hk;refine Jc ?_;exact aA.aZ (spec:=sp) (r:=fun w=>eZ) (k:=hk.out)):A:=h spec ⟨k⟩
theorem PE{N:Nat}(args:List Value)(hf:P.funcs[f]?=some fn)(hN:fn.ntmps=N)(h:∀w S,aB P (mC P fn (pN post val mem bad why memE w S)) ⟨N,[]⟩ c (first 0 args) (aI w S::(R ++pre)))(hb:fn.body=some c:=by exact rfl)(hA:Nat.ble args.length N=true:=by exact rfl)(hR:∀c∈R,c.bB=false:=by simp[fP,m9, *]):pC post val mem bad why memE P f args.toArray R pre:=pC.enter hf hb N hN hA hR h
theorem aAW{y c:Code}{id:Nat}{l:List Oper}{σ:Type}(ok:σ→Prop)(inv:σ→Env)(mem:σ→List Chunk)(h2:∀s,ok s→aB P Q N y (inv s) (mem s))
  (h1:∀K':Act→World→Prop,(∀s,ok s→∀a w,Sat N a (inv s)→Mem w (mem s)→K' a w)→aE P ops (fE P c (Exit.inBlock id (Exit.then K' Q))) N l E L):aE P ops (fE P c (Exit.inBlock id (fE P y Q))) N l E L:=by
 rw[show fE P y Q=Exit.then (y.wp P Q) Q by unfold fE;rfl];exact h1 _ (fun s hs a w ha hm=>h2 s hs a w ha hm)
theorem PX{L:List Chunk}{n:Nat}(y:τ)(hb:bad y)(hx:∀c∈memE y,c.bB=true:=by exact oQ)(ht:aQ (aI w0 S::memE y) L F:=by exact aK):End (mC P fn (pN post val mem bad why memE w0 S)) ⟨n,[]⟩ (.panic (nA (why y))) E L:=
 End.TW (qG.nil fun w hm=> .inr ⟨y,hb,rfl,hx,(hm.aS ht).left⟩)
theorem PO{A G:Prop}(k:G)(h:Bx G→A:=by intro hk;(repeat(first|apply End.aGi|apply End.aBm|apply End.aD6));exact hk.out):A:=h ⟨k⟩
theorem P1{n:Nat}{t:Tmp}{v:Value}(x:σ)(hp:post x)(he:v=val x)(hr:fn.results= #[.tmp t]:=by exact rfl)(hv:look E t=some v:=by exact rfl)(hx:∀c∈mem x,c.bB=true:=by exact oQ)(ht:aQ (aI w0 S::mem x) L F:=by exact aK):End (mC P fn (pN post val mem bad why memE w0 S)) ⟨n,[]⟩ .ret E L:=
 End.zK (fY.one hr hv fun w hm=> .inl ⟨x,hp,by rw[he],hx,(hm.aS ht).left⟩)
theorem P0{n:Nat}{e:Exit}(x:σ)(hp:post x)(hr:fn.results= #[]:=by exact rfl)(he:val x= .tuple #[]:=by exact rfl)(hx:∀c∈mem x,c.bB=true:=by exact oQ)(ht:aQ (aI w0 S::mem x) L F:=by exact aK)(hE:e= .ret∨e= .normal:=by first|exact .inl rfl|exact .inr rfl):End (mC P fn (pN post val mem bad why memE w0 S)) ⟨n,[]⟩ e E L:=by
 have h:fY P fn (pN post val mem bad why memE w0 S) ⟨n,[]⟩ .returning E L:=fY.none hr fun w hm=> .inl ⟨x,hp,by rw[he],hx,(hm.aS ht).left⟩
 rcases hE with rfl|rfl
 ·exact End.zK h
 ·exact End.aAg h
theorem R5{n:Nat}{R:Ending→World→Prop}{t:Tmp}{ty bt:TypeId}{b s' b':Nat}{fs:List (Nat×TypeId)}{z' cs:List Value}(hr:fn.results= #[.cell t ty])(hv:look E t=some (.pointer (some ⟨b,0,none⟩)))(ht:aW P ty=some ⟨.struct fs,s',b',z'⟩)(hm:Take (aD b cs bt) L L')(hl:cs.length=s')
  (h:∀w,Mem w L→R (.returned (.agg cs.toArray)) w):fY P fn R ⟨n,[]⟩ .returning E L:=fun a w hs hM=>
 ⟨.agg cs.toArray,by simp[results,hr,hs.slot t _ hv,asAddr,xD ht (jU.1 (hM.has hm)) hl],h w hM⟩
theorem PC{n:Nat}{t:Tmp}{ty bt:TypeId}{b s' b':Nat}{fs:List (Nat×TypeId)}{z' cs:List Value}(x:σ)(hp:post x)(he: .agg cs.toArray=val x)(hr:fn.results= #[.cell t ty]:=by exact rfl)(hv:look E t=some (.pointer (some ⟨b,0,none⟩)):=by exact rfl)(ht:aW P ty=some ⟨.struct fs,s',b',z'⟩:=by exact rfl)(hm:Take (aD b cs bt) L L':=by exact tk)(hl:cs.length=s':=by exact rfl)
  (hx:∀c∈mem x,c.bB=true:=by exact oQ) (hF:aQ (aI w0 S::mem x) L F:=by exact aK):End (mC P fn (pN post val mem bad why memE w0 S)) ⟨n,[]⟩ .ret E L:=
 End.zK (R5 hr hv ht hm hl fun w hm=> .inl ⟨x,hp,by rw[he],hx,(hm.aS hF).left⟩)
theorem PD{l:List Oper}{x:Operand}{args:List Operand}{dW:Array TypeId}{vs:List Value}{cap:Array Value}(k:aE P ops Q ⟨N.n,{target:= .fn (.func f) cap,args:=vs.toArray}::N.ds⟩ l (cD dst Go.undef E) L)(hx:ev E x=some (.func (.func f) #[] cap):=by exact rfl)(hv:fX E args vs:=by exact m4)(hd:cF N dst=true:=by exact rfl):
  aE P ops Q N (⟨dst, .defer ⟨.value x,args.toArray,dW⟩,ty,pos,aft,none⟩::l) E L:=aE.defer hx hv hd k
end
end
namespace Vw
open Go.RowKit Img
abbrev aF:=List UInt8
inductive EL where
 |mk (k n:Int) (s:aF) (o:Option Addr) (c:Nat) (kids:List EL)
namespace EL
def k:EL→Int|mk k _ _ _ _ _=>k
def n:EL→Int|mk _ n _ _ _ _=>n
def s:EL→aF|mk _ _ s _ _ _=>s
def o:EL→Option Addr|mk _ _ _ o _ _=>o
def c:EL→Nat|mk _ _ _ _ c _=>c
def kids:EL→List EL|mk _ _ _ _ _ l=>l
end EL
instance:Inhabited EL:=⟨.mk 0 0 [] none 0 []⟩
def dU(x:EL):List Value:=[.int .i64 x.k, .int .i64 x.n,sv x.s, .slice x.o x.kids.length x.c]
instance:bF dU:=⟨fun _=>rfl,by decide,fun a u hu=>by simp[dU]at hu;rcases hu with rfl|rfl|rfl|rfl<;>rfl⟩
mutual
def EL.ex:EL→Fr.Ex
 | .mk k n s _ _ l=> .mk k n s (EL.bT l)
def EL.bT:List EL→List Fr.Ex
 |[]=>[]
 |x::l=>x.ex::EL.bT l
end
mutual
def EL.mem:EL→List Chunk
 | .mk k n s o c l=>arr o l.length c 257 dU l::EL.cU l
def EL.cU:List EL→List Chunk
 |[]=>[]
 |x::l=>x.mem ++EL.cU l
end
theorem sW(l:List EL):EL.bT l=l.map EL.ex:=by induction l with|nil=>rfl|cons x l ih=>rw[EL.bT,ih];rfl
theorem K7(l:List EL):EL.cU l=l.flatMap EL.mem:=by induction l with|nil=>rfl|cons x l ih=>rw[EL.cU,ih];rfl
mutual
theorem EL.s8:∀(x:EL),∀c∈x.mem,c.bB=true
 | .mk k n s o c l,d,hd=>by
  rw[EL.mem]at hd;rcases eB.1 hd with rfl|hd
  ·exact dX
  ·exact EL.w6 l d hd
theorem EL.w6:∀(l:List EL),∀c∈EL.cU l,c.bB=true
 |[],d,hd=>by simp[EL.cU]at hd
 |x::l,d,hd=>by
  rw[EL.cU]at hd;rcases dH.1 hd with hd|hd
  ·exact x.s8 d hd
  ·exact EL.w6 l d hd
end
theorem K8(l:List EL)(x:EL):EL.cU (l ++[x])=EL.cU l ++x.mem:=by rw[K7,K7,AU];simp
theorem Mem.x7{w:World}{cs ds L L' L2:List Chunk}(h:Mem w L)(t:Take (aR cs) L L')(t2:Take (aR ds) L' L2):Mem w (aR (cs ++ds)::L2):=by
 have hx:∀c∈cs ++ds,c.bB=true:=by
  intro c hc;rcases dH.1 hc with hc|hc
  ·exact(pP.1 (h.has t)).2 c hc
  ·exact(pP.1 ((h.take t).has (.tail t2))).2 c hc
 have h1:=((h.take t).aS (.cons (.tail t2) (.cons .head .nil))).unpack;have h2:Mem w (aR cs::(ds ++L2)):=h1.perm uA;exact Mem.pack (by rw[Jt];exact h2.unpack) hx
theorem Mem.yZ{w:World}{o:Option Addr}{c:Nat}{l:List EL}{L L' L2:List Chunk}(k n:Int)(u:aF)(h:Mem w L)(t:Take (arr o l.length c 257 dU l) L L')(t2:Take (aR (EL.cU l)) L' L2):Mem w (aR (EL.mk k n u o c l).mem::L2):=by
 have h1:Mem w (arr o l.length c 257 dU l::aR (EL.cU l)::L2):=h.aS (.cons t (.cons t2 .nil));have h2:Mem w (aR (EL.cU l)::arr o l.length c 257 dU l::L2):=h1.perm (List.Perm.swap _ _ _);have h3:Mem w (arr o l.length c 257 dU l::(EL.cU l ++L2)):=h2.unpack.perm uA;exact Mem.pack (cs:=(EL.mk k n u o c l).mem) h3 (EL.s8 _)
theorem Mem.yP{w:World}{L:List Chunk}(k n:Int)(u:aF)(h:Mem w L):Mem w (aR (EL.mk k n u none 0 []).mem::L):=Mem.yZ k n u (h.eX.bY 257 dU) .head .head
theorem Mem.aBy{w:World}{b:Nat}{cs:List Value}{g:EL}{L L' L2:List Chunk}(k n:Int)(u:aF)(h:Mem w L)(t:Take (aD b cs 257) L L')(t2:Take (aR g.mem) L' L2)(hc:cs=dU g):Mem w (aR (EL.mk k n u (some ⟨b,0,none⟩) 1 [g]).mem::L2):=by
 have h1:Mem w (arr (some ⟨b,0,none⟩) 1 1 257 dU [g]::L'):=h.mJ (f:=dU) t [g] (n:=1) (by rw[hc];simp) rfl (by unfold maxLen;omega);exact Mem.yZ k n u h1 .head (by rw[show EL.cU [g]=g.mem from eH _];exact t2)
theorem Mem.aBz{w:World}{b:Nat}{cs:List Value}{g x:EL}{L L' L2 L3:List Chunk}(k n:Int)(u:aF)(h:Mem w L)(t:Take (aD b cs 257) L L')(t2:Take (aR g.mem) L' L2)(t3:Take (aR x.mem) L2 L3)(hc:cs=dU g ++dU x):Mem w (aR (EL.mk k n u (some ⟨b,0,none⟩) 2 [g,x]).mem::L3):=by
 have h1:Mem w (arr (some ⟨b,0,none⟩) 2 2 257 dU [g,x]::L'):=h.mJ (f:=dU) t [g,x] (n:=2) (by rw[hc];simp) rfl (by unfold maxLen;omega);have h2:=Mem.x7 (h1.take (show Take (aR g.mem) _ _ from .tail t2)) .head (.tail t3);exact Mem.yZ k n u h2 (.tail .head) (by rw[show EL.cU [g,x]=g.mem ++x.mem by rw[EL.cU,EL.cU,EL.cU,eH]];exact .head)
inductive aJ where
 |mk (k:Int) (s:aF) (x:EL) (bo:Option Addr) (bc:Nat) (body:List aJ) (eo:Option Addr) (ec:Nat) (eY:List aJ)
namespace aJ
def k:aJ→Int|mk k _ _ _ _ _ _ _ _=>k
def s:aJ→aF|mk _ s _ _ _ _ _ _ _=>s
def x:aJ→EL|mk _ _ x _ _ _ _ _ _=>x
def bo:aJ→Option Addr|mk _ _ _ o _ _ _ _ _=>o
def bc:aJ→Nat|mk _ _ _ _ c _ _ _ _=>c
def body:aJ→List aJ|mk _ _ _ _ _ b _ _ _=>b
def eo:aJ→Option Addr|mk _ _ _ _ _ _ o _ _=>o
def ec:aJ→Nat|mk _ _ _ _ _ _ _ c _=>c
def eY:aJ→List aJ|mk _ _ _ _ _ _ _ _ e=>e
end aJ
instance:Inhabited aJ:=⟨.mk 0 [] default none 0 [] none 0 []⟩
def fJ(x:aJ):List Value:=[.int .i64 x.k,sv x.s, .int .i64 x.x.k, .int .i64 x.x.n,sv x.x.s, .slice x.x.o x.x.kids.length x.x.c, .slice x.bo x.body.length x.bc, .slice x.eo x.eY.length x.ec]
instance:bF fJ:=⟨fun _=>rfl,by decide,fun a u hu=>by simp[fJ]at hu;rcases hu with rfl|rfl|rfl|rfl|rfl|rfl|rfl|rfl<;>rfl⟩
mutual
def aJ.st:aJ→Fr.St
 | .mk k s x _ _ b _ _ e=> .mk k s x.ex (aJ.bR b) (aJ.bR e)
def aJ.bR:List aJ→List Fr.St
 |[]=>[]
 |x::l=>x.st::aJ.bR l
end
mutual
def aJ.mem:aJ→List Chunk
 | .mk k s x bo bc b eo ec e=>x.mem ++(arr bo b.length bc 259 fJ b::(aJ.cU b ++(arr eo e.length ec 259 fJ e::aJ.cU e)))
def aJ.cU:List aJ→List Chunk
 |[]=>[]
 |x::l=>x.mem ++aJ.cU l
end
theorem xJ(l:List aJ):aJ.bR l=l.map aJ.st:=by induction l with|nil=>rfl|cons x l ih=>rw[aJ.bR,ih];rfl
theorem M3(l:List aJ):aJ.cU l=l.flatMap aJ.mem:=by induction l with|nil=>rfl|cons x l ih=>rw[aJ.cU,ih];rfl
mutual
theorem aJ.s8:∀(x:aJ),∀c∈x.mem,c.bB=true
 | .mk k s x bo bc b eo ec e,d,hd=>by
  rw[aJ.mem]at hd;rcases dH.1 hd with hd|hd
  ·exact x.s8 d hd
  ·rcases eB.1 hd with rfl|hd
   ·exact dX
   ·rcases dH.1 hd with hd|hd
    ·exact aJ.w6 b d hd
    ·rcases eB.1 hd with rfl|hd
     ·exact dX
     ·exact aJ.w6 e d hd
theorem aJ.w6:∀(l:List aJ),∀c∈aJ.cU l,c.bB=true
 |[],d,hd=>by simp[aJ.cU]at hd
 |x::l,d,hd=>by
  rw[aJ.cU]at hd;rcases dH.1 hd with hd|hd
  ·exact x.s8 d hd
  ·exact aJ.w6 l d hd
end
theorem aG3(l:List aJ)(x:aJ):aJ.cU (l ++[x])=aJ.cU l ++x.mem:=by rw[M3,M3,AU];simp
theorem Mem.AD{w:World}{pre cs F:List Chunk}(h:Mem w (pre ++aR cs::F)):Mem w (pre ++(cs ++F)):=by
 have h1:Mem w (cs ++(pre ++F)):=(h.perm uA).unpack;refine h1.perm ?_;rw[←Jt,←Jt];exact List.Perm.append_right _ pH
theorem Mem.E3{w:World}{x:EL}{bo eo:Option Addr}{bc ec:Nat}{b e:List aJ}{L L1 L2 L3 L4 L5:List Chunk}(k:Int)(u:aF)(h:Mem w L)(t1:Take (aR x.mem) L L1)(t2:Take (arr bo b.length bc 259 fJ b) L1 L2)(t3:Take (aR (aJ.cU b)) L2 L3)(t4:Take (arr eo e.length ec 259 fJ e) L3 L4)(t5:Take (aR (aJ.cU e)) L4 L5):
  Mem w (aR (aJ.mk k u x bo bc b eo ec e).mem::L5):=by
 have h0:Mem w ([aR x.mem,arr bo b.length bc 259 fJ b,aR (aJ.cU b),arr eo e.length ec 259 fJ e,aR (aJ.cU e)] ++L5):=h.aS (.cons t1 (.cons t2 (.cons t3 (.cons t4 (.cons t5 .nil)))));have h1:Mem w ([aR x.mem,arr bo b.length bc 259 fJ b,aR (aJ.cU b),arr eo e.length ec 259 fJ e] ++aR (aJ.cU e)::L5):=h0;have h2:Mem w ([aR x.mem,arr bo b.length bc 259 fJ b] ++aR (aJ.cU b)::(arr eo e.length ec 259 fJ e::(aJ.cU e ++L5))):=Mem.AD h1;have h3:Mem w ([] ++aR x.mem::(arr bo b.length bc 259 fJ b::(aJ.cU b ++(arr eo e.length ec 259 fJ e::(aJ.cU e ++L5))))):=Mem.AD h2;have h4:=Mem.AD h3;refine Mem.pack (cs:=(aJ.mk k u x bo bc b eo ec e).mem) ?_ (aJ.s8 _);rw[aJ.mem];simpa using h4
theorem Mem.aCH{w:World}{x:EL}{L L1:List Chunk}(k:Int)(u:aF)(h:Mem w L)(t1:Take (aR x.mem) L L1):Mem w (aR (aJ.mk k u x none 0 [] none 0 []).mem::L1):=by
 have h1:Mem w (aR x.mem::L1):=h.take t1;exact Mem.E3 k u ((h1.eX.bY 259 fJ).eX.bY 259 fJ) (.tail (.tail (.tail (.tail .head)))) .head .head .head .head
def nB(p:Fr.Pm):List Value:=[sv p.name, .int .i64 p.type.kind,sv p.type.gen]
instance:bF nB:=⟨fun _=>rfl,by decide,fun a u hu=>by simp[nB]at hu;rcases hu with rfl|rfl|rfl<;>rfl⟩
structure DL where
 kind:Int
 name:aF
 type:Fr.Ty
 aS:Fr.Ty
 cap:Int
 po:Option Addr
 pc:Nat
 params:List Fr.Pm
 bo:Option Addr
 bc:Nat
 body:List aJ
instance:Inhabited DL:=⟨⟨0,[],default,default,0,none,0,[],none,0,[]⟩⟩
def jW(d:DL):List Value:=[.int .i64 d.kind,sv d.name, .int .i64 d.type.kind,sv d.type.gen, .int .i64 d.aS.kind,sv d.aS.gen, .int .i64 d.cap, .slice d.po d.params.length d.pc, .slice d.bo d.body.length d.bc]
instance:bF jW:=⟨fun _=>rfl,by decide,fun a u hu=>by simp[jW]at hu;rcases hu with rfl|rfl|rfl|rfl|rfl|rfl|rfl|rfl|rfl<;>rfl⟩
def DL.df(d:DL):Fr.Df:=⟨d.kind,d.name,d.type,d.aS,d.cap,d.params,aJ.bR d.body⟩
def DL.mem(d:DL):List Chunk:=arr d.po d.params.length d.pc 227 nB d.params::(arr d.bo d.body.length d.bc 259 fJ d.body::aJ.cU d.body)
theorem DL.s8(d:DL):∀c∈d.mem,c.bB=true:=fun c hc=>by
 unfold DL.mem at hc;rcases eB.1 hc with rfl|hc
 ·exact dX
 ·rcases eB.1 hc with rfl|hc
  ·exact dX
  ·exact aJ.w6 _ c hc
theorem Mem.E2{w:World}(d:DL){L L1 L2 L3:List Chunk}(h:Mem w L)(t1:Take (arr d.po d.params.length d.pc 227 nB d.params) L L1)(t2:Take (arr d.bo d.body.length d.bc 259 fJ d.body) L1 L2)(t3:Take (aR (aJ.cU d.body)) L2 L3):Mem w (aR d.mem::L3):=by
 have h0:Mem w ([arr d.po d.params.length d.pc 227 nB d.params,arr d.bo d.body.length d.bc 259 fJ d.body,aR (aJ.cU d.body)] ++L3):=h.aS (.cons t1 (.cons t2 (.cons t3 .nil)));have h1:Mem w ([arr d.po d.params.length d.pc 227 nB d.params,arr d.bo d.body.length d.bc 259 fJ d.body] ++aR (aJ.cU d.body)::L3):=h0;exact Mem.pack (cs:=d.mem) (by simpa[DL.mem]using Mem.AD h1) d.s8
section
attribute [local irreducible] aE aB End aA Still aM aP RunT Fn aO
section
structure PS where
 o:Option Addr
 c:Nat
 l:List Fr.Tok
 deep:Int
abbrev cK(pb:Nat)(en:Int)(s:PS):List Chunk:=[aD pb [.slice s.o s.l.length s.c, .int .i64 en, .int .i64 s.deep] 138,arr s.o s.l.length s.c 202 p8 s.l]
abbrev lM:={e:Int×Int //e.1≠0}
abbrev pS(a:Int):lM:=⟨(2,a),show(2:Int)≠0 by decide⟩
abbrev DU(a:Int):lM:=⟨(3,a),show(3:Int)≠0 by decide⟩
abbrev P4(a:Int):lM:=⟨(4,a),show(4:Int)≠0 by decide⟩
abbrev uN(a:Int):lM:=⟨(5,a),show(5:Int)≠0 by decide⟩
abbrev P5(a:Int):lM:=⟨(7,a),show(7:Int)≠0 by decide⟩
abbrev qV(y:lM):Value:= .iface 135 (.agg #[.int .i64 y.1.1, .int .i64 y.1.2])
abbrev Pf{α G:Type}(pb:Nat)(en:Int)(f:FuncId)(args:List Value)(R:List Chunk)(s:PS)(ρ:Option (α×List Fr.Tok))(er:G→α)(val:G→Value)(mem:G→List Chunk):Prop:=
 pC (σ:=G×PS) (fun x=>ρ=some (er x.1,x.2.l)∧x.2.deep=s.deep∧x.2.l.length≤s.l.length) (fun x=>val x.1) (fun x=>mem x.1 ++cK pb en x.2) (τ:=lM×PS) (fun y=>ρ=none) (fun y=>qV y.1) (fun y=>cK pb en y.2) Tryz.prog f args.toArray R (cK pb en s)
theorem EE{w:aF}{l:List Fr.Tok}(h:0<l.length):Fr.is w l=if(l.getD 0 default).text=w then some (l.drop 1)else none:=by
 cases l with
 |nil=>simp at h
 |cons t r=>rfl
theorem ED{w:aF}{l:List Fr.Tok}(h:¬0<l.length):Fr.is w l=none:=by
 cases l with
 |nil=>rfl
 |cons t r=>simp at h
variable{pb:Nat}{en:Int}
theorem oZ(s:PS):Fn Tryz.prog 51 #[ptr pb] [] (cK pb en s) (σ:=Int) (fun _=>True) (fun a=> .int .i64 a) (fun _=>cK pb en s):=by
 refine JE [ptr pb] Tryz.func51 Tryz.ntmps51 fun w S=>?_;refine Jn ?_
 by_cases h:0<s.l.length
 ·repeat(refine Fy ?_)
  exact End.aH _ (he:=rfl) (hp:=trivial)
 ·repeat(refine Fy ?_)
  exact End.aH _ (he:=rfl) (hp:=trivial)
theorem TU(s:PS)(u:aF):Fn Tryz.prog 129 #[ptr pb,sv u] [] (cK pb en s) (σ:=Unit) (fun _=>True) (fun a=> .bool (Fr.is u s.l).isSome) (fun _=>cK pb en s):=by
 refine JE [ptr pb,sv u] Tryz.func129 Tryz.ntmps129 fun w S=>?_;refine Jn ?_
 by_cases h:0<s.l.length
 ·repeat(refine Fy ?_)
  refine End.aH () (he:=by rw[EE h];by_cases h2:(s.l.getD 0 default).text=u<;>simp only[h2,decide_true,decide_false,if_true,if_false]<;>rfl) (hp:=trivial)
 ·repeat(refine Fy ?_)
  exact End.aH () (he:=by rw[ED h];rfl) (hp:=trivial)
theorem gS(s:PS)(u:aF):Fn Tryz.prog 89 #[ptr pb,sv u] [] (cK pb en s) (σ:=Bool×PS) (fun x=>(x.1=true∧Fr.is u s.l=some x.2.l∧x.2.deep=s.deep∧x.2.l.length<s.l.length)∨(x.1=false∧Fr.is u s.l=none∧x.2=s)) (fun x=> .bool x.1) (fun x=>cK pb en x.2):=by
 refine JE [ptr pb,sv u] Tryz.func89 Tryz.ntmps89 fun w S=>?_;refine Jn ?_
 repeat(refine Fy ?_)
 refine FQ (TU s u) ?_;intro z hz;refine Jn ?_
 cases hi:Fr.is u s.l with
 |none=>
  repeat(refine Fy ?_)
  exact End.aH (false,s) (he:=rfl) (hp:= .inr ⟨rfl,rfl,rfl⟩)
 |some r=>
  have h:0<s.l.length:=by
   by_cases h:0<s.l.length
   ·exact h
   ·rw[ED h]at hi;cases hi
  have hr:r=s.l.drop 1:=by
   rw[EE h]at hi
   split at hi<;>cases hi
   rfl
  repeat(refine Fy ?_;try intro ao cap)
  rw[show s.l.length-(0+1)=(s.l.drop (0+1)).length by rw[fC]];exact End.aH (true,⟨ao,cap,s.l.drop 1,s.deep⟩) (he:=rfl) (hp:= .inl ⟨rfl,by rw[hr],rfl,by show(s.l.drop 1).length<_;rw[fC];omega⟩)
section
variable{Q:Exit→Act→World→Prop}{N:Nd}{E:Env}{L F:List Chunk}{dst:Option Tmp}{ty:TypeId}{pos:String}{aft:Array Edge}{gd:Option (Nat×Bool)}{C:Env→List Chunk→Prop}
theorem aA.pf{α G:Type}{f:FuncId}{vs:List Value}{R:List Chunk}{s:PS}{ρ:Option (α×List Fr.Tok)}{er:G→α}{val:G→Value}{mem:G→List Chunk}{x:Operand}{args:List Operand}{dW:Array TypeId}(spec:Pf pb en f vs R s ρ er val mem)
  (hp:ρ=none→∀e y,End Q N (.panic (nA (qV e))) E (cK pb en y ++F)) (k:∀g y,ρ=some (er g,y.l)→y.deep=s.deep→y.l.length≤s.l.length→C (cD dst (val g) E) (mem g ++(cK pb en y ++F)))
  (hx:ev E x=some (.func (.func f) #[] #[]):=by exact rfl) (hv:fX E args vs:=by exact m4) (hc:fM Tryz.prog f=true:=by kernel_rfl) (hd:cF N dst=true:=by exact rfl) (t:aQ (cK pb en s) L F:=by exact aK) (r:∀w,Reads w R F:=by intro w;exact eZ):
  aA Tryz.prog Q N ⟨dst, .call ⟨.value x,args.toArray,dW⟩,ty,pos,aft,gd⟩ E L C:=
 aA.HU spec (fun y hy=>hp hy y.1 y.2) (fun z hz=>by rw[Jt];exact k z.1 z.2 hz.1 hz.2.1 hz.2.2) hx hv hc hd t r
theorem PK{A B G T:Prop}(spec:T)(hp:B)(k:G)(h:T→Bx B→Bx G→A:=by intro sp hb hk;refine Jc ?_;exact aA.pf sp hb.out hk.out):A:=h spec ⟨hp⟩ ⟨k⟩
theorem aA.pis{s:PS}{u:aF}{args:List Operand}{dW:Array TypeId}(sp:Fn Tryz.prog 89 #[ptr pb,sv u] [] (cK pb en s) (σ:=Bool×PS) (fun x=>(x.1=true∧Fr.is u s.l=some x.2.l∧x.2.deep=s.deep∧x.2.l.length<s.l.length)∨(x.1=false∧Fr.is u s.l=none∧x.2=s)) (fun x=> .bool x.1) (fun x=>cK pb en x.2))
  (k1:∀y,Fr.is u s.l=some y.l→y.deep=s.deep→y.l.length<s.l.length→C (cD dst (.bool true) E) (cK pb en y ++F)) (k0:Fr.is u s.l=none→C (cD dst (.bool false) E) (cK pb en s ++F))
  (hv:fX E args [ptr pb,sv u]:=by exact m4) (hd:cF N dst=true:=by exact rfl) (t:aQ (cK pb en s) L F:=by exact aK):
  aA Tryz.prog Q N ⟨dst, .call ⟨.value (.func 89),args.toArray,dW⟩,ty,pos,aft,gd⟩ E L C:=
 aA.aZ (spec:=sp) (hv:=hv) (hd:=hd) (t:=t) (r:=fun w=> .nil) (k:=fun z hz=>by
  obtain⟨b,y⟩:=z;rcases hz with⟨hb,h1,h2,h3⟩|⟨hb,h1,h2⟩<;>dsimp only at hb h1 h2<;>subst hb
  ·exact k1 y h1 h2 h3
  ·subst h2;exact k0 h1)
theorem PI{A B G T:Prop}(sp:T)(k1:B)(k0:G)(h:T→Bx B→Bx G→A:=by intro sp h1 h0;apply aE.op;exact rfl;exact aA.pis sp h1.out h0.out):A:=h sp ⟨k1⟩ ⟨k0⟩
end
theorem nZ(s:PS)(y:lM):pC (σ:=Empty) (fun _=>True) (fun x=> .tuple #[]) (fun _=>[]) (τ:=Unit) (fun _=>True) (fun _=>qV y) (fun _=>cK pb en s) Tryz.prog 50 #[ptr pb, .int .i64 y.1.1, .int .i64 y.1.2] [] (cK pb en s):=by
 refine PE [ptr pb, .int .i64 y.1.1, .int .i64 y.1.2] Tryz.func50 Tryz.ntmps50 fun w S=>?_;refine Jn ?_
 repeat(refine Fy ?_)
 apply aE.op (by exact rfl);refine aA.panic rfl ?_;refine PO ?_;refine PX () ?_;exact trivial
theorem aDq(s:PS)(o:Option Addr)(c:Nat)(l:List aF)(hl:l.length≤10):Pf pb en 93 [ptr pb, .slice o l.length c] [rd o l.length c eW l] s ((Fr.pW l s.l).map fun r=>((),r)) (G:=Unit) id (fun _=> .tuple #[]) (fun _=>[]):=by
 refine PE [ptr pb, .slice o l.length c] Tryz.func93 Tryz.ntmps93 fun w S=>?_;refine Jn ?_
 repeat(refine Fy ?_)
 refine aB.only ((fun z:Nat×PS=>aI w S::rd o l.length c eW l::cK pb en z.2) (0,s)) (aK) ?_;apply aB.loop (σ:=Nat×PS) (fun z=>z.1≤l.length∧z.2.deep=s.deep∧z.2.l.length≤s.l.length∧Fr.pW l s.l=Fr.pW (l.drop z.1) z.2.l) (fun z=>[(0,ptr pb),(6, .slice o l.length c),(7, .int .i64 (l.length:Int)),(8, .int .i64 (z.1:Int))]) (fun z:Nat×PS=>aI w S::rd o l.length c eW l::cK pb en z.2) (fun z=>l.length-z.1) (0,s)
 rotate_left
 exact sb;exact aK;intro z hz K hK;(refine Jn ?_)
 rotate_left
 ·exact⟨bP _,rfl,cG _,rfl⟩
 obtain⟨k,x⟩:=z;obtain⟨hk,hd,hle,hn⟩:=hz;dsimp only at hk hd hle hn⊢
 by_cases h:k<l.length
 ·repeat(refine Fy ?_)
  refine FQ (gS x (l.getD k default)) ?_;intro z hz;refine Jn ?_;obtain⟨b,y⟩:=z;rw[drop_cons h,Fr.pW]at hn;rcases hz with⟨hb,hi,hd2,hl2⟩|⟨hb,hi,hy⟩
  ·dsimp only at hb hi hd2 hl2⊢;subst hb;rw[hi]at hn
   repeat(refine Fy ?_)
   refine End.bK hK (k+1,y) ⟨h,by rw[←hd];exact hd2,by show y.l.length≤_;omega,hn⟩ (by show l.length-(k+1)<l.length-k;omega)
  ·dsimp only at hb hi hy⊢;subst hb hy;rw[hi]at hn
   repeat(refine Fy ?_)
   refine FQ (oZ y) ?_;intro a ha;refine Jn ?_
   repeat(refine Fy ?_)
   refine PQ (nZ y (pS a)) ?_ ?_;(intro q hq;refine PO ?_;refine PX ((pS a,y)) ?_;(rw[hn];rfl));intro z _;exact z.elim
 ·obtain rfl:k=l.length:=by omega
  repeat(refine Fy ?_)
  exact P0 ((),x) ⟨by rw[hn,List.drop_length];rfl,hd,hle⟩
end
section
theorem aDG{l:List Fr.Tok}(h:0<l.length):Fr.name l=if(l.getD 0 default).kind=1∧Fr.named (l.getD 0 default).text=true then some ((l.getD 0 default).text,l.drop 1)else none:=by
 cases l with
 |nil=>simp at h
 |cons t r=>rfl
theorem aD5{l:List Fr.Tok}(h:0<l.length):Fr.number l=if(l.getD 0 default).kind=2 then some ((l.getD 0 default).num,l.drop 1)else none:=by
 cases l with
 |nil=>simp at h
 |cons t r=>rfl
theorem SN{l:List Fr.Tok}(h:¬0<l.length):Fr.name l=none∧Fr.number l=none:=by
 cases l with
 |nil=>exact⟨rfl,rfl⟩
 |cons t r=>simp at h
variable{pb:Nat}{en:Int}
theorem o0(s:PS):Pf pb en 90 [ptr pb] [bN] s (Fr.name s.l) (G:=aF) id sv (fun _=>[]):=by
 refine PE [ptr pb] Tryz.func90 Tryz.ntmps90 fun w S=>?_;refine Jn ?_
 by_cases h:0<s.l.length
 ·have hn:=aDG h
  by_cases hk:(s.l.getD 0 default).kind=1
  ·repeat(refine Fy ?_)
   refine FQ (y0 (s.l.getD 0 default).text) ?_;intro b hb;refine Jn ?_
   cases h3:Fr.named (s.l.getD 0 default).text with
   |true=>
    repeat(refine Fy ?_;try intro ao cap)
    rw[show s.l.length-(0+1)=(s.l.drop (0+1)).length by rw[fC]];exact P1 ((s.l.getD 0 default).text,⟨ao,cap,s.l.drop 1,s.deep⟩) ⟨by rw[hn,if_pos ⟨hk,h3⟩];rfl,rfl,by show(s.l.drop 1).length≤_;rw[fC];omega⟩ rfl
   |false=>
    repeat(refine Fy ?_)
    refine FQ (oZ s) ?_;intro a ha;refine Jn ?_
    repeat(refine Fy ?_)
    refine PQ (nZ s (P5 a)) ?_ ?_;(intro q hq;refine PO ?_;refine PX ((P5 a,s)) ?_;(rw[hn,if_neg (fun h=>by rw[h3]at h;cases h.2)]));intro z _;exact z.elim
  ·repeat(refine Fy ?_)
   refine FQ (oZ s) ?_;intro a ha;refine Jn ?_
   repeat(refine Fy ?_)
   refine PQ (nZ s (pS a)) ?_ ?_;(intro q hq;refine PO ?_;refine PX ((pS a,s)) ?_;(rw[hn,if_neg (fun h=>hk h.1)]));intro z _;exact z.elim
 ·repeat(refine Fy ?_)
  refine FQ (oZ s) ?_;intro a ha;refine Jn ?_
  repeat(refine Fy ?_)
  refine PQ (nZ s (pS a)) ?_ ?_;(intro q hq;refine PO ?_;refine PX ((pS a,s)) ?_;exact(SN h).1);intro z _;exact z.elim
theorem TR(s:PS):Pf pb en 92 [ptr pb] [] s (Fr.number s.l) (G:=Int) id (fun n=> .int .i64 n) (fun _=>[]):=by
 refine PE [ptr pb] Tryz.func92 Tryz.ntmps92 fun w S=>?_;refine Jn ?_
 by_cases h:0<s.l.length
 ·have hn:=aD5 h
  by_cases hk:(s.l.getD 0 default).kind=2
  ·repeat(refine Fy ?_;try intro ao cap)
   rw[show s.l.length-(0+1)=(s.l.drop (0+1)).length by rw[fC]];exact P1 ((s.l.getD 0 default).num,⟨ao,cap,s.l.drop 1,s.deep⟩) ⟨by rw[hn,if_pos hk];rfl,rfl,by show(s.l.drop 1).length≤_;rw[fC];omega⟩ rfl
  ·repeat(refine Fy ?_)
   refine FQ (oZ s) ?_;intro a ha;refine Jn ?_
   repeat(refine Fy ?_)
   refine PQ (nZ s (pS a)) ?_ ?_;(intro q hq;refine PO ?_;refine PX ((pS a,s)) ?_;rw[hn,if_neg hk]);intro z _;exact z.elim
 ·repeat(refine Fy ?_)
  refine FQ (oZ s) ?_;intro a ha;refine Jn ?_
  repeat(refine Fy ?_)
  refine PQ (nZ s (pS a)) ?_ ?_;(intro q hq;refine PO ?_;refine PX ((pS a,s)) ?_;exact(SN h).2);intro z _;exact z.elim
abbrev tyV(t:Fr.Ty):Value:= .agg #[.int .i64 t.kind,sv t.gen]
theorem zC(s:PS):Pf pb en 91 [ptr pb] [bN] s (Fr.gK s.l) (G:=Fr.Ty) id tyV (fun _=>[]):=by
 refine PE [ptr pb] Tryz.func91 Tryz.ntmps91 fun w S=>?_;refine Jn ?_
 obtain⟨ρ,hρ⟩:∃ρ,ρ=Fr.gK s.l:=⟨_,rfl⟩;rw[←hρ];unfold Fr.gK at hρ
 repeat(refine Fy ?_;try intro b)
 refine PI (gS s Fr.XT) ?_ ?_
 ·intro y hi dy ly;rw[hi]at hρ;refine Jn ?_
  repeat(refine Fy ?_)
  exact PC ((⟨1,[]⟩:Fr.Ty),y) ⟨hρ,by(try dsimp only);omega,by(try dsimp only);omega⟩ (by exact rfl)
 intro hi;rw[hi]at hρ;refine Jn ?_
 repeat(refine Fy ?_)
 refine PI (gS s Fr.XK) ?_ ?_
 ·intro y hi dy ly;rw[hi]at hρ;refine Jn ?_
  repeat(refine Fy ?_)
  exact PC ((⟨2,[]⟩:Fr.Ty),y) ⟨hρ,by(try dsimp only);omega,by(try dsimp only);omega⟩ (by exact rfl)
 intro hi;rw[hi]at hρ;refine Jn ?_
 repeat(refine Fy ?_)
 refine PK (o0 s) ?_ ?_;(intro hq e y;refine PO ?_;refine PX (e,y) ?_;simp only[hρ,hq,cE,cC]);intro g y hi dy ly;simp only[hi,aU,a8,id]at hρ;refine Jn ?_
 repeat(refine Fy ?_)
 exact PC ((⟨3,g⟩:Fr.Ty),y) ⟨hρ,by(try dsimp only);omega,by(try dsimp only);omega⟩ (by exact rfl)
end
section
variable{pb:Nat}{en:Int}
abbrev PS.to(s:PS)(d:Int):PS:={s with deep:=d}
theorem LX(s:PS)(h0:0≤s.deep)(h1:s.deep≤200):pC (σ:=Nat) (fun _=>s.deep<200) (fun xb=> .func (.func 157) #[] #[ptr xb]) (fun xb=>aD xb [ptr pb] 136::cK pb en (s.to (s.deep+1))) (τ:=lM×PS) (fun _=>s.deep=200) (fun y=>qV y.1) (fun y=>cK pb en y.2) Tryz.prog 131 #[ptr pb] [] (cK pb en s):=by
 refine PE [ptr pb] Tryz.func131 Tryz.ntmps131 fun w S=>?_;refine Jn ?_
 repeat(refine Fy ?_;try intro b)
 obtain⟨xb,rfl⟩:∃x,x=b:=⟨_,rfl⟩
 by_cases h:s.deep<200
 ·repeat(refine Fy ?_)
  exact P1 xb h rfl
 ·repeat(refine Fy ?_)
  apply aB.draw 3 ([aD xb [ptr pb] 136]) (by kernel_rfl) 4 rfl;refine RunT.a7 0 (hQ:=bA) (h:=?_);refine RunT.a7 1 (hQ:=bA) (h:=?_);(refine JT 2 ?_;refine aA.aZ (spec:=oZ (s.to (s.deep+1))) (r:=fun w=>eZ) (k:=?_);intro a ha;refine JG ?_;refine Jn ?_);(refine JT 3 ?_;refine aA.HU (nZ (s.to (s.deep+1)) (P4 a)) ?_ ?_;(intro q hq;refine PO ?_;refine PX ((P4 a,s.to (s.deep+1))) ?_;omega);intro z _;exact z.elim)
theorem TS(s:PS)(xb:Nat):sI Tryz.prog 157 #[ptr xb] [] (aD xb [ptr pb] 136::cK pb en s) (σ:=Unit) (fun _=>True) (fun _=>aD xb [ptr pb] 136::cK pb en (s.to (IntKind.i64.wrap (s.deep-1)))):=by
 refine sI.enter (args:=[ptr xb]) Tryz.func157 rfl _ Tryz.ntmps157 rfl (by simp) (fun w S=>?_);refine Jn ?_
 repeat(refine Fy ?_)
 exact End.cY () (hp:=trivial)
theorem R6{fn:Func}{R':Ending→World→Prop}{n:Nat}{E:Env}{L F:List Chunk}{s:PS}{xb:Nat}(k:fY Tryz.prog fn R' ⟨n,[]⟩ .returning E (aD xb [ptr pb] 136::(cK pb en (s.to (IntKind.i64.wrap (s.deep-1))) ++F)))(t:aQ (aD xb [ptr pb] 136::cK pb en s) L F:=by exact aK):
  fY Tryz.prog fn R' ⟨n,[{target:= .fn (.func 157) #[ptr xb],args:= #[]}]⟩ .returning E L:=
 fY.call (by kernel_rfl) (TS s xb) t (fun w=> .nil) (fun _ _=>k)
theorem aCg{fn:Func}{R':Ending→World→Prop}{L F:List Chunk}{v:Value}{s:PS}{xb:Nat}(k:qG Tryz.prog fn R' [] (nA v) (aD xb [ptr pb] 136::(cK pb en (s.to (IntKind.i64.wrap (s.deep-1))) ++F)))(t:aQ (aD xb [ptr pb] 136::cK pb en s) L F:=by exact aK):
  qG Tryz.prog fn R' [{target:= .fn (.func 157) #[ptr xb],args:= #[]}] (nA v) L:=
 qG.call (by kernel_rfl) (TS s xb) t (fun w=> .nil) (fun _ _=>k)
theorem aBv{u:aF}{l r:List Fr.Tok}(h:Fr.is u l=some r):r.length+1=l.length:=by
 by_cases h0:0<l.length
 ·rw[EE h0]at h
  split at h<;>cases h
  rw[fC];omega
 ·rw[ED h0]at h;cases h
theorem lW(s:PS)(b:Nat)(u:aF):Pf pb en 93 [ptr pb, .slice (some ⟨b,0,none⟩) 1 1] [rd (some ⟨b,0,none⟩) 1 1 eW [u]] s ((Fr.pW [u] s.l).map fun r=>((),r)) (G:=Unit) id (fun _=> .tuple #[]) (fun _=>[]):=aDq s (some ⟨b,0,none⟩) 1 [u] (by simp)
section
variable{Q:Exit→Act→World→Prop}{N:Nd}{E:Env}{L F:List Chunk}{dst:Option Tmp}{ty:TypeId}{pos:String}{aft:Array Edge}{gd:Option (Nat×Bool)}{C:Env→List Chunk→Prop}
theorem aA.aDK{s:PS}{u:aF}{vs:List Value}{R:List Chunk}{args:List Operand}{dW:Array TypeId}(sp:Pf pb en 93 vs R s ((Fr.pW [u] s.l).map fun r=>((),r)) (G:=Unit) id (fun _=> .tuple #[]) (fun _=>[]))
  (hp:Fr.is u s.l=none→∀e y,End Q N (.panic (nA (qV e))) E (cK pb en y ++F)) (k:∀y,Fr.is u s.l=some y.l→y.deep=s.deep→y.l.length<s.l.length→C (cD dst (.tuple #[]) E) (cK pb en y ++F))
  (hv:fX E args vs:=by exact m4) (hd:cF N dst=true:=by exact rfl) (t:aQ (cK pb en s) L F:=by exact aK) (r:∀w,Reads w R F:=by intro w;exact eZ):
  aA Tryz.prog Q N ⟨dst, .call ⟨.value (.func 93),args.toArray,dW⟩,ty,pos,aft,gd⟩ E L C:=
 aA.pf sp (fun h=>hp (by
  cases hi:Fr.is u s.l with
  |none=>rfl
  |some r=>rw[Fr.pW,hi]at h;exact absurd h (by simp[Fr.pW]))) (fun g y h h2 h3=>by
  cases hi:Fr.is u s.l with
  |none=>rw[Fr.pW,hi]at h;exact absurd h (by simp)
  |some r=>
   rw[Fr.pW,hi]at h;obtain rfl:r=y.l:=by simpa[Fr.pW]using h
   exact k y hi h2 (by have:=aBv hi;omega)) rfl hv (by kernel_rfl) hd t r
theorem PN{A B G T:Prop}(spec:T)(hp:B)(k:G)(h:T→Bx B→Bx G→A:=by intro sp hb hk;apply aE.op;exact rfl;exact aA.aDK sp hb.out hk.out):A:=h spec ⟨hp⟩ ⟨k⟩
end
section
variable{σ:Type}{post:σ→Prop}{val:σ→Value}{mem:σ→List Chunk}{bad:lM×PS→Prop}{fn:Func}{w0:World}{S:Nat→Prop}{n xb:Nat}{E:Env}{L F L' F2:List Chunk}
abbrev H9(xb:Nat):Deferred:={target:= .fn (.func 157) #[ptr xb],args:= #[]}
abbrev PS.up(s:PS):PS:=s.to (IntKind.i64.wrap (s.deep-1))
theorem A0(e:lM)(y:PS)(hb:bad (e,y.up))(t:aQ (aD xb [ptr pb] 136::cK pb en y) L F:=by exact aK)(ht:aQ (aI w0 S::cK pb en y.up) (aD xb [ptr pb] 136::(cK pb en y.up ++F)) F2:=by exact aK):
  End (mC Tryz.prog fn (pN post val mem bad (fun y=>qV y.1) (fun y=>cK pb en y.2) w0 S)) ⟨n,[H9 xb]⟩ (.panic (nA (qV e))) E L:=
 End.TW (aCg (qG.nil fun w hm=> .inr ⟨(e,y.up),hb,rfl,by exact oQ,(hm.aS ht).left⟩) t)
theorem OC{tm:Tmp}{ty bt:TypeId}{b s' b':Nat}{fs:List (Nat×TypeId)}{z' cs:List Value}{why:lM×PS→Value}{memE:lM×PS→List Chunk}(x:σ)(y:PS)(hp:post x)(he: .agg cs.toArray=val x)(hr:fn.results= #[.cell tm ty]:=by exact rfl)(hv:look E tm=some (.pointer (some ⟨b,0,none⟩)):=by exact rfl)(hty:aW Tryz.prog ty=some ⟨.struct fs,s',b',z'⟩:=by exact rfl)
  (t:aQ (aD xb [ptr pb] 136::cK pb en y) L F:=by exact aK) (hm:Take (aD b cs bt) (aD xb [ptr pb] 136::(cK pb en y.up ++F)) L':=by exact tk) (hl:cs.length=s':=by exact rfl) (hx:∀c∈mem x,c.bB=true:=by exact oQ) (hF:aQ (aI w0 S::mem x) (aD xb [ptr pb] 136::(cK pb en y.up ++F)) F2:=by exact aK):
  End (mC Tryz.prog fn (pN post val mem bad why memE w0 S)) ⟨n,[H9 xb]⟩ .ret E L:=
 End.zK (R6 (R5 hr hv hty hm hl fun w hm=> .inl ⟨x,hp,by rw[he],hx,(hm.aS hF).left⟩) t)
theorem P1u{tm:Tmp}{v:Value}{why:lM×PS→Value}{memE:lM×PS→List Chunk}(x:σ)(y:PS)(hp:post x)(he:v=val x)(hr:fn.results= #[.tmp tm]:=by exact rfl)(hv:look E tm=some v:=by exact rfl)
  (t:aQ (aD xb [ptr pb] 136::cK pb en y) L F:=by exact aK) (hx:∀c∈mem x,c.bB=true:=by exact oQ) (hF:aQ (aI w0 S::mem x) (aD xb [ptr pb] 136::(cK pb en y.up ++F)) F2:=by exact aK):
  End (mC Tryz.prog fn (pN post val mem bad why memE w0 S)) ⟨n,[H9 xb]⟩ .ret E L:=
 End.zK (R6 (fY.one hr hv fun w hm=> .inl ⟨x,hp,by rw[he],hx,(hm.aS hF).left⟩) t)
end
end
attribute [local irreducible] Fr.is Fr.expr
variable{pb:Nat}{en:Int}
abbrev BB(x:EL):Value:= .agg (dU x).toArray
abbrev sF(pb:Nat)(en:Int)(f:Nat):Prop:=∀s:PS,s.deep=200-(f:Int)→Pf pb en 158 [ptr pb] [bN] s (Fr.expr f s.l) EL.ex BB (fun x=>[aR x.mem])
structure oF where
 o:Option Addr
 c:Nat
 l:List EL
abbrev oF.ml(x:oF):List Chunk:=[arr x.o x.l.length x.c 257 dU x.l,aR (EL.cU x.l)]
theorem RX{α:Type}(one:Fr.Rd α)(n:Nat)(first:Bool)(l:List Fr.Tok):Fr.listed one n first l=match Fr.is Fr.pY l with
  |some r=>some ([],r)
  |none=>match n with
   |0=>none
   |n+1=>(if first then some l else Fr.is Fr.w9 l).bind fun l=>(one l).bind fun(x,r)=>(Fr.listed one n false r).map fun(xs,r)=>(x::xs,r):=by
 rw[Fr.listed.eq_def];try rfl
theorem TN(f:Nat)(hE:sF pb en f)(s:PS)(hs:s.deep=200-(f:Int)):Pf pb en 207 [ptr pb] [bN] s (Fr.args (Fr.expr f) s.l) (fun x:oF=>x.l.map EL.ex) (fun x=> .slice x.o x.l.length x.c) oF.ml:=by
 refine PE [ptr pb] Tryz.func207 Tryz.ntmps207 fun w S=>?_;refine Jn ?_
 obtain⟨ρ,hρ⟩:∃ρ,ρ=Fr.args (Fr.expr f) s.l:=⟨_,rfl⟩;rw[←hρ];unfold Fr.args at hρ
 repeat(refine Fy ?_;try intro b)
 refine PN (lW s b Fr.o1) ?_ ?_;(intro hq e y;refine PO ?_;refine PX (e,y) ?_;simp only[hρ,hq,cE,cC]);intro y hi dy ly;simp only[hi,aU,a8,id]at hρ;refine Jn ?_
 repeat(refine Fy ?_)
 apply aB.imp (fun w hm=>(hm.bY 257 dU).eX);refine aB.only ((fun z:oF×PS=>aI w S::bN::(z.1.ml ++cK pb en z.2)) (⟨none,0,[]⟩,y)) (aK) ?_;apply aB.loop (σ:=oF×PS) (fun z=>z.1.l.length≤6∧z.2.deep=s.deep∧z.2.l.length≤s.l.length∧ρ=(Fr.listed (Fr.expr f) (6-z.1.l.length) z.1.l.isEmpty z.2.l).map fun x=>(z.1.l.map EL.ex ++x.1,x.2)) (fun z=>[(0,ptr pb),(3, .slice z.1.o z.1.l.length z.1.c)]) (fun z:oF×PS=>aI w S::bN::(z.1.ml ++cK pb en z.2)) (fun z=>7-z.1.l.length) (⟨none,0,[]⟩,y)
 rotate_left
 exact sb;exact aK;intro z hz K hK;(refine Jn ?_)
 rotate_left
 ·refine⟨by simp,dy,Nat.le_of_lt ly,?_⟩;rw[hρ];simp
 clear hρ hi dy ly;clear y;obtain⟨x,y⟩:=z;obtain⟨hx,dy,ly,hρ⟩:=hz;dsimp only at hx dy ly hρ⊢;rw[RX]at hρ
 repeat(refine Fy ?_)
 refine PI (gS y Fr.pY) ?_ ?_
 ·intro u hi du lu;simp only[hi,aU,a8,id]at hρ;refine Jn ?_
  repeat(refine Fy ?_)
  exact P1 (x,u) ⟨by rw[hρ];simp,by dsimp only;omega,by dsimp only;omega⟩ rfl
 intro hi;simp only[hi,aU,a8,id]at hρ;refine Jn ?_
 by_cases h0:0<x.l.length
 ·rw[show x.l.isEmpty=false by cases hx:x.l<;>simp_all]at hρ
  repeat(refine Fy ?_;try intro b)
  refine PN (lW y b Fr.w9) ?_ ?_;(intro hq e y;refine PO ?_;refine PX (e,y) ?_;(rw[hρ,hq];cases 6-x.l.length<;>rfl));intro u hi du lu;simp only[hi,aU,a8,id]at hρ;refine Jn ?_
  by_cases h6:x.l.length=6
  ·rw[show 6-x.l.length=0 by omega]at hρ
   repeat(refine Fy ?_)
   refine FQ (oZ u) ?_;intro a ha;refine Jn ?_
   repeat(refine Fy ?_)
   refine PQ (nZ u (uN a)) ?_ ?_;(intro q hq;refine PO ?_;refine PX ((uN a,u)) ?_;exact hρ);intro z _;exact z.elim
  ·obtain⟨m,hm⟩:∃m,6-x.l.length=m+1:=⟨5-x.l.length,by omega⟩;rw[hm]at hρ;simp only[xS,if_false,aU]at hρ
   repeat(refine Fy ?_)
   refine PK (hE u (by omega)) ?_ ?_;(intro hq e y;refine PO ?_;refine PX (e,y) ?_;simp only[hρ,hq,cE,cC]);intro g v hi dv lv;simp only[hi,aU,a8,id]at hρ;refine Jn ?_
   repeat(refine Fy ?_;try first|intro ao cap|intro b)
   rw[show x.l.length+1=(x.l ++[g]).length by simp];apply End.imp (fun w hm=>Mem.x7 (cs:=EL.cU x.l) (ds:=g.mem) hm tk tk);rw[←K8];refine End.bK hK (⟨ao,cap,x.l ++[g]⟩,v) ⟨by simp;omega,by dsimp only;omega,by dsimp only;omega,?_⟩ (by simp;omega);rw[hρ,show 6-(x.l ++[g]).length=m by simp;omega,show(⟨ao,cap,x.l ++[g]⟩:oF).l.isEmpty=false by simp];simp[vX]
 ·rw[show x.l.isEmpty=true by cases hx:x.l<;>simp_all,show 6-x.l.length=5+1 by omega]at hρ;simp only[if_true,aU]at hρ
  repeat(refine Fy ?_)
  refine PK (hE y (by omega)) ?_ ?_;(intro hq e y;refine PO ?_;refine PX (e,y) ?_;simp only[hρ,hq,cE,cC]);intro g v hi dv lv;simp only[hi,aU,a8,id]at hρ;refine Jn ?_
  repeat(refine Fy ?_;try first|intro ao cap|intro b)
  rw[show x.l.length+1=(x.l ++[g]).length by simp];apply End.imp (fun w hm=>Mem.x7 (cs:=EL.cU x.l) (ds:=g.mem) hm tk tk);rw[←K8];refine End.bK hK (⟨ao,cap,x.l ++[g]⟩,v) ⟨by simp;omega,by dsimp only;omega,by dsimp only;omega,?_⟩ (by simp;omega);rw[hρ,show 6-(x.l ++[g]).length=5 by simp;omega,show(⟨ao,cap,x.l ++[g]⟩:oF).l.isEmpty=false by simp];simp[vX]
end
end Vw
end Go.Proofs.YtofckcabpchcmaaGreatDoor
