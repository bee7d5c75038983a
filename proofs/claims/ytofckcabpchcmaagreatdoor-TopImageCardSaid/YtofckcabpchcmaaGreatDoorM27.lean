/- Package lex, walked: names. -/
import Derived.Test.YtofckcabpchcmaaGreatDoorM26
set_option linter.unusedVariables false
set_option linter.unusedSimpArgs false
set_option linter.unusedSectionVars false
set_option maxRecDepth 100000
namespace Go.Proofs.YtofckcabpchcmaaGreatDoor
namespace Vw
open Go.RowKit Img
attribute [local irreducible] aE aG End aB Still aN aU RunT Fn aS
section
attribute [local irreducible] Fr.letter Fr.digit Fr.word
theorem AJ(t:List UInt8):Fn Tryz.prog 130 #[sv t] [cF] [] (σ:=Unit) (fun _=>True) (fun _=> .bool (Fr.named t)) (fun _=>[]):=by
 refine JE [sv t] Tryz.func130 Tryz.ntmps130 fun w S=>?_;refine Jn ?_;have hf:(¬t.length<1∧¬12<t.length∧Fr.letter (t.getD 0 0)=true∧Go.Lib.contains Fr.DW ([32] ++t ++[32])=false)→Fr.named t=decide (Fr.fA Fr.word t=t.length):=fun⟨a,b,c,d⟩=>by
  unfold Fr.named;rw[show t.headD 0=t.getD 0 0 by cases t<;>rfl,c,d,decide_eq_true (show 1≤t.length by omega),decide_eq_true (show t.length≤12 by omega)];rfl
 have hn:¬(¬t.length<1∧¬12<t.length∧Fr.letter (t.getD 0 0)=true∧Go.Lib.contains Fr.DW ([32] ++t ++[32])=false)→Fr.named t=false:=fun h=>by
  rw[←Bool.not_eq_true];intro hh;unfold Fr.named at hh;rw[show t.headD 0=t.getD 0 0 by cases t<;>rfl]at hh;simp only[JX,JV,Bool.not_eq_true']at hh;exact h ⟨aA,aA,hh.1.1.2,hh.1.2⟩
 by_cases h1:t.length<1
 ·refine a8 ?_;exact End.aX () (he:=by rw[hn (fun h=>h.1 h1)]) (hp:=trivial)
 by_cases h2:12<t.length
 ·refine a8 ?_;exact End.aX () (he:=by rw[hn (fun h=>h.2.1 h2)]) (hp:=trivial)
 refine a8 ?_;refine dV (FW (t.getD 0 0)) fun s hs=>?_
 cases h3:Fr.letter (t.getD 0 0)with
 |false=>
  refine a8 ?_;exact End.aX () (he:=by rw[hn (fun h=>by rw[h3]at h;cases h.2.2.1)]) (hp:=trivial)
 |true=>
  refine a8 ?_;refine aE.eE (h:=?_);refine aB.bA (spec:=aHY Fr.DW ([32] ++t ++[32]) aK) (r:=fun w=> .any tk FE .nil) (k:=?_);intro s hs;refine Jn ?_
  cases h4:Go.Lib.contains Fr.DW ([32] ++t ++[32])with
  |true=>
   refine a8 ?_;exact End.aX () (he:=by rw[hn (fun h=>by rw[h4]at h;cases h.2.2.2)]) (hp:=trivial)
  |false=>
   refine a8 ?_;refine tT (HO t aA _ _ ZH.2 b7) fun s hs=>?_;exact End.aX () (he:=by rw[hf ⟨h1,h2,h3,h4⟩];exact jZ (decide_eq_decide.2 Int.ofNat_inj)) (hp:=trivial)
end
theorem UF(l:List UInt8)(c:UInt8):Fr.numOf (l ++[c])=Fr.numOf l*10+((c.toNat:Int)-48):=by simp[Fr.numOf]
theorem IZ{c:UInt8}(h:Fr.digit c=true):48≤c.toNat∧c.toNat≤57:=by simpa[Fr.digit]using h
theorem L6(t:List UInt8)(hd:∀c∈t,Fr.digit c=true):∀k,k≤t.length→0≤Fr.numOf (t.take k)∧Fr.numOf (t.take k)<((10^k:Nat):Int)
 |0,_=>by simp[Fr.numOf]
 |k+1,h=>by
  obtain⟨h1,h2⟩:=L6 t hd k aA;have h3:=IZ (hd _ (dW (show k<t.length by omega)));rw[mM aA,UF,Nat.pow_succ];omega
theorem aEX(t:List UInt8)(h0:0<t.length)(ht:t.length≤15)(hd:∀c∈t,Fr.digit c=true):Fn Tryz.prog 149 #[sv t, .int .i64 10, .int .i64 64] [] [] (σ:=Unit) (fun _=>True) (fun _=> .tuple #[.int .u64 (Fr.numOf t), .nilIface]) (fun _=>[]):=by
 refine JE [sv t, .int .i64 10, .int .i64 64] Tryz.func149 Tryz.ntmps149 fun w S=>?_;refine Jn ?_;have hne:decide (t=([]:List UInt8))=false:=by cases t<;>simp_all
 refine a8 ?_;apply aE.op aV;refine aB.bP (h:=Still.shl (z:=0) rfl rfl aK rfl) (k:=?_);refine a8 ?_;apply aE.op aV;refine aB.bytesOf rfl rfl rfl rfl aA rfl (fun ao c=>?_);refine a8 ?_;refine cK (σ:=Nat) (fun k=>k≤t.length) (fun k=>[(0,sv t),(1, .int .i64 10),(8, .bool false),(10, .int .u64 1844674407370955162),(11, .int .u64 18446744073709551615),(12, .bool false),(13, .int .u64 (Fr.numOf (t.take k))),(99, .slice ao t.length c),(100, .int .i64 t.length),(101, .int .i64 k)]) (fun k=>[aO w S,rd ao t.length c xL t]) (fun k=>t.length-k) 0 ?_ fun k hk K hK=>?_
 ·exact bQ _
 refine Jn ?_;obtain⟨n1,n2⟩:=L6 t hd k hk;have n3:10^k≤1000000000000000:=Nat.pow_le_pow_right (j:=15) aK aA
 by_cases h:k<t.length
 ·obtain⟨d1,d2⟩:=IZ (hd _ (dW h));have hs:=mM h;have hnx:Fr.numOf (t.take (k+1))=Fr.numOf (t.take k)*10+(((t.getD k default).toNat:Int)-48):=by rw[hs,UF]
  clear hs;generalize 10^k=X at n2 n3;generalize Fr.numOf (t.take k)=n at hnx n1 n2⊢;refine a8 ?_;rw[show n*10+(((t.getD k default).toNat:Int)-48)=Fr.numOf (t.take (k+1))from hnx.symm];exact End.bK hK (k+1) h aA
 ·obtain rfl:k=t.length:=aA;refine a8 ?_;exact End.oL () (he:=by rw[pF]) (hp:=trivial)
theorem aEV(t:List UInt8)(h0:0<t.length)(ht:t.length≤15)(hd:∀c∈t,Fr.digit c=true):Fn Tryz.prog 126 #[sv t, .int .i64 10, .int .i64 64] [] [] (σ:=Unit) (fun _=>True) (fun _=> .tuple #[.int .i64 (Fr.numOf t), .nilIface]) (fun _=>[]):=by
 refine JE [sv t, .int .i64 10, .int .i64 64] Tryz.func126 Tryz.ntmps126 fun w S=>?_;refine Jn ?_;have hne:decide (t=([]:List UInt8))=false:=by cases t<;>simp_all
 obtain⟨d1,d2⟩:=IZ (hd _ (dW h0));rw[show(default:UInt8)=0 from rfl]at d1 d2;obtain⟨n1,n2⟩:=L6 t hd t.length (bS _);rw[pF]at n1 n2;have n3:10^t.length≤1000000000000000:=Nat.pow_le_pow_right (j:=15) aK aA;refine a8 ?_;refine tT (aEX t h0 ht hd) fun s hs=>?_;apply aE.op aV;refine aB.bP (h:=Still.shl (z:=9223372036854775808) rfl rfl aK rfl) (k:=?_);refine a8 ?_;exact End.oL () (he:=rfl) (hp:=trivial)
theorem aEW(t:List UInt8)(h0:0<t.length)(ht:t.length≤15)(hd:∀c∈t,Fr.digit c=true):Fn Tryz.prog 87 #[sv t, .int .i64 10, .int .i64 64] [] [] (σ:=Unit) (fun _=>True) (fun _=> .tuple #[.int .i64 (Fr.numOf t), .nilIface]) (fun _=>[]):=by
 refine JE [sv t, .int .i64 10, .int .i64 64] Tryz.func87 Tryz.ntmps87 fun w S=>?_;refine a8 ?_;refine tT (aEV t h0 ht hd) fun s hs=>?_;exact End.oL () (he:=rfl) (hp:=trivial)
def rW(t:Fr.Tok):List Value:=[.int .i64 t.kind,sv t.text, .int .i64 t.num, .int .i64 t.at_]
instance:bH rW:=⟨fun _=>rfl,aK,fun a u hu=>by simp[rW]at hu;rcases hu with rfl|rfl|rfl|rfl<;>rfl⟩
abbrev aBt(e a:Int):Value:= .agg #[.int .i64 e, .int .i64 a]
structure xG where
 o:Option Addr
 c:Nat
 l:List Fr.Tok
 e:Int
 a:Int
theorem OK{ok:UInt8→Bool}{s:List UInt8}(h:0<s.length)(h2:ok (s.getD 0 0)=true):1≤Fr.fA ok s:=by
 cases s with
 |nil=>simp at h
 |cons c r=>unfold Fr.fA;rw[BU];simp_all
theorem aIR{ok:UInt8→Bool}{s:List UInt8}:∀c∈s.take (Fr.fA ok s),ok c=true:=fun c hc=>by
 unfold Fr.fA at hc;rw[←List.prefix_iff_eq_take.1 (List.takeWhile_prefix ok)]at hc;have h:=List.all_takeWhile (p:=ok) (l:=s);exact pD.1 h c hc
theorem aGU(s:List UInt8):(Fr.sign s).length≤s.length:=by
 unfold Fr.sign
 cases h:Fr.sY.find? fun x=>x.isPrefixOf s with
 |none=>exact bQ _
 |some x=>have:=List.find?_some h;exact(List.isPrefixOf_iff_prefix.1 this).length_le
theorem N1{a:Nat}{s:List UInt8}{k:Fr.Tok}(hs:0<s.length)(h:Fr.p7 a s=some k):1≤k.text.length∧k.text.length≤s.length:=by
 unfold Fr.p7 at h;rw[show s.headD 0=s.getD 0 0 by cases s<;>rfl]at h;dsimp only at h
 split at h
 ·rename_i hl
  have hw:Fr.word (s.getD 0 0)=true:=by unfold Fr.word;rw[hl];rfl
  cases h
  have:=BH Fr.word s;exact⟨by show 1≤(s.take _).length;rw[jM];have:=OK hs hw;omega,by show(s.take _).length≤_;rw[jM];omega⟩
 ·split at h
  ·rename_i hd
   split at h
   ·cases h
   ·cases h
    have:=BH Fr.digit s;exact⟨by show 1≤(s.take _).length;rw[jM];have:=OK hs hd;omega,by show(s.take _).length≤_;rw[jM];omega⟩
  ·split at h
   ·cases h
   ·rename_i hg
    cases h
    exact⟨JP.2 hg,aGU s⟩
theorem XZ:∀(n:Nat) (a:Nat) (s:List UInt8),s.length<n→∀m,s.length<m→Fr.wD n a s=Fr.wD m a s
 |0,a,s,h,m,_=>absurd h (xE _)
 |n+1,a,s,h,0,h2=>absurd h2 (xE _)
 |n+1,a,s,h,m+1,h2=>by
  unfold Fr.wD;dsimp only
  split
  ·rfl
  ·rename_i hk
   cases ht:Fr.p7 (a+Fr.space s.length s) (s.drop (Fr.space s.length s))with
   |none=>rfl
   |some k=>
    dsimp only;have:=N1 (by rw[fM];omega) ht;rw[XZ n _ _ (by rw[fM];omega) m (by rw[fM];omega)]
def s5(t:List UInt8)(k:Nat):Option (List Fr.Tok):=Fr.wD (t.length+1) k (t.drop k)
theorem aH1{t:List UInt8}{k:Nat}(hk:k≤t.length)(h:¬k+sp (t.drop k)<t.length):s5 t k=some []:=by
 unfold s5;rw[Fr.wD];rw[if_pos (show(t.drop k).length≤Fr.space (t.drop k).length (t.drop k) by have:sp (t.drop k)=Fr.space (t.drop k).length (t.drop k):=rfl;rw[←this,fM];omega)]
theorem aH2{t:List UInt8}{k:Nat}(hk:k≤t.length)(h:k+sp (t.drop k)<t.length):
  s5 t k=match Fr.p7 (k+sp (t.drop k)) (t.drop (k+sp (t.drop k)))with
   |none=>none
   |some x=>(s5 t (k+sp (t.drop k)+x.text.length)).map (x::·):=by
 have e:sp (t.drop k)=Fr.space (t.drop k).length (t.drop k):=rfl;unfold s5;rw[Fr.wD];rw[if_neg (by rw[←e,fM];omega),←e,List.drop_drop]
 cases hx:Fr.p7 (k+sp (t.drop k)) (t.drop (k+sp (t.drop k)))with
 |none=>rfl
 |some x=>
  dsimp only;have:=N1 (by rw[fM];omega) hx;rw[fM]at this;rw[List.drop_drop,XZ t.length _ _ (by rw[fM];omega) (t.length+1) (by rw[fM];omega),uZ]
theorem aH4{a:Nat}{s:List UInt8}(h:Fr.letter (s.getD 0 0)=true):Fr.p7 a s=some ⟨1,s.take (Fr.fA Fr.word s),0,a⟩:=by
 unfold Fr.p7;rw[show s.headD 0=s.getD 0 0 by cases s<;>rfl];dsimp only;rw[if_pos h]
theorem XX{a:Nat}{s:List UInt8}(h:Fr.letter (s.getD 0 0)=false)(h2:Fr.digit (s.getD 0 0)=true):Fr.p7 a s=if 15<Fr.fA Fr.digit s then none else some ⟨2,s.take (Fr.fA Fr.digit s),Fr.numOf (s.take (Fr.fA Fr.digit s)),a⟩:=by
 unfold Fr.p7;rw[show s.headD 0=s.getD 0 0 by cases s<;>rfl];dsimp only;rw[if_neg (by rw[h];decide),if_pos h2]
theorem XY{a:Nat}{s:List UInt8}(h:Fr.letter (s.getD 0 0)=false)(h2:Fr.digit (s.getD 0 0)=false):Fr.p7 a s=if Fr.sign s=[]then none else some ⟨3,Fr.sign s,0,a⟩:=by
 unfold Fr.p7;rw[show s.headD 0=s.getD 0 0 by cases s<;>rfl];dsimp only;rw[if_neg (by rw[h];decide),if_neg (by rw[h2];decide)]
attribute [local irreducible] Fr.letter Fr.digit Fr.word Fr.sign Fr.numOf Fr.fA Fr.space sp s5
set_option maxHeartbeats 1000000 in
theorem aH5(t:List UInt8)(hn:t.length≤9223372036854775807):Fn Tryz.prog 48 #[sv t] [] [] (σ:=xG) (fun s=>(s.e=0∧Fr.tokens t=some s.l)∨(s.e≠0∧Fr.tokens t=none)) (fun s=> .tuple #[.slice s.o s.l.length s.c,aBt s.e s.a]) (fun s=>[arr s.o s.l.length s.c 202 rW s.l]):=by
 refine JE [sv t] Tryz.func48 Tryz.ntmps48 fun w S=>?_;refine Jn ?_
 by_cases h:6000<t.length
 ·repeat(refine Fy ?_;try intro b)
  apply End.imp (fun w hm=>hm.cU 202 rW);exact End.oM (⟨none,0,[],4,0⟩:xG) (.inr ⟨aK,by unfold Fr.tokens;rw[if_pos h]⟩) aV
 have e0:Fr.tokens t=s5 t 0:=by unfold Fr.tokens s5;rw[if_neg h,List.drop_zero]
 repeat(refine Fy ?_;try intro b)
 refine tT (XE t aA) fun s hs=>?_;apply aG.imp (fun w hm=>hm.cU 202 rW);rw[show sp t=0+sp (t.drop 0) by rw[List.drop_zero,sD]];refine cK (σ:=Nat×xG) (fun z=>z.1≤t.length∧z.2.l.length≤z.1∧Fr.tokens t=(s5 t z.1).map (z.2.l ++ ·)) (fun z=>[(0,sv t),(3,ptr b),(4, .slice z.2.o z.2.l.length z.2.c),(5, .int .i64 ((z.1+sp (t.drop z.1):Nat):Int))]) (fun z:Nat×xG=>[aO w S,aF b [.int .i64 0, .int .i64 0] 70,arr z.2.o z.2.l.length z.2.c 202 rW z.2.l]) (fun z=>t.length-z.1) (0,⟨none,0,[],0,0⟩) ?_ fun z hz K hK=>?_
 ·exact⟨bQ _,bQ _,by rw[e0];simp⟩
 refine Jn ?_;obtain⟨k,x⟩:=z;obtain⟨hk,hlen,htk⟩:=hz;dsimp only at hk hlen htk⊢;obtain⟨q,hqe⟩:∃q,q=k+sp (t.drop k):=⟨_,rfl⟩;rw[←hqe]
 by_cases hq:q<t.length
 ·have hnx:=aH2 hk aA;rw[←hqe]at hnx;obtain⟨u,hue⟩:∃u,u=t.drop q:=⟨_,rfl⟩;have hsl:0<u.length:=by rw[hue,fM];omega
  have hsl2:u.length≤6000:=by rw[hue,fM];omega
  have hsl3:u.length+q=t.length:=by rw[hue,fM];omega
  have hex:=fun k=>N1 (a:=q) (k:=k) hsl;rw[←hue]at hnx;have hw1:=BH Fr.word u;have hw2:=BH Fr.digit u
  repeat(refine Fy ?_;try intro b)
  rw[←hue];refine a8 ?_;obtain⟨tb,rfl⟩:=a7 b;refine tT (FW (u.getD 0 0)) fun s hs=>?_;refine EP (σ:=Fr.Tok) (fun y=>Fr.p7 q u=some y) (fun y=>[(0,sv t),(3,ptr b),(4, .slice x.o x.l.length x.c),(5, .int .i64 q),(7,ptr tb)]) (fun y=>[aO w S,aF b [.int .i64 0, .int .i64 0] 70,arr x.o x.l.length x.c 202 rW x.l,aF tb (rW y) 202]) ?_ ?_
  ·intro y hy;obtain⟨y1,y2⟩:=hex y hy
   repeat(refine Fy ?_;try first|intro ao cap|intro b)
   refine dV (XE (t.drop (q+y.text.length)) (by rw[fM];omega)) fun s hs=>?_;have hsp:=NB _ (t.drop (q+y.text.length)) (bS _);rw[fM]at hsp;refine a8 ?_;rw[show x.l.length+1=(x.l ++[y]).length by simp,show(q:Int)+(y.text.length:Int)+(sp (t.drop (q+y.text.length)):Int)=((q+y.text.length+sp (t.drop (q+y.text.length)):Nat):Int) by omega];refine End.bK hK (q+y.text.length,⟨ao,cap,x.l ++[y],0,0⟩) ⟨by show q+y.text.length≤_;omega,by simp;omega,?_⟩ (by show t.length-(q+y.text.length)<t.length-k;omega);rw[htk,hnx,hy];dsimp only
   cases s5 t (q+y.text.length)<;>simp
  intro K' hK'
  cases hl:Fr.letter (u.getD 0 0)with
  |true=>
   refine a8 ?_;refine b8 7 [] 8 ?_;refine bR [0,1,4] ?_;(refine JT 2 ?_;refine aB.bA (spec:=HO u hsl2 _ _ ZH.1 b7) (k:=?_);intro s hs;refine JG ?_);refine RunT.s4 3 (hy:=Fs) (h:=?_);refine gWl [5] ?_;refine JR 6 ?_;refine gWl [7] ?_;refine b6 ?_;refine a8 ?_;refine End.some_ hK' (⟨1,u.take (Fr.fA Fr.word u),0,q⟩:Fr.Tok) ?_;exact aH4 hl
  |false=>
   refine a8 ?_;refine tT (ES (u.getD 0 0)) fun s hs=>?_
   cases hd:Fr.digit (u.getD 0 0)with
   |true=>
    refine a8 ?_;refine b8 7 [] 8 ?_;refine bR [0,1,4] ?_;(refine JT 2 ?_;refine aB.bA (spec:=HO u hsl2 _ _ ES b7) (k:=?_);intro s hs;refine JG ?_);refine RunT.s4 3 (hy:=Fs) (h:=?_);refine gWl [5] ?_;refine JR 6 ?_;refine gWl [7] ?_;refine b6 ?_;have hdg:= @aIR Fr.digit u;have hlt:(u.take (Fr.fA Fr.digit u)).length=Fr.fA Fr.digit u:=by rw[jM];omega
    by_cases h15:15<Fr.fA Fr.digit u
    ·refine a8 ?_;apply End.imp (fun w hm=>hm.cU 202 rW);exact End.oM (⟨none,0,[],3,q⟩:xG) (.inr ⟨by show(3:Int)≠0;decide,by rw[htk,hnx,XX hl hd,if_pos h15];rfl⟩) aV
    ·refine a8 ?_;refine tT (aEW (u.take (Fr.fA Fr.digit u)) (by have:=OK hsl hd;omega) aA hdg) fun s hs=>?_;refine End.some_ hK' (⟨2,u.take (Fr.fA Fr.digit u),Fr.numOf (u.take (Fr.fA Fr.digit u)),q⟩:Fr.Tok) ?_;rw[XX hl hd,if_neg h15]
   |false=>
    refine a8 ?_;refine tT (aGT u hsl2) fun s hs=>?_
    by_cases hg:Fr.sign u=[]
    ·rw[hg];refine a8 ?_;apply End.imp (fun w hm=>hm.cU 202 rW);exact End.oM (⟨none,0,[],2,q⟩:xG) (.inr ⟨by show(2:Int)≠0;decide,by rw[htk,hnx,XY hl hd,if_pos hg];rfl⟩) aV
    ·have hg':decide (Fr.sign u=[])=false:=decide_eq_false hg;refine a8 ?_;refine End.some_ hK' (⟨3,Fr.sign u,0,q⟩:Fr.Tok) ?_;rw[XY hl hd,if_neg hg]
 ·refine a8 ?_;exact End.oM (⟨x.o,x.c,x.l,0,0⟩:xG) (.inl ⟨rfl,by rw[htk,aH1 hk aA];simp⟩) aV
end Vw
namespace Fr
structure Ty where
 kind:Int
 gen:aH
 deriving DecidableEq
instance:Inhabited Ty:=⟨⟨0,[]⟩⟩
inductive Ex where
 |mk (kind:Int) (n:Int) (name:aH) (kids:List Ex)
namespace Ex
def kind:Ex→Int|mk k _ _ _=>k
def n:Ex→Int|mk _ n _ _=>n
def name:Ex→aH|mk _ _ s _=>s
def kids:Ex→List Ex|mk _ _ _ l=>l
end Ex
instance:Inhabited Ex:=⟨.mk 0 0 [] []⟩
inductive St where
 |mk (kind:Int) (name:aH) (x:Ex) (body fJ:List St)
namespace St
def kind:St→Int|mk k _ _ _ _=>k
def name:St→aH|mk _ s _ _ _=>s
def x:St→Ex|mk _ _ x _ _=>x
def body:St→List St|mk _ _ _ b _=>b
def fJ:St→List St|mk _ _ _ _ e=>e
end St
instance:Inhabited St:=⟨.mk 0 [] default [] []⟩
structure Pm where
 name:aH
 type:Ty
instance:Inhabited Pm:=⟨⟨[],default⟩⟩
structure Df where
 kind:Int
 name:aH
 type:Ty
 aP:Ty
 cap:Int
 params:List Pm
 body:List St
instance:Inhabited Df:=⟨⟨0,[],default,default,0,[],[]⟩⟩
abbrev Rd(α:Type):=List Tok→Option (α×List Tok)
def is(s:aH)(l:List Tok):Option (List Tok):=match l with
 |t::r=>if t.text=s then some r else none
 |[]=>none
def qR(ss:List aH)(l:List Tok):Option (List Tok):=match ss with
 |[]=>some l
 |s::r=>(is s l).bind (qR r)
def name:Rd aH
 |t::r=>if t.kind=1∧named t.text=true then some (t.text,r)else none
 |[]=>none
def number:Rd Int
 |t::r=>if t.kind=2 then some (t.num,r)else none
 |[]=>none
--words,as bytes
def Y1:aH:=[110,117,109]
def YS:aH:=[98,111,111,108]
def YT:aH:=[98,111,120]
def YX:aH:=[102,110]
def YY:aH:=[103,101,110]
def ZC:aH:=[116,97,115,107]
def ZA:aH:=[116,97,107,101,115]
def ZG:aH:=[121,105,101,108,100,115]
def YZ:aH:=[105,102]
def YV:aH:=[101,108,115,101]
def ZE:aH:=[119,104,105,108,101]
def Y0:aH:=[108,101,116]
def Y6:aH:=[114,101,116,117,114,110]
def Y9:aH:=[115,116,111,112]
def Y7:aH:=[115,101,110,100]
def Y3:aH:=[111,117,116]
def YU:aH:=[100,111]
def ZD:aH:=[116,114,117,101]
def YW:aH:=[102,97,108,115,101]
def Y4:aH:=[114,101,99,118]
def ZF:aH:=[121,105,101,108,100]
def Y5:aH:=[114,101,115,117,109,101]
def YR:aH:=[97,108,105,118,101]
def Y8:aH:=[115,116,97,114,116]
def wOr:aH:=[111,114]
def aIG:aH:=[97,110,100]
def DT:aH:=[110,111,116]
def pW:aH:=[40]
def qT:aH:=[41]
def U2:aH:=[123]
def MK:aH:=[125]
def yA:aH:=[44]
def GO:aH:=[59]
def GN:aH:=[61]
def C8:aH:=[45]
def j7:Rd Ty:=fun l=>match is Y1 l with
 |some r=>some (⟨1,[]⟩,r)
 |none=>match is YS l with
  |some r=>some (⟨2,[]⟩,r)
  |none=>(name l).map fun(s,r)=>(⟨3,s⟩,r)
def ops:Nat→List (aH×Int)×Bool
 |0=>([(wOr,18)],false)
 |1=>([(aIG,17)],false)
 |2=>([([61,61],11),([33,61],12),([60],13),([60,61],14),([62],15),([62,61],16)],true)
 |3=>([([43],6),([45],7)],false)
 |_=>([([42],8),([47],9),([37],10)],false)
def oT(n:Nat)(s:aH):Int:=(((ops n).1.find? fun x=>decide (x.1=s)).map (·.2)).getD 0
def more(n:Nat)(next:Rd Ex):Nat→Ex→Rd Ex
 |0,x,l=>some (x,l)
 |k+1,x,l=>match l with
  |[]=>some (x,[])
  |t::r=>
   if oT n t.text=0 then some (x,t::r)
   else(next r).bind fun(y,r')=>if(ops n).2=true then some (.mk (oT n t.text) 0 [] [x,y],r')else more n next k (.mk (oT n t.text) 0 [] [x,y]) r'
def levels(un:Rd Ex):Nat→Rd Ex
 |0=>un
 |k+1=>fun l=>(levels un k l).bind fun(x,r)=>more (4-k) (levels un k) (r.length+1) x r
def listed{α:Type}(one:Rd α):Nat→Bool→Rd (List α)
 |n,first,l=>match is qT l with
  |some r=>some ([],r)
  |none=>match n with
   |0=>none
   |n+1=>(if first then some l else is yA l).bind fun l=>(one l).bind fun(x,r)=>(listed one n false r).map fun(xs,r)=>(x::xs,r)
def args(one:Rd Ex):Rd (List Ex):=fun l=>(is pW l).bind (listed one 6 true)
def xQ(one:Rd Ex):Nat→Bool→Rd (List Ex)
 |0,_,l=>some ([],l)
 |n+1,first,l=>(if first then some l else is yA l).bind fun l=>(one l).bind fun(x,r)=>(xQ one n false r).map fun(xs,r)=>(x::xs,r)
def fixed(one:Rd Ex)(kind:Int)(n:Nat):Rd Ex:=fun l=>(is pW l).bind fun l=>(xQ one n true l).bind fun(xs,r)=>(is qT r).map fun r=>(.mk kind 0 [] xs,r)
def vT(one:Rd Ex):Rd Ex:=fun l=>
 if 0<l.length∧(l.headD default).kind=2 then(number l).map fun(n,r)=>(.mk 1 n [] [],r)
 else match is ZD l with
 |some r=>some (.mk 2 1 [] [],r)
 |none=>match is YW l with
 |some r=>some (.mk 2 0 [] [],r)
 |none=>match is pW l with
 |some r=>(one r).bind fun(x,r)=>(is qT r).map fun r=>(x,r)
 |none=>match is Y4 l with
 |some r=>(is pW r).bind fun r=>(name r).bind fun(s,r)=>(is qT r).map fun r=>(.mk 20 0 s [],r)
 |none=>match is ZF l with
 |some r=>fixed one 21 1 r
 |none=>match is Y5 l with
 |some r=>fixed one 23 2 r
 |none=>match is YR l with
 |some r=>fixed one 24 1 r
 |none=>match is Y8 l with
 |some r=>(name r).bind fun(s,r)=>(args one r).map fun(xs,r)=>(.mk 22 0 s xs,r)
 |none=>(name l).bind fun(s,r)=>match is pW r with
  |some _=>(args one r).map fun(xs,r)=>(.mk 19 0 s xs,r)
  |none=>some (.mk 3 0 s [],r)
def unary(inner:Rd Ex)(prim:Rd Ex):Rd Ex:=fun l=>match is C8 l with
 |some r=>(inner r).map fun(x,r)=>(.mk 4 0 [] [x],r)
 |none=>match is DT l with
  |some r=>(inner r).map fun(x,r)=>(.mk 5 0 [] [x],r)
  |none=>prim l
def exprs:Nat→Rd Ex×Rd Ex
 |0=>(fun _=>none,unary (fun _=>none) (vT fun _=>none))
 |f+1=>
  let u:=(exprs f).2
  let e:=levels u 5
  (e,unary u (vT e))
def expr(f:Nat):Rd Ex:=(exprs f).1
def params:Rd (List Pm):=fun l=>(is pW l).bind (listed (fun l=>(name l).bind fun(s,r)=>(j7 r).map fun(t,r)=>(⟨s,t⟩,r)) 6 true)
def stats(one:Rd St):Nat→Rd (List St)
 |n,l=>match is MK l with
  |some r=>some ([],r)
  |none=>match n with
   |0=>none
   |n+1=>(one l).bind fun(x,r)=>(stats one n r).map fun(xs,r)=>(x::xs,r)
def sX(kind:Int)(s:aH)(x:Ex)(l:List Tok):Option (St×List Tok):=(is GO l).map fun r=>(.mk kind s x [] [],r)
def stat(ex:Rd Ex)(body:Rd (List St)):Rd St:=fun l=>match is YZ l with
 |some r=>(ex r).bind fun(x,r)=>(body r).bind fun(b,r)=>match is YV r with
  |some r=>(body r).map fun(e,r)=>(.mk 3 [] x b e,r)
  |none=>some (.mk 3 [] x b [],r)
 |none=>match is ZE l with
 |some r=>(ex r).bind fun(x,r)=>(body r).map fun(b,r)=>(.mk 4 [] x b [],r)
 |none=>match is Y0 l with
 |some r=>(name r).bind fun(s,r)=>(is GN r).bind fun r=>(ex r).bind fun(x,r)=>sX 1 s x r
 |none=>match is Y6 l with
 |some r=>(ex r).bind fun(x,r)=>sX 5 [] x r
 |none=>match is Y9 l with
 |some r=>sX 6 [] default r
 |none=>match is Y7 l with
 |some r=>(name r).bind fun(s,r)=>(ex r).bind fun(x,r)=>sX 7 s x r
 |none=>match is Y3 l with
 |some r=>(ex r).bind fun(x,r)=>sX 8 [] x r
 |none=>match is YU l with
 |some r=>(ex r).bind fun(x,r)=>sX 9 [] x r
 |none=>(name l).bind fun(s,r)=>(is GN r).bind fun r=>(ex r).bind fun(x,r)=>sX 2 s x r
def body:Nat→Rd (List St)
 |0=>fun _=>none
 |f+1=>fun l=>(is U2 l).bind (stats (stat (expr f) (body f)) 50)
def vH:Rd Df:=fun l=>match is YT l with
 |some r=>(name r).bind fun(s,r)=>(j7 r).bind fun(t,r)=>(number r).bind fun(n,r)=>if n<1∨20<n then none else(is GO r).map fun r=>(⟨1,s,t,default,n,[],[]⟩,r)
 |none=>match is YX l with
 |some r=>(name r).bind fun(s,r)=>(params r).bind fun(ps,r)=>(j7 r).bind fun(t,r)=>(body 200 r).map fun(b,r)=>(⟨2,s,t,default,0,ps,b⟩,r)
 |none=>match is YY l with
 |some r=>(name r).bind fun(s,r)=>(params r).bind fun(ps,r)=>(is ZA r).bind fun r=>(j7 r).bind fun(k,r)=>(is ZG r).bind fun r=>(j7 r).bind fun(t,r)=>(body 200 r).map fun(b,r)=>(⟨3,s,t,k,0,ps,b⟩,r)
 |none=>match is ZC l with
 |some r=>(name r).bind fun(s,r)=>(body 200 r).map fun(b,r)=>(⟨4,s,default,default,0,[],b⟩,r)
 |none=>none
def defs:Nat→Rd (List Df)
 |n,[]=>some ([],[])
 |0,_=>none
 |n+1,l=>(vH l).bind fun(d,r)=>(defs n r).map fun(ds,r)=>(d::ds,r)
def parse(s:aH):Option (List Df):=(tokens s).bind fun l=>(defs 30 l).map (·.1)
end Fr
section
open Go Go.RowKit
section
variable{P:Program} [eT P]{Q:Exit→Act→World→Prop}{N:Nd}{E:Env}{L L' F:List Chunk}{ops:Array Oper}
variable{dst:Option Tmp}{ty:TypeId}{pos:String}{aft:Array Edge}{g:Option (Nat×Bool)}{C:Env→List Chunk→Prop}
variable{σ τ:Type}{post:σ→Prop}{val:σ→Value}{mem:σ→List Chunk}{bad:τ→Prop}{why:τ→Value}{memE:τ→List Chunk}{f:FuncId}{fn:Func}{c:Code}{R pre:List Chunk}{w0:World}{S:Nat→Prop}
theorem MR{Q:Exit→Act→World→Prop}(h:aS Q:=by(repeat(first|exact aS.nD|exact aS.body|apply aS.pT|apply aS.p6|apply aS.block));first|done|fail):aS Q:=h
theorem qV{w:World}{R F:List Chunk}(h:Reads w R F:=by(repeat(first|exact Reads.nil|(apply Reads.any;(focus ((repeat(first|exact Take.head|apply Take.tail));done));(focus (first|exact eO|exact mH|assumption|(simp;done))))|(apply Reads.arr;focus ((repeat(first|exact Take.head|apply Take.tail));done))|(apply Reads.aF;(focus ((repeat(first|exact Take.head|apply Take.tail));done));(focus (exact rfl));(focus (exact rfl));(focus omega))|(apply Reads.bC;(focus ((repeat(first|exact Take.head|apply Take.tail));done));(focus assumption))));first|done|fail):Reads w R F:=h
theorem aB.II{x:Operand}{args:List Operand}{eI:Array TypeId}{vs:List Value}(spec:qB post val mem bad why memE P f vs.toArray R pre)
  (hp:∀y,bad y→End Q N (.panic (n8 (why y))) E (memE y ++F)) (k:∀s,post s→C (cP dst (val s) E) (mem s ++F)) (hx:ev E x=some (.func (.func f) #[] #[]):=by exact rfl) (hv:gD E args vs:=by exact n4) (hc:fW P f=true:=by kernel_rfl) (hd:cR N dst=true:=by exact rfl)
  (t:aR pre L F:=by exact cA) (r:∀w,Reads w R F:=by intro w;exact qV):
  aB P Q N ⟨dst, .call ⟨.value x,args.toArray,eI⟩,ty,pos,aft,g⟩ E L C:=aB.aA0 (cap:= #[]) hx hv hc hd (by simpa using spec) t r hp k
theorem PQ{A B G T:Prop}(spec:T)(hp:B)(k:G)(h:T→Bx B→Bx G→A:=by intro sp hb hk;refine Jc ?_;exact aB.II (spec:=sp) (hp:=hb.out) (k:=hk.out)):A:=h spec ⟨hp⟩ ⟨k⟩
theorem FQ{A G T:Prop}(spec:T)(k:G)(h:T→Bx G→A:=by intro sp hk;refine Jc ?_;exact aB.bA (spec:=sp) (r:=fun w=>qV) (k:=hk.out)):A:=h spec ⟨k⟩
theorem PE{N:Nat}(args:List Value)(hf:P.funcs[f]?=some fn)(hN:fn.ntmps=N)(h:∀w S,aG P (nD P fn (qI post val mem bad why memE w S)) ⟨N,[]⟩ c (first 0 args) (aO w S::(R ++pre)))(hb:fn.body=some c:=by exact rfl)(hA:Nat.ble args.length N=true:=by exact rfl)(hR:∀c∈R,c.bE=false:=by simp[eO,mH, *]):qB post val mem bad why memE P f args.toArray R pre:=qB.enter hf hb N hN hA hR h
theorem aBB{y c:Code}{id:Nat}{l:List Oper}{σ:Type}(ok:σ→Prop)(inv:σ→Env)(mem:σ→List Chunk)(h2:∀s,ok s→aG P Q N y (inv s) (mem s))
  (h1:∀K':Act→World→Prop,(∀s,ok s→∀a w,Sat N a (inv s)→Mem w (mem s)→K' a w)→aE P ops (fN P c (Exit.inBlock id (Exit.then K' Q))) N l E L):aE P ops (fN P c (Exit.inBlock id (fN P y Q))) N l E L:=by
 rw[show fN P y Q=Exit.then (y.wp P Q) Q by unfold fN;rfl];exact h1 _ (fun s hs a w ha hm=>h2 s hs a w ha hm)
theorem PX{L:List Chunk}{n:Nat}(y:τ)(hb:bad y)(hx:∀c∈memE y,c.bE=true:=by exact pM)(ht:aR (aO w0 S::memE y) L F:=by exact cA):End (nD P fn (qI post val mem bad why memE w0 S)) ⟨n,[]⟩ (.panic (n8 (why y))) E L:=
 End.U9 (rH.nil fun w hm=> .inr ⟨y,hb,rfl,hx,(hm.aP ht).left⟩)
theorem PO{A G:Prop}(k:G)(h:Bx G→A:=by intro hk;(repeat(first|apply End.aHZ|apply End.aCX|apply End.aDu));exact hk.out):A:=h ⟨k⟩
theorem P1{n:Nat}{t:Tmp}{v:Value}(x:σ)(hp:post x)(he:v=val x)(hr:fn.results= #[.tmp t]:=by exact rfl)(hv:look E t=some v:=by exact rfl)(hx:∀c∈mem x,c.bE=true:=by exact pM)(ht:aR (aO w0 S::mem x) L F:=by exact cA):End (nD P fn (qI post val mem bad why memE w0 S)) ⟨n,[]⟩ .ret E L:=
 End.AY (fU.one hr hv fun w hm=> .inl ⟨x,hp,by rw[he],hx,(hm.aP ht).left⟩)
theorem P0{n:Nat}{e:Exit}(x:σ)(hp:post x)(hr:fn.results= #[]:=by exact rfl)(he:val x= .tuple #[]:=by exact rfl)(hx:∀c∈mem x,c.bE=true:=by exact pM)(ht:aR (aO w0 S::mem x) L F:=by exact cA)(hE:e= .ret∨e= .normal:=by first|exact .inl rfl|exact .inr rfl):End (nD P fn (qI post val mem bad why memE w0 S)) ⟨n,[]⟩ e E L:=by
 have h:fU P fn (qI post val mem bad why memE w0 S) ⟨n,[]⟩ .returning E L:=fU.none hr fun w hm=> .inl ⟨x,hp,by rw[he],hx,(hm.aP ht).left⟩;rcases hE with rfl|rfl
 ·exact End.AY h
 ·exact End.aBX h
theorem TK{n:Nat}{R:Ending→World→Prop}{t:Tmp}{ty bt:TypeId}{b s' b':Nat}{fs:List (Nat×TypeId)}{z' cs:List Value}(hr:fn.results= #[.cell t ty])(hv:look E t=some (.pointer (some ⟨b,0,none⟩)))(ht:bB P ty=some ⟨.struct fs,s',b',z'⟩)(hm:Take (aF b cs bt) L L')(hl:cs.length=s')
  (h:∀w,Mem w L→R (.returned (.agg cs.toArray)) w):fU P fn R ⟨n,[]⟩ .returning E L:=fun a w hs hM=>
 ⟨.agg cs.toArray,by simp[results,hr,hs.slot t _ hv,asAddr,uL ht (jO.1 (hM.has hm)) hl],h w hM⟩
theorem PC{n:Nat}{t:Tmp}{ty bt:TypeId}{b s' b':Nat}{fs:List (Nat×TypeId)}{z' cs:List Value}(x:σ)(hp:post x)(he: .agg cs.toArray=val x)(hr:fn.results= #[.cell t ty]:=by exact rfl)(hv:look E t=some (.pointer (some ⟨b,0,none⟩)):=by exact rfl)(ht:bB P ty=some ⟨.struct fs,s',b',z'⟩:=by exact rfl)(hm:Take (aF b cs bt) L L':=by exact tk)(hl:cs.length=s':=by exact rfl)
  (hx:∀c∈mem x,c.bE=true:=by exact pM) (hF:aR (aO w0 S::mem x) L F:=by exact cA):End (nD P fn (qI post val mem bad why memE w0 S)) ⟨n,[]⟩ .ret E L:=
 End.AY (TK hr hv ht hm hl fun w hm=> .inl ⟨x,hp,by rw[he],hx,(hm.aP hF).left⟩)
theorem PD{l:List Oper}{x:Operand}{args:List Operand}{eI:Array TypeId}{vs:List Value}{cap:Array Value}(k:aE P ops Q ⟨N.n,{target:= .fn (.func f) cap,args:=vs.toArray}::N.ds⟩ l (cP dst Go.undef E) L)(hx:ev E x=some (.func (.func f) #[] cap):=by exact rfl)(hv:gD E args vs:=by exact n4)(hd:cR N dst=true:=by exact rfl):
  aE P ops Q N (⟨dst, .defer ⟨.value x,args.toArray,eI⟩,ty,pos,aft,none⟩::l) E L:=aE.defer hx hv hd k
end
end
namespace Vw
open Go.RowKit Img
abbrev aH:=List UInt8
inductive EL where
 |mk (k n:Int) (s:aH) (o:Option Addr) (c:Nat) (kids:List EL)
namespace EL
def k:EL→Int|mk k _ _ _ _ _=>k
def n:EL→Int|mk _ n _ _ _ _=>n
def s:EL→aH|mk _ _ s _ _ _=>s
def o:EL→Option Addr|mk _ _ _ o _ _=>o
def c:EL→Nat|mk _ _ _ _ c _=>c
def kids:EL→List EL|mk _ _ _ _ _ l=>l
end EL
instance:Inhabited EL:=⟨.mk 0 0 [] none 0 []⟩
def eK(x:EL):List Value:=[.int .i64 x.k, .int .i64 x.n,sv x.s, .slice x.o x.kids.length x.c]
instance:bH eK:=⟨fun _=>rfl,aK,fun a u hu=>by simp[eK]at hu;rcases hu with rfl|rfl|rfl|rfl<;>rfl⟩
mutual
def EL.ex:EL→Fr.Ex
 | .mk k n s _ _ l=> .mk k n s (EL.bW l)
def EL.bW:List EL→List Fr.Ex
 |[]=>[]
 |x::l=>x.ex::EL.bW l
end
mutual
def EL.mem:EL→List Chunk
 | .mk k n s o c l=>arr o l.length c 257 eK l::EL.dM l
def EL.dM:List EL→List Chunk
 |[]=>[]
 |x::l=>x.mem ++EL.dM l
end
theorem tP(l:List EL):EL.bW l=l.map EL.ex:=by induction l with|nil=>rfl|cons x l ih=>rw[EL.bW,ih];rfl
theorem LN(l:List EL):EL.dM l=l.flatMap EL.mem:=by induction l with|nil=>rfl|cons x l ih=>rw[EL.dM,ih];rfl
mutual
theorem EL.uA:∀(x:EL),∀c∈x.mem,c.bE=true
 | .mk k n s o c l,d,hd=>by
  rw[EL.mem]at hd;rcases cY.1 hd with rfl|hd
  ·exact dU
  ·exact EL.x7 l d hd
theorem EL.x7:∀(l:List EL),∀c∈EL.dM l,c.bE=true
 |[],d,hd=>by simp[EL.dM]at hd
 |x::l,d,hd=>by
  rw[EL.dM]at hd;rcases dF.1 hd with hd|hd
  ·exact x.uA d hd
  ·exact EL.x7 l d hd
end
theorem LO(l:List EL)(x:EL):EL.dM (l ++[x])=EL.dM l ++x.mem:=by rw[LN,LN,r8];simp
theorem Mem.zJ{w:World}{cs ds L L' L2:List Chunk}(h:Mem w L)(t:Take (bC cs) L L')(t2:Take (bC ds) L' L2):Mem w (bC (cs ++ds)::L2):=by
 have hx:∀c∈cs ++ds,c.bE=true:=by
  intro c hc;rcases dF.1 hc with hc|hc
  ·exact(qJ.1 (h.has t)).2 c hc
  ·exact(qJ.1 ((h.take t).has (.tail t2))).2 c hc
 have h1:=((h.take t).aP (.cons (.tail t2) (.cons .head .nil))).unpack;have h2:Mem w (bC cs::(ds ++L2)):=h1.perm xB;exact Mem.pack (by rw[Jt];exact h2.unpack) hx
theorem Mem.AI{w:World}{o:Option Addr}{c:Nat}{l:List EL}{L L' L2:List Chunk}(k n:Int)(u:aH)(h:Mem w L)(t:Take (arr o l.length c 257 eK l) L L')(t2:Take (bC (EL.dM l)) L' L2):Mem w (bC (EL.mk k n u o c l).mem::L2):=by
 have h1:Mem w (arr o l.length c 257 eK l::bC (EL.dM l)::L2):=h.aP (.cons t (.cons t2 .nil));have h2:Mem w (bC (EL.dM l)::arr o l.length c 257 eK l::L2):=h1.perm (List.Perm.swap _ _ _);have h3:Mem w (arr o l.length c 257 eK l::(EL.dM l ++L2)):=h2.unpack.perm xB;exact Mem.pack (cs:=(EL.mk k n u o c l).mem) h3 (EL.uA _)
theorem Mem.zZ{w:World}{L:List Chunk}(k n:Int)(u:aH)(h:Mem w L):Mem w (bC (EL.mk k n u none 0 []).mem::L):=Mem.AI k n u (h.gH.cU 257 eK) .head .head
theorem Mem.aC8{w:World}{b:Nat}{cs:List Value}{g:EL}{L L' L2:List Chunk}(k n:Int)(u:aH)(h:Mem w L)(t:Take (aF b cs 257) L L')(t2:Take (bC g.mem) L' L2)(hc:cs=eK g):Mem w (bC (EL.mk k n u (some ⟨b,0,none⟩) 1 [g]).mem::L2):=by
 have h1:Mem w (arr (some ⟨b,0,none⟩) 1 1 257 eK [g]::L'):=h.jB (f:=eK) t [g] (n:=1) (by rw[hc];simp) rfl (by unfold maxLen;omega);exact Mem.AI k n u h1 .head (by rw[show EL.dM [g]=g.mem from eS _];exact t2)
theorem Mem.aC9{w:World}{b:Nat}{cs:List Value}{g x:EL}{L L' L2 L3:List Chunk}(k n:Int)(u:aH)(h:Mem w L)(t:Take (aF b cs 257) L L')(t2:Take (bC g.mem) L' L2)(t3:Take (bC x.mem) L2 L3)(hc:cs=eK g ++eK x):Mem w (bC (EL.mk k n u (some ⟨b,0,none⟩) 2 [g,x]).mem::L3):=by
 have h1:Mem w (arr (some ⟨b,0,none⟩) 2 2 257 eK [g,x]::L'):=h.jB (f:=eK) t [g,x] (n:=2) (by rw[hc];simp) rfl (by unfold maxLen;omega);have h2:=Mem.zJ (h1.take (show Take (bC g.mem) _ _ from .tail t2)) .head (.tail t3);exact Mem.AI k n u h2 (.tail .head) (by rw[show EL.dM [g,x]=g.mem ++x.mem by rw[EL.dM,EL.dM,EL.dM,eS]];exact .head)
inductive aM where
 |mk (k:Int) (s:aH) (x:EL) (bo:Option Addr) (bc:Nat) (body:List aM) (eo:Option Addr) (ec:Nat) (fJ:List aM)
namespace aM
def k:aM→Int|mk k _ _ _ _ _ _ _ _=>k
def s:aM→aH|mk _ s _ _ _ _ _ _ _=>s
def x:aM→EL|mk _ _ x _ _ _ _ _ _=>x
def bo:aM→Option Addr|mk _ _ _ o _ _ _ _ _=>o
def bc:aM→Nat|mk _ _ _ _ c _ _ _ _=>c
def body:aM→List aM|mk _ _ _ _ _ b _ _ _=>b
def eo:aM→Option Addr|mk _ _ _ _ _ _ o _ _=>o
def ec:aM→Nat|mk _ _ _ _ _ _ _ c _=>c
def fJ:aM→List aM|mk _ _ _ _ _ _ _ _ e=>e
end aM
instance:Inhabited aM:=⟨.mk 0 [] default none 0 [] none 0 []⟩
def fS(x:aM):List Value:=[.int .i64 x.k,sv x.s, .int .i64 x.x.k, .int .i64 x.x.n,sv x.x.s, .slice x.x.o x.x.kids.length x.x.c, .slice x.bo x.body.length x.bc, .slice x.eo x.fJ.length x.ec]
instance:bH fS:=⟨fun _=>rfl,aK,fun a u hu=>by simp[fS]at hu;rcases hu with rfl|rfl|rfl|rfl|rfl|rfl|rfl|rfl<;>rfl⟩
mutual
def aM.st:aM→Fr.St
 | .mk k s x _ _ b _ _ e=> .mk k s x.ex (aM.bV b) (aM.bV e)
def aM.bV:List aM→List Fr.St
 |[]=>[]
 |x::l=>x.st::aM.bV l
end
mutual
def aM.mem:aM→List Chunk
 | .mk k s x bo bc b eo ec e=>x.mem ++(arr bo b.length bc 259 fS b::(aM.dM b ++(arr eo e.length ec 259 fS e::aM.dM e)))
def aM.dM:List aM→List Chunk
 |[]=>[]
 |x::l=>x.mem ++aM.dM l
end
theorem yK(l:List aM):aM.bV l=l.map aM.st:=by induction l with|nil=>rfl|cons x l ih=>rw[aM.bV,ih];rfl
theorem NN(l:List aM):aM.dM l=l.flatMap aM.mem:=by induction l with|nil=>rfl|cons x l ih=>rw[aM.dM,ih];rfl
mutual
theorem aM.uA:∀(x:aM),∀c∈x.mem,c.bE=true
 | .mk k s x bo bc b eo ec e,d,hd=>by
  rw[aM.mem]at hd;rcases dF.1 hd with hd|hd
  ·exact x.uA d hd
  ·rcases cY.1 hd with rfl|hd
   ·exact dU
   ·rcases dF.1 hd with hd|hd
    ·exact aM.x7 b d hd
    ·rcases cY.1 hd with rfl|hd
     ·exact dU
     ·exact aM.x7 e d hd
theorem aM.x7:∀(l:List aM),∀c∈aM.dM l,c.bE=true
 |[],d,hd=>by simp[aM.dM]at hd
 |x::l,d,hd=>by
  rw[aM.dM]at hd;rcases dF.1 hd with hd|hd
  ·exact x.uA d hd
  ·exact aM.x7 l d hd
end
theorem aHH(l:List aM)(x:aM):aM.dM (l ++[x])=aM.dM l ++x.mem:=by rw[NN,NN,r8];simp
theorem Mem.BD{w:World}{pre cs F:List Chunk}(h:Mem w (pre ++bC cs::F)):Mem w (pre ++(cs ++F)):=by
 have h1:Mem w (cs ++(pre ++F)):=(h.perm xB).unpack;refine h1.perm ?_;rw[←Jt,←Jt];exact List.Perm.append_right _ pB
theorem Mem.GC{w:World}{x:EL}{bo eo:Option Addr}{bc ec:Nat}{b e:List aM}{L L1 L2 L3 L4 L5:List Chunk}(k:Int)(u:aH)(h:Mem w L)(t1:Take (bC x.mem) L L1)(t2:Take (arr bo b.length bc 259 fS b) L1 L2)(t3:Take (bC (aM.dM b)) L2 L3)(t4:Take (arr eo e.length ec 259 fS e) L3 L4)(t5:Take (bC (aM.dM e)) L4 L5):
  Mem w (bC (aM.mk k u x bo bc b eo ec e).mem::L5):=by
 have h0:Mem w ([bC x.mem,arr bo b.length bc 259 fS b,bC (aM.dM b),arr eo e.length ec 259 fS e,bC (aM.dM e)] ++L5):=h.aP (.cons t1 (.cons t2 (.cons t3 (.cons t4 (.cons t5 .nil)))));have h1:Mem w ([bC x.mem,arr bo b.length bc 259 fS b,bC (aM.dM b),arr eo e.length ec 259 fS e] ++bC (aM.dM e)::L5):=h0;have h2:Mem w ([bC x.mem,arr bo b.length bc 259 fS b] ++bC (aM.dM b)::(arr eo e.length ec 259 fS e::(aM.dM e ++L5))):=Mem.BD h1;have h3:Mem w ([] ++bC x.mem::(arr bo b.length bc 259 fS b::(aM.dM b ++(arr eo e.length ec 259 fS e::(aM.dM e ++L5))))):=Mem.BD h2;have h4:=Mem.BD h3;refine Mem.pack (cs:=(aM.mk k u x bo bc b eo ec e).mem) ?_ (aM.uA _);rw[aM.mem];simpa using h4
theorem Mem.aCh{w:World}{x:EL}{L L1:List Chunk}(k:Int)(u:aH)(h:Mem w L)(t1:Take (bC x.mem) L L1):Mem w (bC (aM.mk k u x none 0 [] none 0 []).mem::L1):=by
 have h1:Mem w (bC x.mem::L1):=h.take t1;exact Mem.GC k u ((h1.gH.cU 259 fS).gH.cU 259 fS) (.tail (.tail (.tail (.tail .head)))) .head .head .head .head
def oW(p:Fr.Pm):List Value:=[sv p.name, .int .i64 p.type.kind,sv p.type.gen]
instance:bH oW:=⟨fun _=>rfl,aK,fun a u hu=>by simp[oW]at hu;rcases hu with rfl|rfl|rfl<;>rfl⟩
structure DL where
 kind:Int
 name:aH
 type:Fr.Ty
 aP:Fr.Ty
 cap:Int
 po:Option Addr
 pc:Nat
 params:List Fr.Pm
 bo:Option Addr
 bc:Nat
 body:List aM
instance:Inhabited DL:=⟨⟨0,[],default,default,0,none,0,[],none,0,[]⟩⟩
def mV(d:DL):List Value:=[.int .i64 d.kind,sv d.name, .int .i64 d.type.kind,sv d.type.gen, .int .i64 d.aP.kind,sv d.aP.gen, .int .i64 d.cap, .slice d.po d.params.length d.pc, .slice d.bo d.body.length d.bc]
instance:bH mV:=⟨fun _=>rfl,aK,fun a u hu=>by simp[mV]at hu;rcases hu with rfl|rfl|rfl|rfl|rfl|rfl|rfl|rfl|rfl<;>rfl⟩
def DL.df(d:DL):Fr.Df:=⟨d.kind,d.name,d.type,d.aP,d.cap,d.params,aM.bV d.body⟩
def DL.mem(d:DL):List Chunk:=arr d.po d.params.length d.pc 227 oW d.params::(arr d.bo d.body.length d.bc 259 fS d.body::aM.dM d.body)
theorem DL.uA(d:DL):∀c∈d.mem,c.bE=true:=fun c hc=>by
 unfold DL.mem at hc;rcases cY.1 hc with rfl|hc
 ·exact dU
 ·rcases cY.1 hc with rfl|hc
  ·exact dU
  ·exact aM.x7 _ c hc
theorem Mem.GB{w:World}(d:DL){L L1 L2 L3:List Chunk}(h:Mem w L)(t1:Take (arr d.po d.params.length d.pc 227 oW d.params) L L1)(t2:Take (arr d.bo d.body.length d.bc 259 fS d.body) L1 L2)(t3:Take (bC (aM.dM d.body)) L2 L3):Mem w (bC d.mem::L3):=by
 have h0:Mem w ([arr d.po d.params.length d.pc 227 oW d.params,arr d.bo d.body.length d.bc 259 fS d.body,bC (aM.dM d.body)] ++L3):=h.aP (.cons t1 (.cons t2 (.cons t3 .nil)));have h1:Mem w ([arr d.po d.params.length d.pc 227 oW d.params,arr d.bo d.body.length d.bc 259 fS d.body] ++bC (aM.dM d.body)::L3):=h0;exact Mem.pack (cs:=d.mem) (by simpa[DL.mem]using Mem.BD h1) d.uA
section
attribute [local irreducible] aE aG End aB Still aN aU RunT Fn aS
structure PS where
 o:Option Addr
 c:Nat
 l:List Fr.Tok
 deep:Int
abbrev dN(pb:Nat)(en:Int)(s:PS):List Chunk:=[aF pb [.slice s.o s.l.length s.c, .int .i64 en, .int .i64 s.deep] 138,arr s.o s.l.length s.c 202 rW s.l]
abbrev mP:={e:Int×Int //e.1≠0}
abbrev qM(a:Int):mP:=⟨(2,a),show(2:Int)≠0 by decide⟩
abbrev EV(a:Int):mP:=⟨(3,a),show(3:Int)≠0 by decide⟩
abbrev RF(a:Int):mP:=⟨(4,a),show(4:Int)≠0 by decide⟩
abbrev vI(a:Int):mP:=⟨(5,a),show(5:Int)≠0 by decide⟩
abbrev RG(a:Int):mP:=⟨(7,a),show(7:Int)≠0 by decide⟩
abbrev rR(y:mP):Value:= .iface 135 (.agg #[.int .i64 y.1.1, .int .i64 y.1.2])
abbrev Pf{α G:Type}(pb:Nat)(en:Int)(f:FuncId)(args:List Value)(R:List Chunk)(s:PS)(ρ:Option (α×List Fr.Tok))(er:G→α)(val:G→Value)(mem:G→List Chunk):Prop:=
 qB (σ:=G×PS) (fun x=>ρ=some (er x.1,x.2.l)∧x.2.deep=s.deep∧x.2.l.length≤s.l.length) (fun x=>val x.1) (fun x=>mem x.1 ++dN pb en x.2) (τ:=mP×PS) (fun y=>ρ=none) (fun y=>rR y.1) (fun y=>dN pb en y.2) Tryz.prog f args.toArray R (dN pb en s)
theorem FN{w:aH}{l:List Fr.Tok}(h:0<l.length):Fr.is w l=if(l.getD 0 default).text=w then some (l.drop 1)else none:=by
 cases l with
 |nil=>simp at h
 |cons t r=>rfl
theorem FM{w:aH}{l:List Fr.Tok}(h:¬0<l.length):Fr.is w l=none:=by
 cases l with
 |nil=>rfl
 |cons t r=>simp at h
variable{pb:Nat}{en:Int}
theorem pU(s:PS):Fn Tryz.prog 51 #[ptr pb] [] (dN pb en s) (σ:=Int) (fun _=>True) (fun a=> .int .i64 a) (fun _=>dN pb en s):=by
 refine JE [ptr pb] Tryz.func51 Tryz.ntmps51 fun w S=>?_;refine Jn ?_
 by_cases h:0<s.l.length
 ·refine a8 ?_;exact End.aX _ (he:=rfl) (hp:=trivial)
 ·refine a8 ?_;exact End.aX _ (he:=rfl) (hp:=trivial)
theorem U6(s:PS)(u:aH):Fn Tryz.prog 129 #[ptr pb,sv u] [] (dN pb en s) (σ:=Unit) (fun _=>True) (fun a=> .bool (Fr.is u s.l).isSome) (fun _=>dN pb en s):=by
 refine JE [ptr pb,sv u] Tryz.func129 Tryz.ntmps129 fun w S=>?_;refine Jn ?_
 by_cases h:0<s.l.length
 ·refine a8 ?_;refine End.aX () (he:=by rw[FN h];by_cases h2:(s.l.getD 0 default).text=u<;>simp only[h2,decide_true,decide_false,if_true,if_false]<;>rfl) (hp:=trivial)
 ·refine a8 ?_;exact End.aX () (he:=by rw[FM h];rfl) (hp:=trivial)
theorem iH(s:PS)(u:aH):Fn Tryz.prog 89 #[ptr pb,sv u] [] (dN pb en s) (σ:=Bool×PS) (fun x=>(x.1=true∧Fr.is u s.l=some x.2.l∧x.2.deep=s.deep∧x.2.l.length<s.l.length)∨(x.1=false∧Fr.is u s.l=none∧x.2=s)) (fun x=> .bool x.1) (fun x=>dN pb en x.2):=by
 refine JE [ptr pb,sv u] Tryz.func89 Tryz.ntmps89 fun w S=>?_;refine a8 ?_;refine bU (U6 s u) fun z hz=>?_
 cases hi:Fr.is u s.l with
 |none=>
  refine a8 ?_;exact End.aX (false,s) (he:=rfl) (hp:= .inr ⟨rfl,rfl,rfl⟩)
 |some r=>
  have h:0<s.l.length:=by
   by_cases h:0<s.l.length
   ·exact h
   ·rw[FM h]at hi;cases hi
  have hr:r=s.l.drop 1:=by
   rw[FN h]at hi
   split at hi<;>cases hi
   rfl
  repeat(refine Fy ?_;try intro ao cap)
  rw[show s.l.length-(0+1)=(s.l.drop (0+1)).length by rw[fM]];exact End.aX (true,⟨ao,cap,s.l.drop 1,s.deep⟩) (he:=rfl) (hp:= .inl ⟨rfl,by rw[hr],rfl,by show(s.l.drop 1).length<_;rw[fM];omega⟩)
section
variable{Q:Exit→Act→World→Prop}{N:Nd}{E:Env}{L F:List Chunk}{dst:Option Tmp}{ty:TypeId}{pos:String}{aft:Array Edge}{gd:Option (Nat×Bool)}{C:Env→List Chunk→Prop}
theorem aB.pf{α G:Type}{f:FuncId}{vs:List Value}{R:List Chunk}{s:PS}{ρ:Option (α×List Fr.Tok)}{er:G→α}{val:G→Value}{mem:G→List Chunk}{x:Operand}{args:List Operand}{eI:Array TypeId}(spec:Pf pb en f vs R s ρ er val mem)
  (hp:ρ=none→∀e y,End Q N (.panic (n8 (rR e))) E (dN pb en y ++F)) (k:∀g y,ρ=some (er g,y.l)→y.deep=s.deep→y.l.length≤s.l.length→C (cP dst (val g) E) (mem g ++(dN pb en y ++F)))
  (hx:ev E x=some (.func (.func f) #[] #[]):=by exact rfl) (hv:gD E args vs:=by exact n4) (hc:fW Tryz.prog f=true:=by kernel_rfl) (hd:cR N dst=true:=by exact rfl) (t:aR (dN pb en s) L F:=by exact cA) (r:∀w,Reads w R F:=by intro w;exact qV):
  aB Tryz.prog Q N ⟨dst, .call ⟨.value x,args.toArray,eI⟩,ty,pos,aft,gd⟩ E L C:=
 aB.II spec (fun y hy=>hp hy y.1 y.2) (fun z hz=>by rw[Jt];exact k z.1 z.2 hz.1 hz.2.1 hz.2.2) hx hv hc hd t r
theorem PK{A B G T:Prop}(spec:T)(hp:B)(k:G)(h:T→Bx B→Bx G→A:=by intro sp hb hk;refine Jc ?_;exact aB.pf sp hb.out hk.out):A:=h spec ⟨hp⟩ ⟨k⟩
theorem aB.pis{s:PS}{u:aH}{args:List Operand}{eI:Array TypeId}(sp:Fn Tryz.prog 89 #[ptr pb,sv u] [] (dN pb en s) (σ:=Bool×PS) (fun x=>(x.1=true∧Fr.is u s.l=some x.2.l∧x.2.deep=s.deep∧x.2.l.length<s.l.length)∨(x.1=false∧Fr.is u s.l=none∧x.2=s)) (fun x=> .bool x.1) (fun x=>dN pb en x.2))
  (k1:∀y,Fr.is u s.l=some y.l→y.deep=s.deep→y.l.length<s.l.length→C (cP dst (.bool true) E) (dN pb en y ++F)) (k0:Fr.is u s.l=none→C (cP dst (.bool false) E) (dN pb en s ++F))
  (hv:gD E args [ptr pb,sv u]:=by exact n4) (hd:cR N dst=true:=by exact rfl) (t:aR (dN pb en s) L F:=by exact cA):
  aB Tryz.prog Q N ⟨dst, .call ⟨.value (.func 89),args.toArray,eI⟩,ty,pos,aft,gd⟩ E L C:=
 aB.bA (spec:=sp) (hv:=hv) (hd:=hd) (t:=t) (r:=fun w=> .nil) (k:=fun z hz=>by
  obtain⟨b,y⟩:=z;rcases hz with⟨hb,h1,h2,h3⟩|⟨hb,h1,h2⟩<;>dsimp only at hb h1 h2<;>subst hb
  ·exact k1 y h1 h2 h3
  ·subst h2;exact k0 h1)
theorem PI{A B G T:Prop}(sp:T)(k1:B)(k0:G)(h:T→Bx B→Bx G→A:=by intro sp h1 h0;apply aE.op;exact rfl;exact aB.pis sp h1.out h0.out):A:=h sp ⟨k1⟩ ⟨k0⟩
end
theorem oU(s:PS)(y:mP):qB (σ:=Empty) (fun _=>True) (fun x=> .tuple #[]) (fun _=>[]) (τ:=Unit) (fun _=>True) (fun _=>rR y) (fun _=>dN pb en s) Tryz.prog 50 #[ptr pb, .int .i64 y.1.1, .int .i64 y.1.2] [] (dN pb en s):=by
 refine PE [ptr pb, .int .i64 y.1.1, .int .i64 y.1.2] Tryz.func50 Tryz.ntmps50 fun w S=>?_;refine a8 ?_;apply aE.op aV;refine aB.panic rfl ?_;refine PO ?_;refine PX () ?_;exact trivial
theorem aEQ(s:PS)(o:Option Addr)(c:Nat)(l:List aH)(hl:l.length≤10):Pf pb en 93 [ptr pb, .slice o l.length c] [rd o l.length c gL l] s ((Fr.qR l s.l).map fun r=>((),r)) (G:=Unit) id (fun _=> .tuple #[]) (fun _=>[]):=by
 refine PE [ptr pb, .slice o l.length c] Tryz.func93 Tryz.ntmps93 fun w S=>?_;refine a8 ?_;refine cK (σ:=Nat×PS) (fun z=>z.1≤l.length∧z.2.deep=s.deep∧z.2.l.length≤s.l.length∧Fr.qR l s.l=Fr.qR (l.drop z.1) z.2.l) (fun z=>[(0,ptr pb),(6, .slice o l.length c),(7, .int .i64 l.length),(8, .int .i64 z.1)]) (fun z:Nat×PS=>aO w S::rd o l.length c gL l::dN pb en z.2) (fun z=>l.length-z.1) (0,s) ?_ fun z hz K hK=>?_
 ·exact⟨bQ _,rfl,bS _,rfl⟩
 refine Jn ?_;obtain⟨k,x⟩:=z;obtain⟨hk,hd,hle,hn⟩:=hz;dsimp only at hk hd hle hn⊢
 by_cases h:k<l.length
 ·refine a8 ?_;refine bU (iH x (l.getD k default)) fun z hz=>?_;obtain⟨b,y⟩:=z;rw[drop_cons h,Fr.qR]at hn;rcases hz with⟨hb,hi,hd2,hl2⟩|⟨hb,hi,hy⟩
  ·dsimp only at hb hi hd2 hl2⊢;subst hb;rw[hi]at hn;refine a8 ?_;refine End.bK hK (k+1,y) ⟨h,by rw[←hd];exact hd2,by show y.l.length≤_;omega,hn⟩ (by show l.length-(k+1)<l.length-k;omega)
  ·dsimp only at hb hi hy⊢;subst hb hy;rw[hi]at hn;refine a8 ?_;refine oO (pU y) fun a ha=>?_;refine PQ (oU y (qM a)) ?_ ?_;(intro q hq;refine PO ?_;refine PX ((qM a,y)) ?_;(rw[hn];rfl));intro z _;exact z.elim
 ·obtain rfl:k=l.length:=aA;refine a8 ?_;exact P0 ((),x) ⟨by rw[hn,List.drop_length];rfl,hd,hle⟩
end
end Vw
end Go.Proofs.YtofckcabpchcmaaGreatDoor
