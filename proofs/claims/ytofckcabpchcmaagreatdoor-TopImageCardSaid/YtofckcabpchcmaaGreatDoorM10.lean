/- verify's flow, walked: what has to do with other units, and boxes. -/
import Derived.Test.YtofckcabpchcmaaGreatDoorM09
set_option linter.unusedVariables false
set_option linter.unusedSimpArgs false
set_option linter.unusedSectionVars false
set_option maxRecDepth 100000
namespace Go.Proofs.YtofckcabpchcmaaGreatDoor
namespace Vw
open Go.RowKit Img
attribute [local irreducible] aE aG End aB Still aN aU RunT Fn aS
theorem jR{r:FR}{s:FS}{g:Ver.aZ}(h:aQ r s=g){N:Nat}(hg:g.stack.length≤N):s.st.length≤N:=by
 have:s.st=g.stack:=congrArg Ver.aZ.stack h;rw[this];exact hg
theorem aBm(e:Int)(f:Ver.aZ):(Ver.fail e f).stack.length=f.stack.length:=by unfold Ver.fail;split<;>rfl
theorem PT(M:ImgM.aL)(k:Int)(f:Ver.aZ):(Ver.args M k f).stack.length≤f.stack.length:=lY _ _
theorem K9{M:ImgM.aL}{i kind:Int}(h:Ver.isUnit M i kind=true):∃k:Nat,i=(k:Int)∧k<M.aJ.length∧(M.aJ.getD k default).kind=kind:=by
 simp only[Ver.isUnit,JX,JV]at h;obtain⟨⟨h1,h2⟩,h3⟩:=h;exact⟨i.toNat,aA,aA,h3⟩
theorem SJ(M:ImgM.aL)(f:Ver.aZ){N:Nat}(h:f.stack.length≤N):(Ver.gen M f).2.stack.length≤N:=by
 have:=DD f;unfold Ver.gen
 split
 ·simp only;omega
 split
 ·simp only[aBm];omega
 ·simp only;omega
theorem aEf(f:Ver.aZ):∀t∈(Ver.pop f).2.stack,t∈f.stack:=by
 unfold Ver.pop
 split
 ·unfold Ver.fail;split<;>exact fun t h=>h
 ·exact fun t h=>List.mem_of_mem_take h
theorem KQ(M:ImgM.aL)(f:Ver.aZ):∀k,(Ver.gen M f).1=some k→∃j:Nat,k=(j:Int)∧j<M.aJ.length:=by
 unfold Ver.gen
 split
 ·intro k h;cases h
 split
 ·intro k h;cases h
 ·intro k h
  rename_i h2
  simp only[tE]at h;subst h;have h3:Ver.handle M (Ver.pop f).1=true:=by simpa using h2
  simp only[Ver.handle,JX]at h3;obtain⟨j,h4,h5, -⟩:=K9 h3.2;exact⟨j,h4,h5⟩
theorem aE.look{P:Program}{ops:Array Oper}{Q:Exit→Act→World→Prop}{N:Nd}{d:Nat}{l:List Oper}{E:Env}{L:List Chunk}{v v':Value}(h:Proofs.YtofckcabpchcmaaGreatDoor.look E d=some v)(e:v=v')(k:aE P ops Q N l ((d,v')::E) L):aE P ops Q N l E L:=by
 subst e;unfold aE at k⊢;exact fun a w hs hm=>k a w (hs.pZ h) hm
section
variable(fb cb ab mb:Nat)(m:ML)(r:FR)(z:FS)(q:Nat)(hq:q<m.us.length)(hl:z.st.length≤300)(hst:∀t∈z.st,ImgM.In64 t)
abbrev j9(i:ImgM.aT):Prop:=Fn Tryz.prog 121 #[ptr fb,lP i] [md m] (fm fb cb ab (up m q) r z ++ck cb mb m) (fun z'=>aQ r z'=(Ver.eP m.aC (m.us.getD q default).u i (aQ r z)).2) (fun _=> .bool (Ver.eP m.aC (m.us.getD q default).u i (aQ r z)).1) (fun z'=>fm fb cb ab (up m q) r z' ++ck cb mb m)
include hl hst hq
theorem aGY(k:Nat)(n:Int)(hk:k<m.us.length)(hh:Ver.head m.aC (m.us.getD k default).u=0):j9 fb cb ab mb m r z q ⟨23,k,n⟩:=by
 have e:Ver.eP m.aC (m.us.getD q default).u ⟨23,k,n⟩ (aQ r z)=(true,Ver.push (m.us.getD k default).u.result (Ver.args m.aC k (aQ r z))):=by
  unfold Ver.eP;rw[if_pos rfl,Jj,ML.jK]
 unfold j9;rw[e];refine JE [ptr fb, .agg #[.int .i64 23, .int .i64 k, .int .i64 n]] Tryz.func121 Tryz.ntmps121 fun w S=>?_;refine Jn ?_;refine Jn ?_
 repeat(refine Jy ?_;try intro b)
 (refine oP (PM fb cb ab mb (up m q) m r z aA k hk hh) fun s hs=>?_);obtain⟨y,rfl⟩:∃y,y=s:=⟨_,rfl⟩;have hy:=hs;have hyl:=jR hs (dP (PT _ _ _) (show(aQ r z).stack.length≤300 from hl));refine aD ?_;(refine eM (jU fb cb ab (up m q) r y (m.us.getD k default).u.result aA) fun s hs=>?_);refine cL s ?_;simp only;rw[hs,hy]
theorem aG4(k:Nat)(n:Int)(hk:k<m.us.length)(hu30:m.us.length≤30)(hh:Ver.head m.aC (m.us.getD k default).u=0):j9 fb cb ab mb m r z q ⟨29,k,n⟩:=by
 have e:Ver.eP m.aC (m.us.getD q default).u ⟨29,k,n⟩ (aQ r z)=(true,Ver.push (10+(k:Int)) (Ver.args m.aC k (aQ r z))):=by
  unfold Ver.eP;dsimp only;(repeat rw[if_neg aK]);rw[if_pos rfl]
 unfold j9;rw[e];refine JE [ptr fb, .agg #[.int .i64 29, .int .i64 k, .int .i64 n]] Tryz.func121 Tryz.ntmps121 fun w S=>?_;refine Jn ?_;refine Jn ?_;apply aG.fact m.Small (fun w hm=>(nI.1 (hm.has tk)).small);intro hsm;have hsu:(k:Int)≤1000000:=aA
 repeat(refine Jy ?_;try intro b)
 (refine oP (PM fb cb ab mb (up m q) m r z aA k hk hh) fun s hs=>?_);obtain⟨y,rfl⟩:∃y,y=s:=⟨_,rfl⟩;have hy:=hs;have hyl:=jR hs (dP (PT _ _ _) (show(aQ r z).stack.length≤300 from hl));refine aD ?_;(refine eM (jU fb cb ab (up m q) r y (10+(k:Int)) aA) fun s hs=>?_);refine cL s ?_;simp only;rw[hs,hy]
theorem aGZ(a n:Int):j9 fb cb ab mb m r z q ⟨24,a,n⟩:=by
 have e:Ver.eP m.aC (m.us.getD q default).u ⟨24,a,n⟩ (aQ r z)=(false,Ver.done (Ver.want [(m.us.getD q default).u.result] (if(m.us.getD q default).u.kind≠2 then Ver.fail 8 (aQ r z)else aQ r z))):=by
  unfold Ver.eP;dsimp only;(repeat rw[if_neg aK]);rw[if_pos rfl]
 unfold j9;rw[e]
 by_cases hkd:(m.us.getD q default).u.kind=2
 ·rw[if_neg (fun h=>h hkd)];refine JE [ptr fb, .agg #[.int .i64 24, .int .i64 a, .int .i64 n]] Tryz.func121 Tryz.ntmps121 fun w S=>?_;refine Jn ?_;refine Jn ?_
  repeat(refine Jy ?_;try intro b)
  (refine Jc ?_;refine aB.bA (spec:=lJ fb cb ab (up m q) r z _ 1 _ [(m.us.getD q default).u.result] rfl aA aA) (t:=Jx) (k:=?_);intro s hs;refine Jn ?_);obtain⟨y,rfl⟩:∃y,y=s:=⟨_,rfl⟩;have hy:=hs;have hyl:=jR hs (dP (lY _ _) (show(aQ r z).stack.length≤300 from hl));refine aD ?_;(refine eM (EU fb cb ab (up m q) r y aA) fun s hs=>?_);refine cL s ?_;simp only;rw[hs,hy]
 ·rw[if_pos hkd];refine JE [ptr fb, .agg #[.int .i64 24, .int .i64 a, .int .i64 n]] Tryz.func121 Tryz.ntmps121 fun w S=>?_;refine Jn ?_;refine Jn ?_
  repeat(refine Jy ?_;try intro b)
  (refine oP (n5 fb cb ab (up m q) r z 8) fun s hs=>?_)
  repeat(refine Jy ?_;try intro b)
  (refine Jc ?_;refine aB.bA (spec:=lJ fb cb ab (up m q) r (mW 8 z) _ 1 _ [(m.us.getD q default).u.result] rfl aA (by show z.st.length≤1000;omega)) (t:=Jx) (k:=?_);intro s hs;refine Jn ?_);obtain⟨y,rfl⟩:∃y,y=s:=⟨_,rfl⟩;have hy:=hs;have hyl:=jR hs (dP (lY _ _) (show(aQ r z).stack.length≤300 from hl));rw[n6]at hy;refine aD ?_;(refine eM (EU fb cb ab (up m q) r y aA) fun s hs=>?_);refine cL s ?_;simp only;rw[hs,hy]
theorem aG0(a n:Int):j9 fb cb ab mb m r z q ⟨25,a,n⟩:=by
 have e:Ver.eP m.aC (m.us.getD q default).u ⟨25,a,n⟩ (aQ r z)=(false,Ver.done (if(m.us.getD q default).u.kind=2 then Ver.fail 8 (aQ r z)else aQ r z)):=by
  unfold Ver.eP;dsimp only;(repeat rw[if_neg aK]);rw[if_pos rfl]
 unfold j9;rw[e]
 by_cases hkd:(m.us.getD q default).u.kind=2
 ·rw[if_pos hkd];refine JE [ptr fb, .agg #[.int .i64 25, .int .i64 a, .int .i64 n]] Tryz.func121 Tryz.ntmps121 fun w S=>?_;refine Jn ?_;refine Jn ?_
  repeat(refine Jy ?_;try intro b)
  (refine eM (n5 fb cb ab (up m q) r z 8) fun s hs=>?_);(refine eM (EU fb cb ab (up m q) r (mW 8 z) (by show z.st.length≤1000;omega)) fun s hs=>?_);refine cL s ?_;simp only;rw[hs,n6]
 ·rw[if_neg hkd];refine JE [ptr fb, .agg #[.int .i64 25, .int .i64 a, .int .i64 n]] Tryz.func121 Tryz.ntmps121 fun w S=>?_;refine Jn ?_;refine Jn ?_
  repeat(refine Jy ?_;try intro b)
  (refine eM (EU fb cb ab (up m q) r z aA) fun s hs=>?_);refine cL s ?_;exact hs
theorem aG3(a n:Int):j9 fb cb ab mb m r z q ⟨28,a,n⟩:=by
 have e:Ver.eP m.aC (m.us.getD q default).u ⟨28,a,n⟩ (aQ r z)=(true,if(Ver.pop (aQ r z)).2.err=0∧Ver.plain (Ver.pop (aQ r z)).1=false then Ver.fail 9 (Ver.pop (aQ r z)).2 else(Ver.pop (aQ r z)).2):=by
  unfold Ver.eP;dsimp only;(repeat rw[if_neg aK]);rw[if_pos rfl]
 unfold j9;rw[e];refine JE [ptr fb, .agg #[.int .i64 28, .int .i64 a, .int .i64 n]] Tryz.func121 Tryz.ntmps121 fun w S=>?_;refine Jn ?_;refine Jn ?_
 repeat(refine Jy ?_;try intro b)
 (refine oP (yB fb cb ab (up m q) r z aA) fun s hs=>?_);obtain⟨y,rfl⟩:∃y,y=s:=⟨_,rfl⟩;rw[←hs];generalize(Ver.pop (aQ r z)).1=t at *;clear hs e
 by_cases he:y.err=0
 ·cases hp:Ver.plain t with
  |true=>
   rw[if_neg (fun h=>by cases h.2)]
   repeat(first|(refine Jc ?_;refine aB.bA (spec:=DB _) (k:=?_);intro s hs;refine Jn ?_)|refine Jo ?_|(refine JB ?_;intro b)|(refine JA ?_;intro ao cap))
   refine cL y ?_;rfl
  |false=>
   rw[if_pos ⟨he,rfl⟩]
   repeat(first|(refine Jc ?_;refine aB.bA (spec:=DB _) (k:=?_);intro s hs;refine Jn ?_)|refine Jo ?_|(refine JB ?_;intro b)|(refine JA ?_;intro ao cap))
   (refine eM (n5 fb cb ab (up m q) r y 9) fun s hs=>?_);refine cL (mW 9 y) ?_;exact n6 r y 9
 ·rw[if_neg (fun h=>he h.1)];refine aD ?_;refine cL y ?_;rfl
theorem aG6(a n:Int):j9 fb cb ab mb m r z q ⟨31,a,n⟩:=by
 have e:Ver.eP m.aC (m.us.getD q default).u ⟨31,a,n⟩ (aQ r z)=(true,Ver.push (m.us.getD q default).u.aP (Ver.want [(m.us.getD q default).u.result] (if(m.us.getD q default).u.kind≠3 then Ver.fail 8 (aQ r z)else aQ r z))):=by
  unfold Ver.eP;dsimp only;(repeat rw[if_neg aK]);rw[if_pos rfl]
 unfold j9;rw[e]
 by_cases hkd:(m.us.getD q default).u.kind=3
 ·rw[if_neg (fun h=>h hkd)];refine JE [ptr fb, .agg #[.int .i64 31, .int .i64 a, .int .i64 n]] Tryz.func121 Tryz.ntmps121 fun w S=>?_;refine Jn ?_;refine Jn ?_
  repeat(refine Jy ?_;try intro b)
  (refine Jc ?_;refine aB.bA (spec:=lJ fb cb ab (up m q) r z _ 1 _ [(m.us.getD q default).u.result] rfl aA aA) (t:=Jx) (k:=?_);intro s hs;refine Jn ?_);obtain⟨y,rfl⟩:∃y,y=s:=⟨_,rfl⟩;have hy:=hs;have hyl:=jR hs (dP (lY _ _) (show(aQ r z).stack.length≤300 from hl));refine aD ?_;(refine eM (jU fb cb ab (up m q) r y (m.us.getD q default).u.aP aA) fun s hs=>?_);refine cL s ?_;simp only;rw[hs,hy]
 ·rw[if_pos hkd];refine JE [ptr fb, .agg #[.int .i64 31, .int .i64 a, .int .i64 n]] Tryz.func121 Tryz.ntmps121 fun w S=>?_;refine Jn ?_;refine Jn ?_
  repeat(refine Jy ?_;try intro b)
  (refine oP (n5 fb cb ab (up m q) r z 8) fun s hs=>?_)
  repeat(refine Jy ?_;try intro b)
  (refine Jc ?_;refine aB.bA (spec:=lJ fb cb ab (up m q) r (mW 8 z) _ 1 _ [(m.us.getD q default).u.result] rfl aA (by show z.st.length≤1000;omega)) (t:=Jx) (k:=?_);intro s hs;refine Jn ?_);obtain⟨y,rfl⟩:∃y,y=s:=⟨_,rfl⟩;have hy:=hs;have hyl:=jR hs (dP (lY _ _) (show(aQ r z).stack.length≤300 from hl));rw[n6]at hy;refine aD ?_;(refine eM (jU fb cb ab (up m q) r y (m.us.getD q default).u.aP aA) fun s hs=>?_);refine cL s ?_;simp only;rw[hs,hy]
theorem aG7(a n:Int):j9 fb cb ab mb m r z q ⟨32,a,n⟩:=by
 have e:Ver.eP m.aC (m.us.getD q default).u ⟨32,a,n⟩ (aQ r z)=(true,Ver.push 2 (Ver.gen m.aC (aQ r z)).2):=by
  unfold Ver.eP;dsimp only;(repeat rw[if_neg aK]);rw[if_pos rfl]
 unfold j9;rw[e];refine JE [ptr fb, .agg #[.int .i64 32, .int .i64 a, .int .i64 n]] Tryz.func121 Tryz.ntmps121 fun w S=>?_;refine Jn ?_;refine Jn ?_
 repeat(refine Jy ?_;try intro b)
 (refine oP (SG fb cb ab mb (up m q) m r z aA hst) fun s hs=>?_);obtain⟨y,rfl⟩:∃y,y=s:=⟨_,rfl⟩;have hy:=hs;have hyl:=jR hs (SJ _ _ (show(aQ r z).stack.length≤300 from hl));refine aD ?_;(refine eM (jU fb cb ab (up m q) r y 2 aA) fun s hs=>?_);refine cL s ?_;simp only;rw[hs,hy]
theorem aG1(k:Nat)(n:Int)(hk:k<m.bx.length):j9 fb cb ab mb m r z q ⟨26,k,n⟩:=by
 have e:Ver.eP m.aC (m.us.getD q default).u ⟨26,k,n⟩ (aQ r z)=(true,Ver.want [(m.bx.getD k default).1] (aQ r z)):=by
  unfold Ver.eP;dsimp only;(repeat rw[if_neg aK]);rw[if_pos rfl];rw[Jj]
 unfold j9;rw[e];refine JE [ptr fb, .agg #[.int .i64 26, .int .i64 k, .int .i64 n]] Tryz.func121 Tryz.ntmps121 fun w S=>?_;refine Jn ?_;refine Jn ?_
 repeat(refine Jy ?_;try intro b)
 refine b8 17 [md m,aF fb (rJ cb ab (up m q) r z) 195,aF cb [.pointer (some ⟨mb,0,none⟩)] 128,aF mb [.slice m.bo m.bx.length m.bc, .slice m.uo m.us.length m.uc] 26,aF b [.int .i64 26, .int .i64 k, .int .i64 n] 113] 18 ?_;refine bR [0,1,2,3,4,5,6,7,8,9,10,11,12,13,14,15] ?_;refine iF 16 fun b=>?_;(refine JT 17 ?_;refine aB.bA (spec:=lJ fb cb ab (up m q) r z _ 1 _ [(m.bx.getD k default).1] rfl aA aA) (k:=?_);intro s hs;refine JG ?_;refine Jn ?_);refine b6 ?_;refine aD ?_;refine cL s ?_;exact hs
theorem aG2(k:Nat)(n:Int)(hk:k<m.bx.length):j9 fb cb ab mb m r z q ⟨27,k,n⟩:=by
 have e:Ver.eP m.aC (m.us.getD q default).u ⟨27,k,n⟩ (aQ r z)=(true,Ver.push (m.bx.getD k default).1 (aQ r z)):=by
  unfold Ver.eP;dsimp only;(repeat rw[if_neg aK]);rw[if_pos rfl];rw[Jj]
 unfold j9;rw[e];refine JE [ptr fb, .agg #[.int .i64 27, .int .i64 k, .int .i64 n]] Tryz.func121 Tryz.ntmps121 fun w S=>?_;refine Jn ?_;refine Jn ?_
 repeat(refine Jy ?_;try intro b)
 (refine eM (jU fb cb ab (up m q) r z (m.bx.getD k default).1 aA) fun s hs=>?_);refine cL s ?_;exact hs
theorem aG5(a n:Int):j9 fb cb ab mb m r z q ⟨30,a,n⟩:=by
 obtain⟨F,hF⟩:∃F,F=(match Ver.gen m.aC (Ver.pop (aQ r z)).2 with
  |(none,g)=>g
  |(some k,g)=>Ver.push (m.aC.aJ.getD k.toNat default).result (if(Ver.pop (aQ r z)).1≠(m.aC.aJ.getD k.toNat default).aP then Ver.fail 9 g else g)):=⟨_,rfl⟩
 have e:Ver.eP m.aC (m.us.getD q default).u ⟨30,a,n⟩ (aQ r z)=(true,F):=by
  unfold Ver.eP;dsimp only;(repeat rw[if_neg aK]);rw[if_pos rfl,hF];try rfl
 unfold j9;rw[e];clear e;refine JE [ptr fb, .agg #[.int .i64 30, .int .i64 a, .int .i64 n]] Tryz.func121 Tryz.ntmps121 fun w S=>?_;refine Jn ?_;refine Jn ?_;apply aG.fact (∀k,k<m.us.length→(place (sz m6) m.uo k 0).isSome=true) (fun w hm k hk=>(bY.vL tk).place hm hk 0);intro hpl
 repeat(refine Jy ?_;try intro b)
 (refine oP (yB fb cb ab (up m q) r z aA) fun s hs=>?_);obtain⟨y,rfl⟩:∃y,y=s:=⟨_,rfl⟩;have hyl:=jR hs (dP (DD _) (show(aQ r z).stack.length≤300 from hl));have hyt:∀t∈y.st,ImgM.In64 t:=fun t ht=>hst t (aEf _ _ (by rw[←hs];exact ht));rw[←hs]at hF;generalize(Ver.pop (aQ r z)).1=v at *;clear hs;refine aD ?_;(refine oP (SG fb cb ab mb (up m q) m r y aA hyt) fun s hs=>?_);obtain⟨x,rfl⟩:=a7 s;have hxl:=jR hs (SJ m.aC (aQ r y) hyl);have hgk:=KQ m.aC (aQ r y);generalize hg:Ver.gen m.aC (aQ r y)=G at *;obtain⟨o,g⟩:=G;simp only at hs hgk hxl hF;subst hs
 cases o with
 |none=>
  simp only at hF;refine aD ?_;refine cL x ?_;exact hF.symm
 |some k=>
  obtain⟨j,rfl,hj⟩:=hgk k rfl;have hj':j<m.us.length:=by simpa using hj
  have hpj:=hpl j hj';have hF2:F=Ver.push (m.us.getD j default).u.result (if v≠(m.us.getD j default).u.aP then Ver.fail 9 (aQ r x)else aQ r x):=by
   rw[hF];simp only[Jj,sO]
  clear hF;have hF:=hF2;clear hF2;have hgv:KP m (some ((j:Nat):Int))=up m j:=by simp only[KP,Jj]
  apply aE.look (d:=130) aV hgv
  by_cases hv:v=(m.us.getD j default).u.aP
  ·rw[if_neg (fun h=>h hv)]at hF;refine aD ?_;(refine eM (jU fb cb ab (up m q) r x (m.us.getD j default).u.result aA) fun s hs=>?_);refine cL s ?_;exact hs.trans hF.symm
  ·rw[if_pos hv]at hF;refine aD ?_;(refine eM (n5 fb cb ab (up m q) r x 9) fun s hs=>?_);(refine eM (jU fb cb ab (up m q) r (mW 9 x) (m.us.getD j default).u.result (by show x.st.length≤1000;omega)) fun s hs=>?_);refine cL s ?_;rw[hF,←n6];exact hs
end
end Vw
end Go.Proofs.YtofckcabpchcmaaGreatDoor
