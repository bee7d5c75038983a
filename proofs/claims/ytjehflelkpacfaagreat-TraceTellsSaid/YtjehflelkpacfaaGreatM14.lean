/- verify's flow, walked: what has to do with other units, and boxes. -/
import Derived.Test.YtjehflelkpacfaaGreatM13
set_option linter.unusedVariables false
set_option linter.unusedSimpArgs false
set_option linter.unusedSectionVars false
set_option maxRecDepth 100000
namespace Go.Proofs.YtjehflelkpacfaaGreat.Vw
open Go.RowKit Go.Proofs.YtjehflelkpacfaaGreat.Img
section
attribute [local irreducible] Run Cod End OpT Still RunQ RunS RunT Fn PutOk
theorem len_of{r:FR}{s:FS}{g:Ver.Flow}(h:flow r s=g){N:Nat}(hg:g.stack.length≤N):s.st.length≤N:=by
 have:s.st=g.stack:=congrArg Ver.Flow.stack h;rw[this];exact hg
theorem fail_len(e:Int)(f:Ver.Flow):(Ver.fail e f).stack.length=f.stack.length:=by unfold Ver.fail;split<;>rfl
theorem args_le(M:ImgM.Mdl)(k:Int)(f:Ver.Flow):(Ver.args M k f).stack.length≤f.stack.length:=want_le _ _
theorem isUnit_ok{M:ImgM.Mdl}{i kind:Int}(h:Ver.isUnit M i kind=true):∃k:Nat,i=(k:Int)∧k<M.units.length∧(M.units.getD k default).kind=kind:=by
 simp only[Ver.isUnit,JX,JV]at h;obtain⟨⟨h1,h2⟩,h3⟩:=h;exact⟨i.toNat,by omega,by omega,h3⟩
theorem gen_le(M:ImgM.Mdl)(f:Ver.Flow){N:Nat}(h:f.stack.length≤N):(Ver.gen M f).2.stack.length≤N:=by
 have:=pop_le f;unfold Ver.gen
 split
 ·simp only;omega
 split
 ·simp only[fail_len];omega
 ·simp only;omega
theorem pop_sub(f:Ver.Flow):∀t∈(Ver.pop f).2.stack,t∈f.stack:=by
 unfold Ver.pop
 split
 ·unfold Ver.fail;split<;>exact fun t h=>h
 ·exact fun t h=>List.mem_of_mem_take h
theorem gen_ok(M:ImgM.Mdl)(f:Ver.Flow):∀k,(Ver.gen M f).1=some k→∃j:Nat,k=(j:Int)∧j<M.units.length:=by
 unfold Ver.gen
 split
 ·intro k h;cases h
 split
 ·intro k h;cases h
 ·intro k h
  rename_i h2
  simp only[Option.some.injEq]at h;subst h;have h3:Ver.handle M (Ver.pop f).1=true:=by simpa using h2
  simp only[Ver.handle,JX]at h3;obtain⟨j,h4,h5, -⟩:=isUnit_ok h3.2;exact⟨j,h4,h5⟩
theorem Run.look{P:Program}{ops:Array Oper}{Q:Exit→Act→World→Prop}{N d:Nat}{l:List Oper}{E:Env}{L:List Chunk}{v v':Value}(h:Proofs.YtjehflelkpacfaaGreat.look E d=some v)(e:v=v')(k:Run P ops Q N l ((d,v')::E) L):Run P ops Q N l E L:=by
 subst e;unfold Run at k⊢;exact fun a w hs hm=>k a w (hs.sub' h) hm
section
variable(fb cb ab mb:Nat)(m:ML)(r:FR)(z:FS)(q:Nat)(hq:q<m.us.length)(hl:z.st.length≤300)(hst:∀t∈z.st,ImgM.In64 t)
abbrev SpecFn(i:ImgM.Ins):Prop:=Fn Tryz.prog 99 #[ptr fb,insV i] [md m] (fm fb cb ab (up m q) r z ++ck cb mb m) (fun z'=>flow r z'=(Ver.special m.mdl (m.us.getD q default).u i (flow r z)).2) (fun _=> .bool (Ver.special m.mdl (m.us.getD q default).u i (flow r z)).1) (fun z'=>fm fb cb ab (up m q) r z' ++ck cb mb m)
include hl hst hq
theorem special_23(k:Nat)(n:Int)(hk:k<m.us.length)(hh:Ver.head m.mdl (m.us.getD k default).u=0):SpecFn fb cb ab mb m r z q ⟨23,k,n⟩:=by
 have e:Ver.special m.mdl (m.us.getD q default).u ⟨23,k,n⟩ (flow r z)=(true,Ver.push (m.us.getD k default).u.result (Ver.args m.mdl k (flow r z))):=by
  unfold Ver.special;rw[if_pos rfl,Jj,ML.unit_at]
 unfold SpecFn;rw[e];refine JE [ptr fb, .agg #[.int .i64 23, .int .i64 (k:Int), .int .i64 n]] Tryz.func99 Tryz.ntmps99 fun w S=>?_
 (refine Jn ?_);(refine Jn ?_)
 repeat(refine Jy ?_;try first|intro ao cap|intro b)
 (refine Jc ?_;refine OpT.call0_ (spec:=args_is fb cb ab mb (up m q) m r z (by omega) k hk hh) (t:=Jx) (k:=?_);intro s hs;(refine Jn ?_));obtain⟨y,rfl⟩:∃y,y=s:=⟨_,rfl⟩;have hy:=hs;have hyl:=len_of hs (Nat.le_trans (args_le _ _ _) (show(flow r z).stack.length≤300 from hl))
 repeat(refine Jy ?_;try first|intro ao cap|intro b)
 (refine Jc ?_;refine OpT.call0_ (spec:=push_is fb cb ab (up m q) r y (m.us.getD k default).u.result (by omega)) (t:=Jx) (k:=?_);intro s hs;(refine Jn ?_))
 repeat(refine Jy ?_;try first|intro ao cap|intro b)
 (refine End.done1_ (s) (he:=Jv) (hp:=?_));simp only;rw[hs,hy]
theorem special_29(k:Nat)(n:Int)(hk:k<m.us.length)(hu30:m.us.length≤30)(hh:Ver.head m.mdl (m.us.getD k default).u=0):SpecFn fb cb ab mb m r z q ⟨29,k,n⟩:=by
 have e:Ver.special m.mdl (m.us.getD q default).u ⟨29,k,n⟩ (flow r z)=(true,Ver.push (10+(k:Int)) (Ver.args m.mdl k (flow r z))):=by
  unfold Ver.special;dsimp only;(repeat rw[if_neg (by decide)]);rw[if_pos rfl]
 unfold SpecFn;rw[e];refine JE [ptr fb, .agg #[.int .i64 29, .int .i64 (k:Int), .int .i64 n]] Tryz.func99 Tryz.ntmps99 fun w S=>?_
 (refine Jn ?_);(refine Jn ?_);apply Cod.fact m.Small (fun w hm=>(md_holds.1 (hm.has tk)).small);intro hsm;have hsu:(k:Int)≤1000000:=by omega
 repeat(refine Jy ?_;try first|intro ao cap|intro b)
 (refine Jc ?_;refine OpT.call0_ (spec:=args_is fb cb ab mb (up m q) m r z (by omega) k hk hh) (t:=Jx) (k:=?_);intro s hs;(refine Jn ?_));obtain⟨y,rfl⟩:∃y,y=s:=⟨_,rfl⟩;have hy:=hs;have hyl:=len_of hs (Nat.le_trans (args_le _ _ _) (show(flow r z).stack.length≤300 from hl))
 repeat(refine Jy ?_;try first|intro ao cap|intro b)
 (refine Jc ?_;refine OpT.call0_ (spec:=push_is fb cb ab (up m q) r y (10+(k:Int)) (by omega)) (t:=Jx) (k:=?_);intro s hs;(refine Jn ?_))
 repeat(refine Jy ?_;try first|intro ao cap|intro b)
 (refine End.done1_ (s) (he:=Jv) (hp:=?_));simp only;rw[hs,hy]
theorem special_24(a n:Int):SpecFn fb cb ab mb m r z q ⟨24,a,n⟩:=by
 have e:Ver.special m.mdl (m.us.getD q default).u ⟨24,a,n⟩ (flow r z)=(false,Ver.done (Ver.want [(m.us.getD q default).u.result] (if(m.us.getD q default).u.kind≠2 then Ver.fail 8 (flow r z)else flow r z))):=by
  unfold Ver.special;dsimp only;(repeat rw[if_neg (by decide)]);rw[if_pos rfl]
 unfold SpecFn;rw[e]
 by_cases hkd:(m.us.getD q default).u.kind=2
 ·rw[if_neg (fun h=>h hkd)];refine JE [ptr fb, .agg #[.int .i64 24, .int .i64 a, .int .i64 n]] Tryz.func99 Tryz.ntmps99 fun w S=>?_
  (refine Jn ?_);(refine Jn ?_)
  repeat(refine Jy ?_;try first|intro ao cap|intro b)
  (refine Jc ?_;refine OpT.call0_ (spec:=want_is fb cb ab (up m q) r z _ 1 _ [(m.us.getD q default).u.result] rfl (by omega) (by omega)) (t:=Jx) (k:=?_);intro s hs;(refine Jn ?_));obtain⟨y,rfl⟩:∃y,y=s:=⟨_,rfl⟩;have hy:=hs;have hyl:=len_of hs (Nat.le_trans (want_le _ _) (show(flow r z).stack.length≤300 from hl))
  repeat(refine Jy ?_;try first|intro ao cap|intro b)
  (refine Jc ?_;refine OpT.call0_ (spec:=done_is fb cb ab (up m q) r y (by omega)) (t:=Jx) (k:=?_);intro s hs;(refine Jn ?_))
  repeat(refine Jy ?_;try first|intro ao cap|intro b)
  (refine End.done1_ (s) (he:=Jv) (hp:=?_));simp only;rw[hs,hy]
 ·rw[if_pos hkd];refine JE [ptr fb, .agg #[.int .i64 24, .int .i64 a, .int .i64 n]] Tryz.func99 Tryz.ntmps99 fun w S=>?_
  (refine Jn ?_);(refine Jn ?_)
  repeat(refine Jy ?_;try first|intro ao cap|intro b)
  (refine Jc ?_;refine OpT.call0_ (spec:=fail_is fb cb ab (up m q) r z 8) (t:=Jx) (k:=?_);intro s hs;(refine Jn ?_))
  repeat(refine Jy ?_;try first|intro ao cap|intro b)
  (refine Jc ?_;refine OpT.call0_ (spec:=want_is fb cb ab (up m q) r (failE 8 z) _ 1 _ [(m.us.getD q default).u.result] rfl (by omega) (by show z.st.length≤1000;omega)) (t:=Jx) (k:=?_);intro s hs;(refine Jn ?_));obtain⟨y,rfl⟩:∃y,y=s:=⟨_,rfl⟩;have hy:=hs;have hyl:=len_of hs (Nat.le_trans (want_le _ _) (show(flow r z).stack.length≤300 from hl));rw[flow_fail]at hy
  repeat(refine Jy ?_;try first|intro ao cap|intro b)
  (refine Jc ?_;refine OpT.call0_ (spec:=done_is fb cb ab (up m q) r y (by omega)) (t:=Jx) (k:=?_);intro s hs;(refine Jn ?_))
  repeat(refine Jy ?_;try first|intro ao cap|intro b)
  (refine End.done1_ (s) (he:=Jv) (hp:=?_));simp only;rw[hs,hy]
theorem special_25(a n:Int):SpecFn fb cb ab mb m r z q ⟨25,a,n⟩:=by
 have e:Ver.special m.mdl (m.us.getD q default).u ⟨25,a,n⟩ (flow r z)=(false,Ver.done (if(m.us.getD q default).u.kind=2 then Ver.fail 8 (flow r z)else flow r z)):=by
  unfold Ver.special;dsimp only;(repeat rw[if_neg (by decide)]);rw[if_pos rfl]
 unfold SpecFn;rw[e]
 by_cases hkd:(m.us.getD q default).u.kind=2
 ·rw[if_pos hkd];refine JE [ptr fb, .agg #[.int .i64 25, .int .i64 a, .int .i64 n]] Tryz.func99 Tryz.ntmps99 fun w S=>?_
  (refine Jn ?_);(refine Jn ?_)
  repeat(refine Jy ?_;try first|intro ao cap|intro b)
  (refine Jc ?_;refine OpT.call0_ (spec:=fail_is fb cb ab (up m q) r z 8) (t:=Jx) (k:=?_);intro s hs;(refine Jn ?_))
  repeat(refine Jy ?_;try first|intro ao cap|intro b)
  (refine Jc ?_;refine OpT.call0_ (spec:=done_is fb cb ab (up m q) r (failE 8 z) (by show z.st.length≤1000;omega)) (t:=Jx) (k:=?_);intro s hs;(refine Jn ?_))
  repeat(refine Jy ?_;try first|intro ao cap|intro b)
  (refine End.done1_ (s) (he:=Jv) (hp:=?_));simp only;rw[hs,flow_fail]
 ·rw[if_neg hkd];refine JE [ptr fb, .agg #[.int .i64 25, .int .i64 a, .int .i64 n]] Tryz.func99 Tryz.ntmps99 fun w S=>?_
  (refine Jn ?_);(refine Jn ?_)
  repeat(refine Jy ?_;try first|intro ao cap|intro b)
  (refine Jc ?_;refine OpT.call0_ (spec:=done_is fb cb ab (up m q) r z (by omega)) (t:=Jx) (k:=?_);intro s hs;(refine Jn ?_))
  repeat(refine Jy ?_;try first|intro ao cap|intro b)
  (refine End.done1_ (s) (he:=Jv) (hp:=?_));exact hs
theorem special_28(a n:Int):SpecFn fb cb ab mb m r z q ⟨28,a,n⟩:=by
 have e:Ver.special m.mdl (m.us.getD q default).u ⟨28,a,n⟩ (flow r z)=(true,if(Ver.pop (flow r z)).2.err=0∧Ver.plain (Ver.pop (flow r z)).1=false then Ver.fail 9 (Ver.pop (flow r z)).2 else(Ver.pop (flow r z)).2):=by
  unfold Ver.special;dsimp only;(repeat rw[if_neg (by decide)]);rw[if_pos rfl]
 unfold SpecFn;rw[e];refine JE [ptr fb, .agg #[.int .i64 28, .int .i64 a, .int .i64 n]] Tryz.func99 Tryz.ntmps99 fun w S=>?_
 (refine Jn ?_);(refine Jn ?_)
 repeat(refine Jy ?_;try first|intro ao cap|intro b)
 (refine Jc ?_;refine OpT.call0_ (spec:=pop_is fb cb ab (up m q) r z (by omega)) (t:=Jx) (k:=?_);intro s hs;(refine Jn ?_));obtain⟨y,rfl⟩:∃y,y=s:=⟨_,rfl⟩;rw[←hs];generalize(Ver.pop (flow r z)).1=t at *;clear hs e
 by_cases he:y.err=0
 ·cases hp:Ver.plain t with
  |true=>
   rw[if_neg (fun h=>by cases h.2)]
   repeat(first|(refine Jc ?_;refine OpT.call0_ (spec:=plain_is _) (k:=?_);intro s hs;(refine Jn ?_))|refine Jo ?_|(refine JB ?_;intro b)|(refine JA ?_;intro ao cap))
   (refine End.done1_ (y) (he:=Jv) (hp:=?_));rfl
  |false=>
   rw[if_pos ⟨he,rfl⟩]
   repeat(first|(refine Jc ?_;refine OpT.call0_ (spec:=plain_is _) (k:=?_);intro s hs;(refine Jn ?_))|refine Jo ?_|(refine JB ?_;intro b)|(refine JA ?_;intro ao cap))
   (refine Jc ?_;refine OpT.call0_ (spec:=fail_is fb cb ab (up m q) r y 9) (t:=Jx) (k:=?_);intro s hs;(refine Jn ?_))
   repeat(refine Jy ?_;try first|intro ao cap|intro b)
   (refine End.done1_ (failE 9 y) (he:=Jv) (hp:=?_));exact flow_fail r y 9
 ·rw[if_neg (fun h=>he h.1)]
  repeat(refine Jy ?_;try first|intro ao cap|intro b)
  (refine End.done1_ (y) (he:=Jv) (hp:=?_));rfl
theorem special_31(a n:Int):SpecFn fb cb ab mb m r z q ⟨31,a,n⟩:=by
 have e:Ver.special m.mdl (m.us.getD q default).u ⟨31,a,n⟩ (flow r z)=(true,Ver.push (m.us.getD q default).u.takes (Ver.want [(m.us.getD q default).u.result] (if(m.us.getD q default).u.kind≠3 then Ver.fail 8 (flow r z)else flow r z))):=by
  unfold Ver.special;dsimp only;(repeat rw[if_neg (by decide)]);rw[if_pos rfl]
 unfold SpecFn;rw[e]
 by_cases hkd:(m.us.getD q default).u.kind=3
 ·rw[if_neg (fun h=>h hkd)];refine JE [ptr fb, .agg #[.int .i64 31, .int .i64 a, .int .i64 n]] Tryz.func99 Tryz.ntmps99 fun w S=>?_
  (refine Jn ?_);(refine Jn ?_)
  repeat(refine Jy ?_;try first|intro ao cap|intro b)
  (refine Jc ?_;refine OpT.call0_ (spec:=want_is fb cb ab (up m q) r z _ 1 _ [(m.us.getD q default).u.result] rfl (by omega) (by omega)) (t:=Jx) (k:=?_);intro s hs;(refine Jn ?_));obtain⟨y,rfl⟩:∃y,y=s:=⟨_,rfl⟩;have hy:=hs;have hyl:=len_of hs (Nat.le_trans (want_le _ _) (show(flow r z).stack.length≤300 from hl))
  repeat(refine Jy ?_;try first|intro ao cap|intro b)
  (refine Jc ?_;refine OpT.call0_ (spec:=push_is fb cb ab (up m q) r y (m.us.getD q default).u.takes (by omega)) (t:=Jx) (k:=?_);intro s hs;(refine Jn ?_))
  repeat(refine Jy ?_;try first|intro ao cap|intro b)
  (refine End.done1_ (s) (he:=Jv) (hp:=?_));simp only;rw[hs,hy]
 ·rw[if_pos hkd];refine JE [ptr fb, .agg #[.int .i64 31, .int .i64 a, .int .i64 n]] Tryz.func99 Tryz.ntmps99 fun w S=>?_
  (refine Jn ?_);(refine Jn ?_)
  repeat(refine Jy ?_;try first|intro ao cap|intro b)
  (refine Jc ?_;refine OpT.call0_ (spec:=fail_is fb cb ab (up m q) r z 8) (t:=Jx) (k:=?_);intro s hs;(refine Jn ?_))
  repeat(refine Jy ?_;try first|intro ao cap|intro b)
  (refine Jc ?_;refine OpT.call0_ (spec:=want_is fb cb ab (up m q) r (failE 8 z) _ 1 _ [(m.us.getD q default).u.result] rfl (by omega) (by show z.st.length≤1000;omega)) (t:=Jx) (k:=?_);intro s hs;(refine Jn ?_));obtain⟨y,rfl⟩:∃y,y=s:=⟨_,rfl⟩;have hy:=hs;have hyl:=len_of hs (Nat.le_trans (want_le _ _) (show(flow r z).stack.length≤300 from hl));rw[flow_fail]at hy
  repeat(refine Jy ?_;try first|intro ao cap|intro b)
  (refine Jc ?_;refine OpT.call0_ (spec:=push_is fb cb ab (up m q) r y (m.us.getD q default).u.takes (by omega)) (t:=Jx) (k:=?_);intro s hs;(refine Jn ?_))
  repeat(refine Jy ?_;try first|intro ao cap|intro b)
  (refine End.done1_ (s) (he:=Jv) (hp:=?_));simp only;rw[hs,hy]
theorem special_32(a n:Int):SpecFn fb cb ab mb m r z q ⟨32,a,n⟩:=by
 have e:Ver.special m.mdl (m.us.getD q default).u ⟨32,a,n⟩ (flow r z)=(true,Ver.push 2 (Ver.gen m.mdl (flow r z)).2):=by
  unfold Ver.special;dsimp only;(repeat rw[if_neg (by decide)]);rw[if_pos rfl]
 unfold SpecFn;rw[e];refine JE [ptr fb, .agg #[.int .i64 32, .int .i64 a, .int .i64 n]] Tryz.func99 Tryz.ntmps99 fun w S=>?_
 (refine Jn ?_);(refine Jn ?_)
 repeat(refine Jy ?_;try first|intro ao cap|intro b)
 (refine Jc ?_;refine OpT.call0_ (spec:=gen_is fb cb ab mb (up m q) m r z (by omega) hst) (t:=Jx) (k:=?_);intro s hs;(refine Jn ?_));obtain⟨y,rfl⟩:∃y,y=s:=⟨_,rfl⟩;have hy:=hs;have hyl:=len_of hs (gen_le _ _ (show(flow r z).stack.length≤300 from hl))
 repeat(refine Jy ?_;try first|intro ao cap|intro b)
 (refine Jc ?_;refine OpT.call0_ (spec:=push_is fb cb ab (up m q) r y 2 (by omega)) (t:=Jx) (k:=?_);intro s hs;(refine Jn ?_))
 repeat(refine Jy ?_;try first|intro ao cap|intro b)
 (refine End.done1_ (s) (he:=Jv) (hp:=?_));simp only;rw[hs,hy]
theorem special_26(k:Nat)(n:Int)(hk:k<m.bx.length):SpecFn fb cb ab mb m r z q ⟨26,k,n⟩:=by
 have e:Ver.special m.mdl (m.us.getD q default).u ⟨26,k,n⟩ (flow r z)=(true,Ver.want [(m.bx.getD k default).1] (flow r z)):=by
  unfold Ver.special;dsimp only;(repeat rw[if_neg (by decide)]);rw[if_pos rfl];rw[Jj]
 unfold SpecFn;rw[e];refine JE [ptr fb, .agg #[.int .i64 26, .int .i64 (k:Int), .int .i64 n]] Tryz.func99 Tryz.ntmps99 fun w S=>?_
 (refine Jn ?_);(refine Jn ?_)
 repeat(refine Jy ?_;try first|intro ao cap|intro b)
 apply Cod.draw 17 ([md m,blk fb (fcells cb ab (up m q) r z) 161,blk cb [.pointer (some ⟨mb,0,none⟩)] 108,blk mb [.slice m.bo m.bx.length m.bc, .slice m.uo m.us.length m.uc] 25,blk b [.int .i64 26, .int .i64 (k:Int), .int .i64 n] 126]) (by kernel_rfl) 18 rfl;refine JR 0 ?_;refine JR 1 ?_;refine JR 2 ?_;refine JR 3 ?_;refine JR 4 ?_;refine JR 5 ?_;refine JR 6 ?_;refine JR 7 ?_;refine JR 8 ?_;refine JR 9 ?_;refine JR 10 ?_;refine JR 11 ?_;refine JR 12 ?_;refine JR 13 ?_;refine JR 14 ?_;refine JR 15 ?_;(refine JT 16 ?_;(first|refine Jw ?_|(refine Jb ?_;intro b)|(refine Ja ?_;intro ao cap));refine JG ?_);(refine JT 17 ?_;refine OpT.call0_ (spec:=want_is fb cb ab (up m q) r z _ 1 _ [(m.bx.getD k default).1] rfl (by omega) (by omega)) (k:=?_);intro s hs;refine JG ?_;(refine Jn ?_));(apply RunT.done;kernel_rfl)
 repeat(refine Jy ?_;try first|intro ao cap|intro b)
 (refine End.done1_ (s) (he:=Jv) (hp:=?_));exact hs
theorem special_27(k:Nat)(n:Int)(hk:k<m.bx.length):SpecFn fb cb ab mb m r z q ⟨27,k,n⟩:=by
 have e:Ver.special m.mdl (m.us.getD q default).u ⟨27,k,n⟩ (flow r z)=(true,Ver.push (m.bx.getD k default).1 (flow r z)):=by
  unfold Ver.special;dsimp only;(repeat rw[if_neg (by decide)]);rw[if_pos rfl];rw[Jj]
 unfold SpecFn;rw[e];refine JE [ptr fb, .agg #[.int .i64 27, .int .i64 (k:Int), .int .i64 n]] Tryz.func99 Tryz.ntmps99 fun w S=>?_
 (refine Jn ?_);(refine Jn ?_)
 repeat(refine Jy ?_;try first|intro ao cap|intro b)
 (refine Jc ?_;refine OpT.call0_ (spec:=push_is fb cb ab (up m q) r z (m.bx.getD k default).1 (by omega)) (t:=Jx) (k:=?_);intro s hs;(refine Jn ?_))
 repeat(refine Jy ?_;try first|intro ao cap|intro b)
 (refine End.done1_ (s) (he:=Jv) (hp:=?_));exact hs
theorem special_30(a n:Int):SpecFn fb cb ab mb m r z q ⟨30,a,n⟩:=by
 obtain⟨F,hF⟩:∃F,F=(match Ver.gen m.mdl (Ver.pop (flow r z)).2 with
  |(none,g)=>g
  |(some k,g)=>Ver.push (m.mdl.units.getD k.toNat default).result (if(Ver.pop (flow r z)).1≠(m.mdl.units.getD k.toNat default).takes then Ver.fail 9 g else g)):=⟨_,rfl⟩
 have e:Ver.special m.mdl (m.us.getD q default).u ⟨30,a,n⟩ (flow r z)=(true,F):=by
  unfold Ver.special;dsimp only;(repeat rw[if_neg (by decide)]);rw[if_pos rfl,hF];rfl
 unfold SpecFn;rw[e];clear e;refine JE [ptr fb, .agg #[.int .i64 30, .int .i64 a, .int .i64 n]] Tryz.func99 Tryz.ntmps99 fun w S=>?_
 (refine Jn ?_);(refine Jn ?_);apply Cod.fact (∀k,k<m.us.length→(place (sz ucell) m.uo k 0).isSome=true) (fun w hm k hk=>(Rdb.md_units tk).place hm hk 0);intro hpl
 repeat(refine Jy ?_;try first|intro ao cap|intro b)
 (refine Jc ?_;refine OpT.call0_ (spec:=pop_is fb cb ab (up m q) r z (by omega)) (t:=Jx) (k:=?_);intro s hs;(refine Jn ?_));obtain⟨y,rfl⟩:∃y,y=s:=⟨_,rfl⟩;have hyl:=len_of hs (Nat.le_trans (pop_le _) (show(flow r z).stack.length≤300 from hl));have hyt:∀t∈y.st,ImgM.In64 t:=fun t ht=>hst t (pop_sub _ _ (by rw[←hs];exact ht))
 rw[←hs]at hF;generalize(Ver.pop (flow r z)).1=v at *;clear hs
 repeat(refine Jy ?_;try first|intro ao cap|intro b)
 (refine Jc ?_;refine OpT.call0_ (spec:=gen_is fb cb ab mb (up m q) m r y (by omega) hyt) (t:=Jx) (k:=?_);intro s hs;(refine Jn ?_));obtain⟨x,rfl⟩:∃x,x=s:=⟨_,rfl⟩;have hxl:=len_of hs (gen_le m.mdl (flow r y) hyl);have hgk:=gen_ok m.mdl (flow r y);generalize hg:Ver.gen m.mdl (flow r y)=G at *;obtain⟨o,g⟩:=G;simp only at hs hgk hxl hF;subst hs
 cases o with
 |none=>
  simp only at hF
  repeat(refine Jy ?_;try first|intro ao cap|intro b)
  (refine End.done1_ (x) (he:=Jv) (hp:=?_));exact hF.symm
 |some k=>
  obtain⟨j,rfl,hj⟩:=hgk k rfl;have hj':j<m.us.length:=by simpa using hj
  have hpj:=hpl j hj';have hF2:F=Ver.push (m.us.getD j default).u.result (if v≠(m.us.getD j default).u.takes then Ver.fail 9 (flow r x)else flow r x):=by
   rw[hF];simp only[Jj,getD_u]
  clear hF;have hF:=hF2;clear hF2;have hgv:genV m (some ((j:Nat):Int))=up m j:=by simp only[genV,Jj]
  apply Run.look (d:=130) (by exact rfl) hgv
  by_cases hv:v=(m.us.getD j default).u.takes
  ·rw[if_neg (fun h=>h hv)]at hF
   repeat(refine Jy ?_;try first|intro ao cap|intro b)
   (refine Jc ?_;refine OpT.call0_ (spec:=push_is fb cb ab (up m q) r x (m.us.getD j default).u.result (by omega)) (t:=Jx) (k:=?_);intro s hs;(refine Jn ?_))
   repeat(refine Jy ?_;try first|intro ao cap|intro b)
   (refine End.done1_ (s) (he:=Jv) (hp:=?_));exact hs.trans hF.symm
  ·rw[if_pos hv]at hF
   repeat(refine Jy ?_;try first|intro ao cap|intro b)
   (refine Jc ?_;refine OpT.call0_ (spec:=fail_is fb cb ab (up m q) r x 9) (t:=Jx) (k:=?_);intro s hs;(refine Jn ?_))
   repeat(refine Jy ?_;try first|intro ao cap|intro b)
   (refine Jc ?_;refine OpT.call0_ (spec:=push_is fb cb ab (up m q) r (failE 9 x) (m.us.getD j default).u.result (by show x.st.length≤1000;omega)) (t:=Jx) (k:=?_);intro s hs;(refine Jn ?_))
   repeat(refine Jy ?_;try first|intro ao cap|intro b)
   (refine End.done1_ (s) (he:=Jv) (hp:=?_));rw[hF,←flow_fail];exact hs
end
end
attribute [local irreducible] Run Cod End OpT Still RunQ RunS RunT Fn PutOk
abbrev shC(x:SH):List Chunk:=[arr x.so x.st.length x.sc 3 i64c x.st,arr x.ho x.hs.length x.hc 4 boolc x.hs]
def inner(l:List (Int×SH)):List Chunk:=l.flatMap fun p=>shC p.2
abbrev fa(fb cb ab:Nat)(u:Value)(r:FR)(s:FS):List Chunk:=
 [blk fb (fcells cb ab u r s) 161,arr s.so s.st.length s.sc 3 i64c s.st,arr r.to_ r.todo.length r.tc 3 i64c r.todo,arr r.ho r.has.length r.hc 4 boolc r.has,mp ab shV r.ents,bag (inner r.ents)]
theorem mfind_at(l:List (Int×SH))(k:Int):Ver.find (l.map fun p=>(p.1,(p.2.st,p.2.hs))) k=(mfind l k).map fun x=>(x.st,x.hs):=by
 induction l with
 |nil=>rfl
 |cons a l ih=>
  obtain⟨q,x⟩:=a
  by_cases h:q=k
  ·simp[Ver.find,mfind,h]
  ·have e1:mfind ((q,x)::l) k=mfind l k:=by simp[mfind,h]
   rw[e1,←ih];simp[Ver.find,h]
theorem mput_at(l:List (Int×SH))(k:Int)(y:SH):(mput l k y).map (fun p=>(p.1,(p.2.st,p.2.hs)))=Ver.put (l.map fun p=>(p.1,(p.2.st,p.2.hs))) k (y.st,y.hs):=by
 induction l with
 |nil=>rfl
 |cons a l ih=>
  obtain⟨q,x⟩:=a;simp only[mput,List.map_cons,Ver.put]
  by_cases h:q=k
  ·simp[h]
  ·simp[h,ih]
def mdel:List (Int×SH)→Int→List (Int×SH)
 |[],_=>[]
 |(q,a)::r,k=>if q=k then r else(q,a)::mdel r k
theorem inner_cons(a:Int×SH)(l:List (Int×SH)):inner (a::l)=shC a.2 ++inner l:=by simp[inner]
theorem inner_put(l:List (Int×SH))(k:Int)(y:SH)(x:SH)(h:mfind l k=some x):(inner (mput l k y)).Perm (shC y ++inner (mdel l k)):=by
 induction l with
 |nil=>cases h
 |cons a l ih=>
  obtain⟨q,b⟩:=a;unfold mput mdel;unfold mfind at h
  by_cases hq:q=k
  ·simp only[hq,if_true,inner_cons];exact List.Perm.refl _
  ·simp only[hq,if_false]at h⊢;rw[inner_cons,inner_cons];exact((ih h).append_left _).trans (List.perm_append_comm_assoc _ _ _)
theorem mput_same(l:List (Int×SH))(k:Int)(x:SH)(h:mfind l k=some x):mput l k x=l:=by
 induction l with
 |nil=>cases h
 |cons a l ih=>
  obtain⟨q,b⟩:=a;unfold mput;unfold mfind at h
  by_cases hq:q=k
  ·simp only[hq,if_true]at h⊢
   cases h;rfl
  ·simp only[hq,if_false]at h⊢;rw[ih h]
theorem mput_val(l:List (Int×SH))(k:Int)(x y:SH)(h:mfind l k=some x)(e:shV y=shV x):l.map (fun p=>(Value.int .i64 p.1,shV p.2))=(mput l k y).map (fun p=>(Value.int .i64 p.1,shV p.2)):=by
 induction l with
 |nil=>cases h
 |cons a l ih=>
  obtain⟨q,b⟩:=a;unfold mput;unfold mfind at h
  by_cases hq:q=k
  ·simp only[hq,if_true]at h⊢
   cases h
   simp[e]
  ·simp only[hq,if_false]at h⊢;simp[ih h]
theorem inner_mem(l:List (Int×SH))(k:Int)(x:SH)(h:mfind l k=some x):∀c∈shC x,c∈inner l:=by
 intro c hc;have:=inner_put l k x x h;rw[mput_same l k x h]at this;exact this.mem_iff.2 (List.mem_append_left _ hc)
theorem inner_new(l:List (Int×SH))(k:Int)(y:SH)(h:mfind l k=none):inner (mput l k y)=inner l ++shC y:=by
 rw[mput_new k y l h];simp[inner]
theorem meet_len:∀(a b:List Bool),a.length=b.length→(Ver.meet a b).length=a.length
 |[],_,_=>by cases ‹List Bool› <;>rfl
 |_::_,[],h=>by cases h
 |x::a,y::b,h=>by simp[Ver.meet,meet_len a b (by simpa using h)]
theorem meet_at:∀(a b:List Bool) (k:Nat),k<a.length→a.length=b.length→(Ver.meet a b).getD k default=(a.getD k default&&b.getD k default)
 |[],_,k,h,_=>by simp at h
 |_::_,[],_,_,h=>by cases h
 |x::a,y::b,0,_,_=>rfl
 |x::a,y::b,k+1,h,h2=>by
  have:=meet_at a b k (by simpa using h) (by simpa using h2);simpa[Ver.meet]using this
theorem End.bagNew{Q:Exit→Act→World→Prop}{N:Nat}{E:Env}{e:Exit}{cs cs' ds L L' F:List Chunk}(hin:cs'=cs ++ds)(t:Take (bag cs) L L')(t2:Takes ds L' F)(hx:∀c∈ds,c.excl=true)(h:End Q N e E (bag cs'::F)):End Q N e E L:=
 End.imp (fun w hm=>hin▸Mem.bagAdd hm t t2 hx) h
theorem End.bagBack{Q:Exit→Act→World→Prop}{N:Nat}{E:Env}{e:Exit}{cs ds es L L' F:List Chunk}(p:cs.Perm (ds ++es))(t:Take (bag es) L L')(t2:Takes ds L' F)(hx:∀c∈ds,c.excl=true)(h:End Q N e E (bag cs::F)):End Q N e E L:=
 End.imp (fun w hm=>Mem.bagIn hm t t2 p hx) h
theorem Cod.bagOut{P:Program}{Q:Exit→Act→World→Prop}{N:Nat}{E:Env}{c:Code}{cs ds es L L':List Chunk}(p:cs.Perm (ds ++es))(t:Take (bag cs) L L')(h:Cod P Q N c E (ds ++(bag es::L'))):Cod P Q N c E L:=
 Cod.imp (fun w hm=>Mem.bagOut hm t p) h
theorem list_extB{l l':List Bool}(n:Nat)(hn:l.length=n)(hm:l'.length=n)(h:∀j,j<n→l.getD j default=l'.getD j default):l=l':=
 List.ext_getElem (by omega) (fun j h1 h2=>by have:=h j (by omega);simpa[Jd,h1,h2]using this)
theorem getD_set{l:List Bool}{k j:Nat}{v:Bool}(hk:k<l.length):(l.set k v).getD j default=if j=k then v else l.getD j default:=by
 simp only[Jd,List.getElem?_set]
 by_cases h:k=j
 ·subst h;simp[hk]
 ·rw[if_neg h,if_neg (fun h'=>h h'.symm)]
structure MeetOk(a b:List Bool)(s:Nat×List Bool×Bool):Prop where
 le:s.1≤a.length
 len:s.2.1.length=a.length
 done:∀j,j<s.1→s.2.1.getD j default=(a.getD j default&&b.getD j default)
 rest:∀j,s.1≤j→s.2.1.getD j default=a.getD j default
 less:(s.2.2=false∧s.2.1=a)∨(s.2.2=true∧s.2.1≠a)
theorem MeetOk.start(a b:List Bool):MeetOk a b (0,a,false):=⟨by simp,rfl,fun j h=>by simp at h,fun j h=>rfl, .inl ⟨rfl,rfl⟩⟩
theorem MeetOk.fin{a b:List Bool}{k:Nat}{l:List Bool}{t:Bool}(h:MeetOk a b (k,l,t))(hk:¬k<a.length)(hab:a.length=b.length):l=Ver.meet a b:=by
 have h1:=h.len;simp only at h1;exact list_extB a.length h1 (meet_len a b hab) (fun j hj=>by rw[meet_at a b j hj hab];exact h.done j (by simp only;omega))
theorem MeetOk.set{a b:List Bool}{k:Nat}{l:List Bool}{t:Bool}(h:MeetOk a b (k,l,t))(hk:k<a.length)(h1:l.getD k default=true)(h2:b.getD k default=false):MeetOk a b (k+1,l.set k false,true):=by
 have hl:=h.len;have hr:=h.rest k (Nat.le_refl _);simp only at hl hr;refine⟨hk,by simp[hl],fun j hj=>?_,fun j hj=>?_, .inr ⟨rfl,fun e=>?_⟩⟩
 ·simp only at hj⊢;rw[getD_set (by omega)]
  by_cases hjk:j=k
  ·subst hjk;rw[if_pos rfl,h2];simp
  ·rw[if_neg hjk];exact h.done j (by simp only;omega)
 ·simp only at hj⊢;rw[getD_set (by omega),if_neg (by omega)];exact h.rest j (by simp only;omega)
 ·have:=congrArg (fun x=>x.getD k default) e;simp only at this;rw[getD_set (by omega),if_pos rfl,←hr,h1]at this
  cases this
theorem MeetOk.skip{a b:List Bool}{k:Nat}{l:List Bool}{t:Bool}(h:MeetOk a b (k,l,t))(hk:k<a.length)(h1:¬(l.getD k default=true∧b.getD k default=false)):MeetOk a b (k+1,l,t):=by
 have hr:=h.rest k (Nat.le_refl _);simp only at hr;refine⟨hk,h.len,fun j hj=>?_,fun j hj=>h.rest j (by simp only at hj⊢;omega),h.less⟩;simp only at hj⊢
 by_cases hjk:j=k
 ·subst hjk;rw[hr]at h1⊢
  cases ha:a.getD j default<;>cases hb:b.getD j default<;>simp_all
 ·exact h.done j (by simp only;omega)
theorem to_is(fb cb ab:Nat)(m:ML)(q:Nat)(hq:q<m.us.length)(r:FR)(z:FS)(p:Int)(hl:z.st.length≤1000)(hh:r.has.length≤1000)(hto:r.todo.length≤1000000000)
  (hent:∀x,mfind r.ents p=some x→x.st.length≤1000∧x.hs.length=r.has.length):
  Fn Tryz.prog 65 #[ptr fb, .int .i64 p] [md m] (fa fb cb ab (up m q) r z) (σ:=FR×FS) (fun s=>flow s.1 s.2=Ver.to (m.us.getD q default).u.code.length p (flow r z)) (fun _=> .tuple #[]) (fun s=>fa fb cb ab (up m q) s.1 s.2):=by
 obtain⟨F,hF⟩:∃F,F=Ver.to (m.us.getD q default).u.code.length p (flow r z):=⟨_,rfl⟩;rw[←hF];unfold Ver.to at hF;refine JE [ptr fb, .int .i64 p] Tryz.func65 Tryz.ntmps65 fun w S=>?_
 (refine Jn ?_)
 by_cases he:z.err=0
 ·rw[if_neg (fun h=>h he)]at hF
  by_cases hp:p=((m.us.getD q default).u.code.length:Int)
  ·rw[if_pos hp]at hF
   repeat(refine Jy ?_;try first|intro ao cap|intro b)
   (refine Jc ?_;refine OpT.call0_ (spec:=fail_is fb cb ab (up m q) r z 3) (t:=Jx) (k:=?_);intro s hs;(refine Jn ?_))
   repeat(refine Jy ?_;try first|intro ao cap|intro b)
   (refine End.done0_ ((r,failE 3 z)) (hp:=?_));rw[hF];exact flow_fail r z 3
  ·rw[if_neg hp]at hF;have hfd:Ver.find (flow r z).at_ p=(mfind r.ents p).map fun x=>(x.st,x.hs):=mfind_at r.ents p
   rw[hfd]at hF
   cases hm:mfind r.ents p with
   |none=>
    rw[hm]at hF;simp only[Option.map_none]at hF
    repeat(refine Jy ?_;try first|intro ao cap|intro b)
    apply Cod.draw 10 ([blk fb (fcells cb ab (up m q) r z) 161]) (by kernel_rfl) 11 rfl;refine JR 0 ?_;refine JR 1 ?_;refine JR 2 ?_;refine JR 3 ?_;refine JR 4 ?_;refine JR 5 ?_;refine JR 6 ?_;refine JR 7 ?_;refine JR 8 ?_;(refine JT 9 ?_;refine JK (copied_is ⟨z.st,z.so,z.sc,r.has,r.ho,r.hc⟩ (by show z.st.length≤1000000;omega) (by show r.has.length≤1000000;omega)) ?_;intro s hs;refine JG ?_;(refine Jn ?_));(refine JT 10 ?_;refine OpT.mapUpdate_ (a:=s) (k:=?_);refine JG ?_;(refine Jn ?_));(apply RunT.done;kernel_rfl)
    repeat(refine Jy ?_;try first|intro ao cap|intro b)
    obtain⟨hs1,hs2⟩:=hs;simp only at hs1 hs2;apply End.bagNew (inner_new r.ents p s hm) tk tks (by simp[arr_excl]);(refine End.done0_ (({r with ents:=mput r.ents p s,todo:=r.todo ++[p],to_:=ao,tc:=cap},z)) (ht:=Jx) (hp:=?_));have hmp:=mput_new p s r.ents hm;rw[hF];simp[flow,FR.at_,hmp,hs1,hs2]
   |some x=>
    rw[hm]at hF;simp only[Option.map_some]at hF;obtain⟨hx1,hx2⟩:=hent x hm;have hmem:=inner_mem r.ents p x hm;have hm1:arr x.so x.st.length x.sc 3 i64c x.st∈inner r.ents:=hmem _ (by simp)
    repeat(refine Jy ?_;try first|intro ao cap|intro b)
    (apply Run.op;exact rfl;refine OpT.call0_ (spec:=equal_is x.so z.so _ _ _ _ x.st z.st rfl rfl (by omega) (by omega)) (k:=?_);intro s hs;(refine Jn ?_))
    by_cases hst:x.st=z.st
    ·have hd:decide (x.st=z.st)=true:=decide_eq_true hst;rw[if_neg (show¬x.st≠(flow r z).stack from fun h=>h hst)]at hF;have hpm:=inner_put r.ents p x x hm;rw[mput_same r.ents p x hm]at hpm
     repeat(refine Jy ?_;try first|intro ao cap|intro b)
     apply Cod.bagOut hpm tk;apply Cod.loop (σ:=Nat×List Bool×Bool) (MeetOk x.hs r.has) (fun s=>[(0,ptr fb),(1, .int .i64 p),(4,ptr b),(6, .bool s.2.2),(69, .int .i64 (x.hs.length:Int)),(70, .int .i64 (s.1:Int))]) (fun s=>[old w S,md m,blk fb (fcells cb ab (up m q) r z) 161,arr z.so z.st.length z.sc 3 i64c z.st,arr r.to_ r.todo.length r.tc 3 i64c r.todo,arr r.ho r.has.length r.hc 4 boolc r.has,mp ab shV r.ents,bag (inner (mdel r.ents p)),arr x.so x.st.length x.sc 3 i64c x.st,arr x.ho x.hs.length x.hc 4 boolc s.2.1,blk b [.slice x.so x.st.length x.sc, .slice x.ho x.hs.length x.hc] 159]) (fun s=>x.hs.length-s.1) (0,x.hs,false)
     rotate_left
     exact sb;exact tks;intro s hs KM hKM;(refine Jn ?_)
     rotate_left
     ·exact MeetOk.start _ _
     obtain⟨k,l,t⟩:=s;have hle:=hs.le;simp only at hle hKM⊢
     by_cases hk:k<x.hs.length
     ·by_cases hb:l.getD k default=true∧r.has.getD k default=false
      ·obtain⟨hb1,hb2⟩:=hb
       repeat(refine Jy ?_;try first|intro ao cap|intro b)
       apply Run.op (by exact rfl);refine OpT.storeE_ (a':=false) (k:=?_)
       repeat(refine Jy ?_;try first|intro ao cap|intro b)
       refine End.round0_ hKM (k+1,l.set k false,true) ?_ ?_
       ·exact hs.set hk hb1 hb2
       ·simp only;omega
      ·cases hb1:l.getD k default with
       |false=>
        repeat(refine Jy ?_;try first|intro ao cap|intro b)
        refine End.round0_ hKM (k+1,l,t) ?_ ?_
        ·exact hs.skip hk hb
        ·simp only;omega
       |true=>
        have hb2:r.has.getD k default=true:=by cases h:r.has.getD k default<;>simp_all
        repeat(refine Jy ?_;try first|intro ao cap|intro b)
        refine End.round0_ hKM (k+1,l,t) ?_ ?_
        ·exact hs.skip hk hb
        ·simp only;omega
     ·have hfin:=hs.fin hk hx2;have hless:=hs.less;simp only at hless;rw[show Ver.meet x.hs (flow r z).has=l from hfin.symm]at hF;clear hs;rcases hless with⟨rfl,rfl⟩|⟨rfl,hne⟩
      ·rw[if_pos rfl]at hF
       repeat(refine Jy ?_;try first|intro ao cap|intro b)
       apply End.bagBack hpm tk tks (by simp[arr_excl]);(refine End.done0'_ ((r,z)) (hp:=?_));rw[hF]
      ·rw[if_neg hne]at hF;have hll:l.length=x.hs.length:=by rw[hfin];exact meet_len _ _ hx2
       have hpy:=inner_put r.ents p ⟨x.st,x.so,x.sc,l,x.ho,x.hc⟩ x hm;have hsv:shV ⟨x.st,x.so,x.sc,l,x.ho,x.hc⟩=shV x:=by unfold shV;simp only[hll]
       have hmv:=mput_val r.ents p x ⟨x.st,x.so,x.sc,l,x.ho,x.hc⟩ hm hsv
       repeat(refine Jy ?_;try first|intro ao cap|intro b)
       apply End.imp (fun w hm'=>mp_congr hm' tk hmv);apply End.bagBack hpy tk (Jx) (by simp[arr_excl]);(refine End.done0'_ (({r with ents:=mput r.ents p ⟨x.st,x.so,x.sc,l,x.ho,x.hc⟩,todo:=r.todo ++[p],to_:=ao,tc:=cap},z)) (ht:=Jx) (hp:=?_));rw[hF];simp only[flow,FR.at_,mput_at]
    ·have hd:decide (x.st=z.st)=false:=decide_eq_false hst;rw[if_pos (show x.st≠(flow r z).stack from hst)]at hF
     repeat(refine Jy ?_;try first|intro ao cap|intro b)
     (refine Jc ?_;refine OpT.call0_ (spec:=fail_is fb cb ab (up m q) r z 8) (t:=Jx) (k:=?_);intro s hs;(refine Jn ?_))
     repeat(refine Jy ?_;try first|intro ao cap|intro b)
     (refine End.done0_ ((r,failE 8 z)) (hp:=?_));rw[hF];exact flow_fail r z 8
 ·rw[if_pos (show(flow r z).err≠0 from he)]at hF
  repeat(refine Jy ?_;try first|intro ao cap|intro b)
  (refine End.done0_ ((r,z)) (hp:=?_));rw[hF]
end Go.Proofs.YtjehflelkpacfaaGreat.Vw
