/- The document's task: its small functions, walked. -/
import Derived.Test.YtgnhfinabhimpaaM17
set_option linter.unusedVariables false
set_option linter.unusedSimpArgs false
set_option linter.unusedSectionVars false
set_option maxRecDepth 100000
namespace Go.Proofs.Ytgnhfinabhimpaa.Vw
open Go.RowKit Go.Proofs.Ytgnhfinabhimpaa.Img
attribute [local irreducible] Run Cod End OpT Still RunQ RunS RunT Fn PutOk
variable{E:EnvR}
theorem snoc_len{α:Type}(l:List α)(a:α):l.length+1=(l ++[a]).length:=by simp
theorem note_is(tb:Nat)(m:ML)(z:RT E)(hl:z.log.length≤2000000)(a bx v:Int):Fn Try.prog 54 #[ptr tb, .int .i64 a, .int .i64 bx, .int .i64 v] [] [rkM tb m z,rlM z] (σ:=Option Addr×Nat) (fun _=>True) (fun _=> .tuple #[]) (fun s=>[rkM tb m (z.noted (a,bx,v) s),rlM (z.noted (a,bx,v) s)]):=by
 refine Fn.enter (args:=[ptr tb, .int .i64 a, .int .i64 bx, .int .i64 v]) Try.func54 rfl _ Try.ntmps54 rfl (by simp[rd_excl,md_excl]) (fun w S=>?_);(refine Jn ?_)
 repeat(refine Jy ?_;try first|intro ao cap|intro b)
 (apply Run.op;exact rfl;refine OpT.append1_ (a:=((a,bx,v):Vm.Ev)) (k:=?_);intro ao cap);rw[snoc_len]
 repeat(refine Jy ?_;try first|intro ao cap|intro b)
 (refine End.done0'_ ((ao,cap)) (hp:=?_));trivial
theorem fall_is(tb:Nat)(m:ML)(z:RT E)(hl:z.log.length≤2000000)(n:Int):Fn Try.prog 55 #[ptr tb, .int .i64 n] [] (RM tb m z) (σ:=RT E) (FellR n z) (fun _=> .tuple #[]) (fun z'=>RM tb m z'):=by
 refine Fn.enter (args:=[ptr tb, .int .i64 n]) Try.func55 rfl _ Try.ntmps55 rfl (by simp[rd_excl,md_excl]) (fun w S=>?_);(refine Jn ?_)
 by_cases h5:z.st=5
 ·repeat(refine Jy ?_;try first|intro ao cap|intro b)
  (refine End.done0_ (z) (hp:=?_));exact .inl ⟨h5,rfl⟩
 ·repeat(refine Jy ?_;try first|intro ao cap|intro b)
  (apply Run.op;exact rfl;refine JK (note_is tb m {z with st:=5,tr:=n} hl 5 0 n) ?_;intro s hs;(refine Jn ?_))
  repeat(refine Jy ?_;try first|intro ao cap|intro b)
  (refine End.done0'_ ((RT.noted {z with st:=5,tr:=n} (5,0,n) s)) (hp:=?_));exact .inr ⟨h5,s,rfl⟩
theorem yes9_is(b:Bool):Fn Try.prog 56 #[.bool b] [] [] (σ:=Unit) (fun _=>True) (fun _=> .int .i64 (Opt.yes b)) (fun _=>[]):=by
 refine Fn.enter (args:=[.bool b]) Try.func56 rfl _ Try.ntmps56 rfl (by simp[rd_excl,md_excl]) (fun w S=>?_);(refine Jn ?_)
 cases b
 all_goals (repeat(refine Jy ?_;try first|intro ao cap|intro b))
 all_goals ((refine End.done1_ (()) (he:=Jv) (hp:=?_)))
 all_goals trivial
theorem arr_le{α:Type}{iα:Inhabited α}{w:World}{L L':List Chunk}{ao:Option Addr}{n cap:Nat}{e:TypeId}{f:α→List Value}{ef:Enc f}{l:List α}(h:Mem w L)(t:Take (arr ao n cap e f l) L L'):n≤cap:=(arr_holds.1 (h.has t)).1.le
theorem Put.rcW{c:RC}(wo:Option Addr)(wc:Nat)(ws:List Int):Put (rcC c) 3 [.slice wo ws.length wc] (rcC {c with wo:=wo,wc:=wc,ws:=ws}):=by(repeat(first|exact Put.done|apply Put.take|apply Put.skip))
theorem put9_is(tb:Nat)(m:ML)(z:RT E)(hz:z.Wf)(hl:z.log.length≤2000000)(hw:z.cur.ws.length≤1000000)(v:Int):Fn Try.prog 52 #[ptr tb, .int .i64 v] [] (RM tb m z) (σ:=RT E) (PutR v z) (fun _=> .tuple #[]) (fun z'=>RM tb m z'):=by
 have hn:=hz.now;have hg:=hz.curGet;refine Fn.enter (args:=[ptr tb, .int .i64 v]) Try.func52 rfl _ Try.ntmps52 rfl (by simp[rd_excl,md_excl]) (fun w S=>?_);(refine Jn ?_);apply Cod.fact (z.cur.ws.length≤z.cur.wc) (fun w hm=>arr_le hm (show Take (rwM z.cur) _ _ from tk));intro hcap
 repeat(refine Jy ?_;try first|intro ao cap|intro b)
 rw[hg]
 by_cases h4:400≤z.cur.ws.length
 ·repeat(refine Jy ?_;try first|intro ao cap|intro b)
  (apply Run.op;exact rfl;refine JK (fall_is tb m z hl 4) ?_;intro s hs;(refine Jn ?_));obtain⟨z',rfl⟩:∃x,x=s:=⟨_,rfl⟩;have hp:PutR v z z':= .inl ⟨h4,hs⟩;rcases hs with⟨h5,rfl⟩|⟨h5,q,rfl⟩
  ·repeat(refine Jy ?_;try first|intro ao cap|intro b)
   (refine End.done0_ (z') (hp:=?_));exact hp
  ·repeat(refine Jy ?_;try first|intro ao cap|intro b)
   (refine End.done0_ ((RT.noted {z with st:=5,tr:=4} (5,0,4) q)) (hp:=?_));exact hp
 ·repeat(refine Jy ?_;try first|intro ao cap|intro b)
  apply Cod.draw 21 ([rtM z]) (by kernel_rfl) 22 rfl;refine JR 0 ?_;refine JR 1 ?_;refine JR 2 ?_;refine JR 3 ?_;refine JR 4 ?_;refine JR 5 ?_;refine JR 6 ?_;refine JR 7 ?_;refine JR 8 ?_;refine JR 9 ?_;refine JR 10 ?_;refine JR 11 ?_;refine JR 12 ?_;refine JR 13 ?_;refine JR 14 ?_;rw[hg];refine RunT.takeR_ 15 (hy:=by exact Still.cut3 (α:=Int) (iα:=inferInstance) (f:=i64c) rfl rfl rfl rfl rfl hcap rfl) (h:=?_);refine JR 16 ?_;(refine JT 17 ?_;(first|refine Jw ?_|(refine Jb ?_;intro b)|(refine Ja ?_;intro ao cap));refine And.intro gud ?_);refine RunT.imp (fun w hm=>hm.cut3 (show Take (rwM z.cur) _ _ from tk)) ?_;(refine JT 18 ?_;refine OpT.append1_ (a:=v) (k:=?_);intro ao cap;refine And.intro gud ?_;(refine Jn ?_));refine JR 19 ?_;refine JR 20 ?_;rw[snoc_len];(refine JT 21 ?_;refine OpT.storeE_ (f:=rcC) (l:=z.all) (i:=z.now) (off:=3) (vs:=[.slice ao (z.cur.ws ++[v]).length cap]) (a':=({z.cur with wo:=ao,wc:=cap,ws:=z.cur.ws ++[v]}:RC)) (hp:=by rw[hg];exact Put.rcW _ _ _) (k:=?_);refine And.intro gud ?_);(apply RunT.done;kernel_rfl);rw[←RT.all_cur]
  repeat(refine Jy ?_;try first|intro ao cap|intro b)
  (refine End.done0'_ ((z.setW ao cap (z.cur.ws ++[v]))) (hp:=?_));exact .inr ⟨by omega,ao,cap,rfl⟩
theorem take9_is(tb:Nat)(m:ML)(z:RT E)(hz:z.Wf)(n:Nat)(hn:n≤z.cur.ws.length)(hw:z.cur.ws.length≤1000000):Fn Try.prog 53 #[ptr tb, .int .i64 (n:Int)] [] (RM tb m z) (σ:=(Option Addr×Nat)×Option Addr×Nat) (fun _=>True) (fun s=> .slice s.2.1 n s.2.2) (fun s=>arr s.2.1 n s.2.2 2 i64c (z.cur.ws.drop (z.cur.ws.length-n))::RM tb m (z.took n s.1)):=by
 have hnow:=hz.now;have hg:=hz.curGet;refine Fn.enter (args:=[ptr tb, .int .i64 (n:Int)]) Try.func53 rfl _ Try.ntmps53 rfl (by simp[rd_excl,md_excl]) (fun w S=>?_);(refine Jn ?_);have w1:IntKind.i64.wrap ((z.cur.ws.length:Int)-(n:Int))=((z.cur.ws.length-n:Nat):Int):=by rw[wrap_i64_in (by omega)];omega
 repeat(refine Jy ?_;try first|intro ao cap|intro b)
 rw[hg,w1];(apply Run.op;exact rfl;refine OpT.cutV_ (f:=i64c) (l:=z.cur.ws) (k:=?_);intro xo xc hcut);obtain⟨nb,rfl⟩:∃x,x=b:=⟨_,rfl⟩;apply Run.imp (fun w hm=>hm.toArr (b:=nb) (tk) ([]:List Int) (f:=i64c) rfl rfl (by unfold maxLen;simp))
 repeat(refine Jy ?_;try first|intro ao cap|intro b)
 (apply Run.op;exact rfl;refine OpT.appendS_ (hr:=hcut _ (by exact Jr)) (k:=?_);intro lo lc)
 repeat(refine Jy ?_;try first|intro ao cap|intro b)
 rw[hg];(apply Run.op;exact rfl;refine OpT.cutA0_ (f:=i64c) (l:=z.cur.ws) (k:=?_);intro wo wc);have e1:(z.cur.ws.take (z.cur.ws.length-n)).length=z.cur.ws.length-n:=by simp
 have hA:arr wo (z.cur.ws.length-n) wc 2 i64c (z.cur.ws.take (z.cur.ws.length-n))=arr wo (z.cur.ws.take (z.cur.ws.length-n)).length wc 2 i64c (z.cur.ws.take (z.cur.ws.length-n)):=by rw[e1]
 have hP:=Put.rcW (c:=z.cur) wo wc (z.cur.ws.take (z.cur.ws.length-n));rw[e1]at hP
 repeat(refine Jy ?_;try first|intro ao cap|intro b)
 (apply Run.op;exact rfl;refine OpT.storeE_ (f:=rcC) (l:=z.all) (i:=z.now) (off:=3) (vs:=[.slice wo (z.cur.ws.length-n) wc]) (a':=({z.cur with wo:=wo,wc:=wc,ws:=z.cur.ws.take (z.cur.ws.length-n)}:RC)) (hp:=by rw[hg];exact hP) (k:=?_));rw[←RT.all_cur,hA,List.nil_append,List.take_length,show 0+(z.cur.ws.length-(z.cur.ws.length-n))=n by omega]
 repeat(refine Jy ?_;try first|intro ao cap|intro b)
 (refine End.done1_ (((wo,wc),lo,lc)) (he:=Jv) (hp:=?_));trivial
end Go.Proofs.Ytgnhfinabhimpaa.Vw


namespace Go.Proofs.Ytgnhfinabhimpaa.Vw
open Go.RowKit Go.Proofs.Ytgnhfinabhimpaa.Img
attribute [local irreducible] Run Cod End OpT Still RunQ RunS RunT Fn PutOk
variable{E:EnvR}
theorem begin_ws(M:ImgM.Mdl)(u:Nat)(a:List Int)(h:a.length≤(Vm.unt M u).locals.length):(Vm.begin M u a).ws=a ++List.replicate ((Vm.unt M u).locals.length-a.length) 0:=by
 unfold Vm.begin;refine List.ext_getElem (by simp;omega) fun i h1 h2=>?_
 simp only[List.getElem_map,List.getElem_range]
 by_cases hi:i<a.length
 ·rw[List.getElem_append_left hi,List.getD_eq_getElem?_getD,List.getElem?_eq_getElem hi];rfl
 ·rw[List.getElem_append_right (by omega),List.getElem_replicate,List.getD_eq_getElem?_getD,List.getElem?_eq_none (by omega)];rfl
abbrev frshR(u:Nat)(fb:Nat)(wo:Option Addr)(wc:Nat)(ws:List Int):RC:=⟨0,0,some ⟨fb,0,none⟩,1,[⟨u,0,0⟩],wo,wc,ws⟩
theorem thread_is(tb:Nat)(m:ML)(z:RT E)(u:Nat)(hu:u<m.us.length)(hl:(m.us.getD u default).u.locals.length≤1000)(ao:Option Addr)(n cap:Nat)(a:List Int)(ha:a.length=n)(hn:n≤(m.us.getD u default).u.locals.length):
  Fn Try.prog 50 #[ptr tb, .int .i64 (u:Int), .slice ao n cap] [md m,rd ao n cap i64c a] [rkM tb m z] (σ:=Nat×Option Addr×Nat) (fun _=>True) (fun s=> .agg (rcC (frshR u s.1 s.2.1 s.2.2 (Vm.begin m.mdl u a).ws)).toArray) (fun s=>[rkM tb m z,rfM (frshR u s.1 s.2.1 s.2.2 (Vm.begin m.mdl u a).ws),rwM (frshR u s.1 s.2.1 s.2.2 (Vm.begin m.mdl u a).ws)]):=by
 rw[begin_ws m.mdl u a (by rw[unt_us];omega),unt_us];generalize hL:(m.us.getD u default).u.locals.length=N at *;refine Fn.enter (args:=[ptr tb, .int .i64 (u:Int), .slice ao n cap]) Try.func50 rfl _ Try.ntmps50 rfl (by simp[rd_excl,md_excl]) (fun w S=>?_);(refine Jn ?_)
 repeat(refine Jy ?_;try first|intro ao cap|intro b)
 obtain⟨nb,rfl⟩:∃x,x=b:=⟨_,rfl⟩;obtain⟨rb,rfl⟩:∃x,x=b:=⟨_,rfl⟩;apply Run.imp (fun w hm=>hm.toArr (b:=nb) (tk) ([]:List Int) (f:=i64c) rfl rfl (by unfold maxLen;simp));(apply Run.op;exact rfl;refine OpT.appendS_ (l2:=a) (k:=?_);intro wo wc);rw[List.nil_append,Nat.zero_add];have e0:a=a ++List.replicate 0 0:=by simp
 have hA:arr wo n wc 2 i64c a=arr wo (n+0) wc 2 i64c (a ++List.replicate 0 0):=by rw[←e0,Nat.add_zero]
 repeat(refine Jy ?_;try first|intro ao cap|intro b)
 rw[hA];refine Cod.only ((fun k:Nat×Option Addr×Nat=>[old w S,md m,rkM tb m z,blk rb [.int .i64 0, .int .i64 0, .slice none 0 0, .slice none 0 0] 119,arr k.2.1 (n+k.1) k.2.2 2 i64c (a ++List.replicate k.1 0)]) (0,wo,wc)) (tks) ?_;apply Cod.loop (σ:=Nat×Option Addr×Nat) (fun k=>n+k.1≤N) (fun k=>[(0,ptr tb),(1, .int .i64 (u:Int)),(6,ptr rb),(7, .slice k.2.1 (n+k.1) k.2.2)]) (fun k:Nat×Option Addr×Nat=>[old w S,md m,rkM tb m z,blk rb [.int .i64 0, .int .i64 0, .slice none 0 0, .slice none 0 0] 119,arr k.2.1 (n+k.1) k.2.2 2 i64c (a ++List.replicate k.1 0)]) (fun k=>N-k.1) (0,wo,wc)
 rotate_left
 exact sb;exact tks;intro k hk K1 hK1;(refine Jn ?_)
 rotate_left
 ·exact hn
 obtain⟨k,wo1,wc1⟩:=k;simp only at hk hK1⊢
 by_cases hkN:n+k<N
 ·repeat(refine Jy ?_;try first|intro ao cap|intro b)
  have e1:a ++List.replicate k 0 ++[0]=a ++List.replicate (k+1) (0:Int):=by rw[List.replicate_succ',List.append_assoc]
  rw[e1];refine End.round0_ hK1 (k+1,ao,cap) ?_ ?_
  ·simp only;omega
  ·simp only;omega
 ·obtain rfl:N=n+k:=by omega
  subst ha;rw[show a.length+k-a.length=k by omega];have e2:a.length+k=(a ++List.replicate k (0:Int)).length:=by simp
  rw[e2]
  repeat(refine Jy ?_;try first|intro ao cap|intro b)
  apply End.imp (fun w hm=>Mem.toArr (iα:=inferInstance) (ef:=inferInstance) (b:=b) (f:=rfC) (n:=1) hm (tk) [(⟨u,0,0⟩:Vm.Fr)] rfl rfl (by unfold maxLen;simp));(refine End.doneC1_ ((b,wo1,wc1)) (he:=Jv) (hp:=?_));trivial
theorem at9_is(tb:Nat)(m:ML)(z:RT E)(hz:z.Wf)(hs:Vm.StandT m.mdl z.tk):Fn Try.prog 51 #[ptr tb] [md m] (RM tb m z) (σ:=Unit) (fun _=>True) (fun _=>insV (insR m z)) (fun _=>RM tb m z):=by
 have hn:=hz.now;have hg:=hz.curGet;have h1:=hs.fr;have h2:=hs.fr40;have h3:=hs.unit;have h4:=hs.pc;have h5:=hs.pc4;rw[hz.frs]at h1 h2;rw[hz.topF]at h3 h4 h5;rw[unt_us]at h4;have hul:m.mdl.units.length=m.us.length:=List.length_map _;rw[hul]at h3;have hl:0<z.cur.fr.length:=List.length_pos_iff.2 h1;have w1:IntKind.i64.wrap ((z.cur.fr.length:Int)-1)=((z.cur.fr.length-1:Nat):Int):=by rw[wrap_i64_in (by omega)];omega
 refine Fn.enter (args:=[ptr tb]) Try.func51 rfl _ Try.ntmps51 rfl (by simp[rd_excl,md_excl]) (fun w S=>?_);(refine Jn ?_)
 repeat(refine Jy ?_;try first|intro ao cap|intro b)
 apply Cod.draw 11 ([rkM tb m z,rtM z]) (by kernel_rfl) 12 rfl;refine JR 0 ?_;refine JR 1 ?_;refine JR 2 ?_;refine JR 3 ?_;refine JR 4 ?_;refine JR 5 ?_;refine JR 6 ?_;refine JR 7 ?_;refine JR 8 ?_;refine JR 9 ?_;rw[hg];(refine JT 10 ?_;(first|refine Jw ?_|(refine Jb ?_;intro b)|(refine Ja ?_;intro ao cap));refine And.intro gud ?_);(refine JT 11 ?_;(first|refine Jw ?_|(refine Jb ?_;intro b)|(refine Ja ?_;intro ao cap));refine And.intro gud ?_);(apply RunT.done;kernel_rfl)
 repeat(refine Jy ?_;try first|intro ao cap|intro b)
 (refine End.doneC1_ (()) (he:=Jv) (hp:=?_));trivial
end Go.Proofs.Ytgnhfinabhimpaa.Vw


namespace Go.Proofs.Ytgnhfinabhimpaa.Vw
open Go.RowKit Go.Proofs.Ytgnhfinabhimpaa.Img
attribute [local irreducible] Run Cod End OpT Still RunQ RunS RunT Fn PutOk
variable{E:EnvR}
theorem StandT.st{M:ImgM.Mdl}{t:Vm.Tk}(h:Vm.StandT M t)(a b:Int):Vm.StandT M {t with st:=a,bx:=b}:=⟨h.fr,h.fr40,h.ws,h.unit,h.pc,h.pc4,h.now,h.few,h.st,h.box,h.lens,h.sts⟩
set_option maxHeartbeats 1000000 in
theorem look9_is(tb:Nat)(m:ML)(hb:E.boxes=m.bx.length)(z:RT E)(hz:z.Wf)(hs:z.st≤3→Vm.StandT m.mdl z.tk):Fn Try.prog 25 #[ptr tb,E.mailV] [md m,E.rc] (RM tb m z) (σ:=Unit) (fun _=>True) (fun _=> .tuple #[]) (fun _=>RM tb m (z.look m)):=by
 rcases hz.st with h3|h4|h4
 ·have hs:=hs h3;have e0:z.look m={z with st:=z.wst (insR m z),bx:=z.wbx (insR m z)}:=by unfold RT.look;rw[if_pos h3]
  rw[e0];have hbx:=hs.box;rw[hz.ins]at hbx;have hml:m.mdl.boxes.length=m.bx.length:=rfl;rw[hml,←hb]at hbx;obtain⟨i,hi⟩:∃i,i=insR m z:=⟨_,rfl⟩;have hat:=at9_is tb m {z with st:=1,bx:=0} ⟨hz.now,hz.few,hz.env, .inl (by show(1:Int)≤3;omega)⟩ (StandT.st hs 1 0);rw[show insR m {z with st:=1,bx:=0}=i from hi.symm]at hat;rw[←hi]at hbx⊢;clear hi e0;refine Fn.enter (args:=[ptr tb,E.mailV]) Try.func25 rfl _ Try.ntmps25 rfl (by simp[rd_excl,md_excl]) (fun w S=>?_);(refine Jn ?_)
  repeat(refine Jy ?_;try first|intro ao cap|intro b)
  (apply Run.op;exact rfl;refine JK (hat) ?_;intro s hs;(refine Jn ?_))
  repeat(refine Jy ?_;try first|intro ao cap|intro b)
  obtain⟨ib,rfl⟩:∃x,x=b:=⟨_,rfl⟩
  by_cases h26:i.op=26
  ·obtain⟨ha,hlt⟩:=hbx (.inl h26);have hf:=E.room z.e i.a.toNat hz.env hlt;rw[Int.toNat_of_nonneg ha]at hf
   repeat(refine Jy ?_;try first|intro ao cap|intro b)
   (refine Jc ?_;refine OpT.callM_ (E.mRoom) (E.bRoom) (hf) (r:=fun w=>Reads.any (tk) E.rexcl .nil) (k:=?_);intro s hs;(refine Jn ?_))
   cases hv:E.V.full (E.abs z.e) i.a.toNat with
   |true=>
    have e1:z.wst i=2:=by unfold RT.wst;rw[if_pos ⟨h26,hv⟩]
    have e2:z.wbx i=i.a:=by unfold RT.wbx;rw[if_pos ⟨h26,hv⟩]
    rw[e1,e2]
    repeat(refine Jy ?_;try first|intro ao cap|intro b)
    apply Cod.draw 9 ([blk ib (insC i) 49]) (by kernel_rfl) 10 rfl;refine JR 0 ?_;refine JR 1 ?_;refine JR 2 ?_;refine JR 3 ?_;refine JR 4 ?_;refine JR 5 ?_;(refine JT 6 ?_;(first|refine Jw ?_|(refine Jb ?_;intro b)|(refine Ja ?_;intro ao cap));refine And.intro gud ?_);refine JR 7 ?_;refine JR 8 ?_;(refine JT 9 ?_;(first|refine Jw ?_|(refine Jb ?_;intro b)|(refine Ja ?_;intro ao cap));refine And.intro gud ?_);(apply RunT.done;kernel_rfl)
    repeat(refine Jy ?_;try first|intro ao cap|intro b)
    (refine End.done0'_ (()) (hp:=?_));trivial
   |false=>
    have e1:z.wst i=1:=by unfold RT.wst;rw[if_neg (by rw[hv];simp),if_neg (by omega)]
    have e2:z.wbx i=0:=by unfold RT.wbx;rw[if_neg (by rw[hv];simp),if_neg (by omega)]
    rw[e1,e2]
    repeat(refine Jy ?_;try first|intro ao cap|intro b)
    (refine End.done0'_ (()) (hp:=?_));trivial
  ·by_cases h27:i.op=27
   ·obtain⟨ha,hlt⟩:=hbx (.inr h27);have hf:=E.some z.e i.a.toNat hz.env hlt;rw[Int.toNat_of_nonneg ha]at hf
    repeat(refine Jy ?_;try first|intro ao cap|intro b)
    (refine Jc ?_;refine OpT.callM_ (E.mSome) (E.bSome) (hf) (r:=fun w=>Reads.any (tk) E.rexcl .nil) (k:=?_);intro s hs;(refine Jn ?_))
    cases hv:E.V.empty (E.abs z.e) i.a.toNat with
    |true=>
     have e1:z.wst i=3:=by unfold RT.wst;rw[if_neg (by omega),if_pos ⟨h27,hv⟩]
     have e2:z.wbx i=i.a:=by unfold RT.wbx;rw[if_neg (by omega),if_pos ⟨h27,hv⟩]
     rw[e1,e2]
     repeat(refine Jy ?_;try first|intro ao cap|intro b)
     apply Cod.draw 9 ([blk ib (insC i) 49]) (by kernel_rfl) 10 rfl;refine JR 0 ?_;refine JR 1 ?_;refine JR 2 ?_;refine JR 3 ?_;refine JR 4 ?_;refine JR 5 ?_;(refine JT 6 ?_;(first|refine Jw ?_|(refine Jb ?_;intro b)|(refine Ja ?_;intro ao cap));refine And.intro gud ?_);refine JR 7 ?_;refine JR 8 ?_;(refine JT 9 ?_;(first|refine Jw ?_|(refine Jb ?_;intro b)|(refine Ja ?_;intro ao cap));refine And.intro gud ?_);(apply RunT.done;kernel_rfl)
     repeat(refine Jy ?_;try first|intro ao cap|intro b)
     (refine End.done0'_ (()) (hp:=?_));trivial
    |false=>
     have e1:z.wst i=1:=by unfold RT.wst;rw[if_neg (by omega),if_neg (by rw[hv];simp)]
     have e2:z.wbx i=0:=by unfold RT.wbx;rw[if_neg (by omega),if_neg (by rw[hv];simp)]
     rw[e1,e2]
     repeat(refine Jy ?_;try first|intro ao cap|intro b)
     (refine End.done0'_ (()) (hp:=?_));trivial
   ·have e1:z.wst i=1:=by unfold RT.wst;rw[if_neg (by omega),if_neg (by omega)]
    have e2:z.wbx i=0:=by unfold RT.wbx;rw[if_neg (by omega),if_neg (by omega)]
    rw[e1,e2]
    repeat(refine Jy ?_;try first|intro ao cap|intro b)
    (refine End.done0'_ (()) (hp:=?_));trivial
 ·have e0:z.look m=z:=by unfold RT.look;rw[if_neg (by omega)]
  rw[e0];refine Fn.enter (args:=[ptr tb,E.mailV]) Try.func25 rfl _ Try.ntmps25 rfl (by simp[rd_excl,md_excl]) (fun w S=>?_);(refine Jn ?_)
  repeat(refine Jy ?_;try first|intro ao cap|intro b)
  (refine End.done0_ (()) (hp:=?_));trivial
 ·have e0:z.look m=z:=by unfold RT.look;rw[if_neg (by omega)]
  rw[e0];refine Fn.enter (args:=[ptr tb,E.mailV]) Try.func25 rfl _ Try.ntmps25 rfl (by simp[rd_excl,md_excl]) (fun w S=>?_);(refine Jn ?_)
  repeat(refine Jy ?_;try first|intro ao cap|intro b)
  (refine End.done0_ (()) (hp:=?_));trivial
end Go.Proofs.Ytgnhfinabhimpaa.Vw


namespace Go.Proofs.Ytgnhfinabhimpaa.Vw
open Go.RowKit Go.Proofs.Ytgnhfinabhimpaa.Img
attribute [local irreducible] Run Cod End OpT Still RunQ RunS RunT Fn PutOk
theorem truth_is(t:Bool):Fn Try.prog 76 #[.bool t] [] [] (σ:=Unit) (fun _=>True) (fun _=> .int .i64 (Opt.yes t)) (fun _=>[]):=by
 refine Fn.enter (args:=[.bool t]) Try.func76 rfl _ Try.ntmps76 rfl (by simp[rd_excl,md_excl]) (fun w S=>?_);(refine Jn ?_)
 cases t with
 |true=>
  repeat(refine Jy ?_;try first|intro ao cap|intro b)
  (refine End.done1_ (()) (he:=Jv) (hp:=?_));trivial
 |false=>
  repeat(refine Jy ?_;try first|intro ao cap|intro b)
  (refine End.done1_ (()) (he:=Jv) (hp:=?_));trivial
theorem min_div1{op:Int}(h:op=11)(a:Int)(ha:a= -9223372036854775808):IntKind.i64.wrap (Opt.yes (decide (op=11))*a)=a:=by
 subst ha h;decide
theorem min_div2{op:Int}(h:op=12)(a:Int)(ha:a= -9223372036854775808):IntKind.i64.wrap (Opt.yes (decide (op=11))*a)=0:=by
 subst ha h;decide
set_option maxHeartbeats 1000000 in
theorem two2_is(op a b:Int)(ha:ImgM.In64 a)(hb:ImgM.In64 b)(h0:op=11∨op=12→b≠0):Fn Try.prog 44 #[.int .i64 op, .int .i64 a, .int .i64 b] [] [] (σ:=Unit) (fun _=>True) (fun _=> .int .i64 (Opt.two2 op a b)) (fun _=>[]):=by
 unfold ImgM.In64 at ha hb;refine Fn.enter (args:=[.int .i64 op, .int .i64 a, .int .i64 b]) Try.func44 rfl _ Try.ntmps44 rfl (by simp[rd_excl,md_excl]) (fun w S=>?_);(refine Jn ?_)
 repeat' (first|(refine Jc ?_;refine OpT.call0_ (spec:=truth_is _) (k:=?_);intro s hs;(refine Jn ?_))|(apply Run.op;exact rfl;refine OpT.val_ (h:=by(apply Still.quo;exact rfl;exact rfl;(exact h0 (by omega));exact rfl)) (k:=?_))|(apply Run.op;exact rfl;refine OpT.val_ (h:=by(apply Still.rem;exact rfl;exact rfl;(exact h0 (by omega));exact rfl)) (k:=?_))|refine Jo ?_|(refine JB ?_;intro b)|(refine JA ?_;intro ao cap)|refine goQ (k:=fun h=>?_) (k':=fun h=>?_)|fail)
 all_goals ((refine End.done1_ (()) (he:=by(refine int_eq ?_;unfold Opt.two2;(repeat(first|rw[if_neg (by omega)]|rw[if_pos (by omega)]));first|done|(refine min_div1 (op:=op) ?_ _ ?_<;>first|assumption|omega)|(refine min_div2 (op:=op) ?_ _ ?_<;>first|assumption|omega))) (hp:=?_));trivial)
theorem yes_in64(b:Bool):ImgM.In64 (Opt.yes b):=by cases b<;>(unfold ImgM.In64 Opt.yes;omega)
end Go.Proofs.Ytgnhfinabhimpaa.Vw


namespace Go.Proofs.Ytgnhfinabhimpaa.Vw
open Go.RowKit Go.Proofs.Ytgnhfinabhimpaa.Img
theorem two_11m{op a b:Int}(h:op=11)(hb:b= -1):IntKind.i64.wrap (0-a)=Opt.two2 op a b:=by
 subst h hb;unfold Opt.two2;rw[if_neg (by decide),if_neg (by decide),if_neg (by decide),if_pos (by decide)]
 by_cases ha:a= -9223372036854775808
 ·rw[if_pos ⟨ha,rfl⟩,if_pos rfl,ha];decide
 ·rw[if_neg (fun h=>ha h.1),if_pos rfl,Int.tdiv_neg,Int.tdiv_one,Int.zero_sub]
theorem two_12m{op a b:Int}(h:op=12)(hb:b= -1):0=Opt.two2 op a b:=by
 subst h hb;unfold Opt.two2;rw[if_neg (by decide),if_neg (by decide),if_neg (by decide),if_pos (by decide)]
 by_cases ha:a= -9223372036854775808
 ·rw[if_pos ⟨ha,rfl⟩,if_neg (by decide)]
 ·rw[if_neg (fun h=>ha h.1),if_neg (by decide),Int.tmod_neg,Int.tmod_one]
theorem two_11n{op a b:Int}(h:op=11)(hb:¬b= -1):IntKind.i64.wrap (a.tdiv b)=Opt.two2 op a b:=by
 subst h;unfold Opt.two2;rw[if_neg (by decide),if_neg (by decide),if_neg (by decide),if_pos (by decide),if_neg (fun h=>hb h.2),if_pos rfl]
theorem two_12n{op a b:Int}(h:op=12)(hb:¬b= -1):a.tmod b=Opt.two2 op a b:=by
 subst h;unfold Opt.two2;rw[if_neg (by decide),if_neg (by decide),if_neg (by decide),if_pos (by decide),if_neg (fun h=>hb h.2),if_neg (by decide)]
theorem two_19m{op a b:Int}(h:op=19)(ha:a=0∨a=1)(hb:b=0∨b=1):IntKind.i64.wrap (a*b)=Opt.two2 op a b:=by
 subst h;rcases ha with rfl|rfl<;>rcases hb with rfl|rfl<;>decide
theorem two_20m{op a b:Int}(h:op=20)(ha:a=0∨a=1)(hb:b=0∨b=1):Opt.yes (decide (0<a+b))=Opt.two2 op a b:=by
 subst h;rcases ha with rfl|rfl<;>rcases hb with rfl|rfl<;>decide
section
variable{E:EnvR}
def TwoR(op a b:Int)(z z':RT E):Prop:=if(op=11∨op=12)∧b=0 then FellR 1 z z' else PutR (Opt.two2 op a b) z z'
theorem TwoR.put{op a b v:Int}{z z':RT E}(h:PutR v z z')(hn:¬((op=11∨op=12)∧b=0))(e:v=Opt.two2 op a b):TwoR op a b z z':=by
 unfold TwoR;rw[if_neg hn,←e];exact h
theorem TwoR.fell{op a b:Int}{z z':RT E}(h:FellR 1 z z')(hn:(op=11∨op=12)∧b=0):TwoR op a b z z':=by
 unfold TwoR;rw[if_pos hn];exact h
end
attribute [local irreducible] Run Cod End OpT Still RunQ RunS RunT Fn PutOk
variable{E:EnvR}
set_option maxHeartbeats 2000000 in
theorem two9_is(tb:Nat)(m:ML)(z:RT E)(hz:z.Wf)(hl:z.log.length≤2000000)(hw:z.cur.ws.length≤1000000)(op a b:Int)(hop:8≤op∧op≤20)(h01:18<op→(a=0∨a=1)∧(b=0∨b=1)):
  Fn Try.prog 57 #[ptr tb, .int .i64 op, .int .i64 a, .int .i64 b] [] (RM tb m z) (σ:=RT E) (TwoR op a b z) (fun _=> .tuple #[]) (fun z'=>RM tb m z'):=by
 obtain⟨g1,g2⟩:=hop
 by_cases hb0:(op=11∨op=12)∧b=0
 ·obtain⟨h1,h2⟩:=hb0;refine Fn.enter (args:=[ptr tb, .int .i64 op, .int .i64 a, .int .i64 b]) Try.func57 rfl _ Try.ntmps57 rfl (by simp[rd_excl,md_excl]) (fun w S=>?_);(refine Jn ?_);rcases h1 with h1|h1
  all_goals (repeat(refine Jy ?_;try first|intro ao cap|intro b))
  all_goals (((apply Run.op;exact rfl;refine JK (fall_is tb m z hl 1) ?_;intro s hs;(refine Jn ?_))))
  all_goals (obtain⟨z',rfl⟩:∃x,x=s:=⟨_,rfl⟩)
  all_goals (have hp:TwoR op a b z z':=TwoR.fell hs ⟨by omega,h2⟩)
  all_goals (rcases hs with⟨h5,rfl⟩|⟨h5,q,rfl⟩)
  all_goals (repeat(refine Jy ?_;try first|intro ao cap|intro b))
  all_goals (first|((refine End.done0_ (z') (hp:=?_)))|((refine End.done0_ ((RT.noted {z with st:=5,tr:=1} (5,0,1) q)) (hp:=?_))))
  all_goals exact hp
 ·have hq:op=11∨op=12→b≠0:=fun h h'=>hb0 ⟨h,h'⟩
  refine Fn.enter (args:=[ptr tb, .int .i64 op, .int .i64 a, .int .i64 b]) Try.func57 rfl _ Try.ntmps57 rfl (by simp[rd_excl,md_excl]) (fun w S=>?_);(refine Jn ?_)
  repeat' (first|(refine Jc ?_;refine OpT.call0_ (spec:=yes9_is _) (k:=?_);intro s hs;(refine Jn ?_))|(refine Jc ?_;refine OpT.call0_ (spec:=put9_is tb m z hz hl hw _) (k:=?_);intro s hs;(refine Jn ?_))|(refine RunQ.val_ (h:=by(apply Still.quo;exact rfl;exact rfl;(exact hq (by omega));exact rfl)) (k:=?_))|(refine RunQ.val_ (h:=by(apply Still.rem;exact rfl;exact rfl;(exact hq (by omega));exact rfl)) (k:=?_))|refine Jo ?_|(refine JB ?_;intro b)|(refine JA ?_;intro ao cap)|refine goQ (k:=fun h=>?_) (k':=fun h=>?_)|fail)
  all_goals ((refine End.done0'_ (s) (hp:=?_)))
  all_goals (refine TwoR.put hs hb0 ?_)
  all_goals (first|exact two_11m (by omega) (by omega)|exact two_12m (by omega) (by omega)|exact two_11n (by omega) (by omega)|exact two_12n (by omega) (by omega)|exact two_19m (by omega) (h01 (by omega)).1 (h01 (by omega)).2|exact two_20m (by omega) (h01 (by omega)).1 (h01 (by omega)).2|(unfold Opt.two2;(repeat(first|rw[if_neg (by omega)]|rw[if_pos (by omega)]))))
end Go.Proofs.Ytgnhfinabhimpaa.Vw


namespace Go.Proofs.Ytgnhfinabhimpaa.Vw
open Go.RowKit Go.Proofs.Ytgnhfinabhimpaa.Img
theorem arr_flat{α:Type}{iα:Inhabited α}{ao:Option Addr}{n cap:Nat}{e:TypeId}{f:α→List Value}{ef:Enc f}{l l':List α}(h:l.flatMap f=l'.flatMap f)(hl:l.length=l'.length):arr ao n cap e f l=arr ao n cap e f l':=by
 unfold arr;simp only[h,hl]
theorem flat_set{l:List RC}{k:Nat}{c:RC}(hk:k<l.length)(h:rcC c=rcC (l.getD k default)):(l.set k c).flatMap rcC=l.flatMap rcC:=by
 induction l generalizing k with
 |nil=>rfl
 |cons a r ih=>
  cases k with
  |zero=>
   rw[List.set_cons_zero,List.flatMap_cons,List.flatMap_cons,h];rfl
  |succ k=>
   rw[List.set_cons_succ,List.flatMap_cons,List.flatMap_cons,ih (by simpa using hk) h]
section
variable{E:EnvR}{z:RT E}
theorem Mem.frs{w:World}{L F:List Chunk}(hz:z.Wf){fr':List Vm.Fr}(hl:fr'.length=z.cur.fr.length)(h:Mem w L)(t:Takes [rtM z,arr z.cur.fo z.cur.fr.length z.cur.fc 127 rfC fr'] L F):Mem w (rtM (z.to_ {z.cur with fr:=fr'})::rfM {z.cur with fr:=fr'}::F):=by
 have e1:rtM (z.to_ {z.cur with fr:=fr'})=rtM z:=by
  show arr z.to z.oth.length z.tc 119 rcC (z.to_ {z.cur with fr:=fr'}).all=_;rw[RT.all_cur];refine arr_flat (flat_set (by rw[z.allLen];exact hz.now) ?_) (by simp);rw[hz.curGet];unfold rcC;simp only[hl]
 have e2:rfM {z.cur with fr:=fr'}=arr z.cur.fo z.cur.fr.length z.cur.fc 127 rfC fr':=by
  show arr z.cur.fo fr'.length z.cur.fc 127 rfC fr'=_;rw[hl]
 rw[e1,e2];exact h.takes t
theorem Mem.wds{w:World}{L F:List Chunk}(hz:z.Wf){ws':List Int}(hl:ws'.length=z.cur.ws.length)(h:Mem w L)(t:Takes [rtM z,arr z.cur.wo z.cur.ws.length z.cur.wc 2 i64c ws'] L F):Mem w (rtM (z.to_ {z.cur with ws:=ws'})::rwM {z.cur with ws:=ws'}::F):=by
 have e1:rtM (z.to_ {z.cur with ws:=ws'})=rtM z:=by
  show arr z.to z.oth.length z.tc 119 rcC (z.to_ {z.cur with ws:=ws'}).all=_;rw[RT.all_cur];refine arr_flat (flat_set (by rw[z.allLen];exact hz.now) ?_) (by simp);rw[hz.curGet];unfold rcC;simp only[hl]
 have e2:rwM {z.cur with ws:=ws'}=arr z.cur.wo z.cur.ws.length z.cur.wc 2 i64c ws':=by
  show arr z.cur.wo ws'.length z.cur.wc 2 i64c ws'=_;rw[hl]
 rw[e1,e2];exact h.takes t
abbrev RT.mvd(z:RT E):RT E:=z.to_ {z.cur with fr:=z.cur.fr.set (z.cur.fr.length-1) ⟨z.f.unit,z.f.pc+1,z.f.base⟩}
theorem RT.Wf.pc_tk(h:z.Wf)(p:Nat):(z.to_ {z.cur with fr:=z.cur.fr.set (z.cur.fr.length-1) ⟨z.f.unit,p,z.f.base⟩}).tk=Vm.setPc p z.tk:=by
 unfold Vm.setPc Vm.setTop;rw[h.topF,h.cur,RT.tk_cur];rfl
theorem RT.Wf.mvd_tk(h:z.Wf):z.mvd.tk=Vm.mvd z.tk:=by
 unfold Vm.mvd;rw[h.topF];exact h.pc_tk _
theorem RT.Wf.mvd_two(h:z.Wf):z.mvd.two=(Vm.mvd z.tk,(E.abs z.e,z.log)):=by
 unfold RT.two;rw[h.mvd_tk]
theorem RT.Wf.step_two{z:RT E}(hz:z.Wf)(m:ML)(h1:(z.look m).st=1):Vm.step E.W m.mdl z.two=(true,Vm.look E.W m.mdl (Vm.exec E.W m.mdl (insR m (z.look m)) (z.look m).mvd.two)):=by
 have hl:=hz.look m;unfold Vm.step;rw[←hz.look_two m,hl.mvd_two];have e1:Vm.insT m.mdl (z.look m).two.1=insR m (z.look m):=hl.ins m;dsimp only;rw[e1];exact if_neg (fun h=>h h1)
theorem look_st1{z:RT E}{m:ML}(hz:z.Wf)(h1:(z.look m).st=1):z.st≤3:=by
 rcases hz.st with h|h|h
 ·exact h
 all_goals (unfold RT.look at h1;rw[if_neg (by omega)]at h1;omega)
theorem look_stand{z:RT E}{m:ML}(h:Vm.StandT m.mdl z.tk):Vm.StandT m.mdl (z.look m).tk:=by
 unfold RT.look
 split
 ·exact StandT.st h _ _
 ·exact h
theorem CanT.same{M:ImgM.Mdl}{t t':Vm.Tk}{i:ImgM.Ins}(h:Vm.CanT M t i)(hw:(Vm.cur t').ws=(Vm.cur t).ws)(hb:(Vm.topF (Vm.cur t')).base=(Vm.topF (Vm.cur t)).base)(hu:(Vm.cur t').up=(Vm.cur t).up)(hn:t'.now=t.now)(hl:t'.cs.length=t.cs.length):Vm.CanT M t' i:=by
 obtain⟨a1,a2,a3,a4,a5,a6,a7,a8,a9,b1,b2,b3,b4,b5⟩:=h;have e1:Vm.wl t'=Vm.wl t:=by unfold Vm.wl;rw[hw]
 have e2:∀n,Vm.topW t' n=Vm.topW t n:=fun n=>by unfold Vm.topW Vm.wl;rw[hw]
 refine⟨?_,?_,?_,?_,a5,a6,fun h=>?_,?_,?_,?_,?_,?_,b4,b5⟩
 ·rw[e1];exact a1
 ·rw[e1,e2,e2];exact a2
 ·rw[e1,hb];exact a3
 ·rw[e1,hb];exact a4
 ·obtain⟨c1,c2,c3,c4,c5,c6⟩:=a7 h;exact⟨c1,c2,c3,by rw[e1];exact c4,c5,c6⟩
 ·rw[e1,hb];exact a8
 ·rw[hu,hn,hl];exact a9
 ·rw[e1,e2,hl];exact b1
 ·rw[e1,hu,hn,hl];exact b2
 ·rw[e1,e2,hl];exact b3
theorem mvd_can{z:RT E}(hz:z.Wf)(hf:z.cur.fr≠[]){M:ImgM.Mdl}{i:ImgM.Ins}(h:Vm.CanT M z.tk i):Vm.CanT M z.mvd.tk i:=by
 have hm:z.mvd.Wf:=hz.to_ _;have hl:0<z.cur.fr.length:=List.length_pos_iff.2 hf;refine CanT.same h (by rw[hm.ws,hz.ws]) ?_ (by rw[hm.cur,hz.cur];rfl) rfl (by rw[RT.tkLen,RT.tkLen]);rw[hm.topF,hz.topF];show((z.cur.fr.set (z.cur.fr.length-1) _).getD ((z.cur.fr.set (z.cur.fr.length-1) _).length-1) default).base=_;rw[List.length_set,List.getD_eq_getElem?_getD,List.getElem?_set_self (by omega)];rfl
abbrev AfterR(m:ML)(z:RT E)(i:ImgM.Ins):Prop:=∀z2:RT E,z2.Wf→z2.two=Vm.exec E.W m.mdl i z.two→z2.st≤3→Vm.StandT m.mdl z2.tk
structure CanR(m:ML)(z:RT E):Prop where
 boxes:E.boxes=m.bx.length
 stand:Vm.StandT m.mdl z.tk
 can:Vm.CanT m.mdl (z.look m).mvd.tk (insR m (z.look m))
 log:z.log.length≤1000000
 out:z.out.length≤1000000
 size:E.size (E.abs z.e)≤1000000
 after:AfterR m (z.look m).mvd (insR m (z.look m))
end
end Go.Proofs.Ytgnhfinabhimpaa.Vw


namespace Go.Proofs.Ytgnhfinabhimpaa.Vw
open Go.RowKit Go.Proofs.Ytgnhfinabhimpaa.Img
attribute [local irreducible] Run Cod End OpT Still RunQ RunS RunT Fn PutOk
variable{E:EnvR}
theorem look_log(z:RT E)(m:ML):(z.look m).log=z.log:=by unfold RT.look;split<;>rfl
theorem look_out(z:RT E)(m:ML):(z.look m).out=z.out:=by unfold RT.look;split<;>rfl
theorem look_e(z:RT E)(m:ML):(z.look m).e=z.e:=by unfold RT.look;split<;>rfl
theorem look_free{z:RT E}{m:ML}(hz:z.Wf)(h1:(z.look m).st=1):((insR m (z.look m)).op=26→E.V.full (E.abs (z.look m).e) (insR m (z.look m)).a.toNat=false)∧((insR m (z.look m)).op=27→E.V.empty (E.abs (z.look m).e) (insR m (z.look m)).a.toNat=false):=by
 have h3:=look_st1 hz h1;unfold RT.look at h1⊢;simp only[if_pos h3]at h1⊢;unfold RT.wst at h1;have e:∀a b,insR m {z with st:=a,bx:=b}=insR m z:=fun a b=>rfl
 simp only[e];refine⟨fun h=>?_,fun h=>?_⟩
 ·cases hv:E.V.full (E.abs z.e) (insR m z).a.toNat with
  |false=>rfl
  |true=>rw[if_pos ⟨h,hv⟩]at h1;omega
 ·cases hv:E.V.empty (E.abs z.e) (insR m z).a.toNat with
  |false=>rfl
  |true=>rw[if_neg (by omega),if_pos ⟨h,hv⟩]at h1;omega
theorem mvd_base{z:RT E}(h:0<z.cur.fr.length):z.mvd.f.base=z.f.base:=by
 show((z.cur.fr.set (z.cur.fr.length-1) _).getD ((z.cur.fr.set (z.cur.fr.length-1) _).length-1) default).base=_;rw[List.length_set,List.getD_eq_getElem?_getD,List.getElem?_set_self (by omega)];rfl
theorem mvd_unit{z:RT E}(h:0<z.cur.fr.length):z.mvd.f.unit=z.f.unit:=by
 show((z.cur.fr.set (z.cur.fr.length-1) _).getD ((z.cur.fr.set (z.cur.fr.length-1) _).length-1) default).unit=_;rw[List.length_set,List.getD_eq_getElem?_getD,List.getElem?_set_self (by omega)];rfl
abbrev StepF(tb:Nat)(m:ML)(z:RT E):Prop:=Fn Try.prog 26 #[ptr tb,E.mailV] [md m,E.rc] (RM tb m z) (σ:=RT E) (GivesR (Vm.step E.W m.mdl z.two).2) (fun _=> .bool (Vm.step E.W m.mdl z.two).1) (fun z'=>RM tb m z')
set_option maxHeartbeats 2000000 in
theorem step9_1(tb:Nat)(m:ML)(z:RT E)(hz:z.Wf)(hk:CanR m z)(h1:(z.look m).st=1)(hop:(insR m (z.look m)).op=1∨(insR m (z.look m)).op=2∨(insR m (z.look m)).op=3):StepF tb m z:=by
 unfold StepF;have hz0:=hz.look m;have hs0:=look_stand (m:=m) hk.stand;have hstep:=hz.step_two m h1;have hc:=hk.can;have ha:=hk.after;have hlog:(z.look m).log.length≤1000000:=by rw[look_log];exact hk.log
 have hout:(z.look m).out.length≤1000000:=by rw[look_out];exact hk.out
 have hsize:E.size (E.abs (z.look m).e)≤1000000:=by rw[look_e];exact hk.size
 have hbx:=hk.boxes;have hlk:=look9_is tb m hk.boxes z hz (fun _=>hk.stand);have hfree:=look_free hz h1;rw[hstep];obtain⟨z0,hz0e⟩:∃x,x=z.look m:=⟨_,rfl⟩;rw[←hz0e]at hz0 hs0 hc ha hlog hout hsize hlk hop h1 hfree⊢;clear hstep hz0e hk;have hn:=hz0.now;have hg:=hz0.curGet;have hfr:=hs0.fr;rw[hz0.frs]at hfr;have hfl:0<z0.cur.fr.length:=List.length_pos_iff.2 hfr;have hf40:=hs0.fr40;rw[hz0.frs]at hf40;have hws:=hs0.ws;rw[hz0.ws]at hws;have hpc:=hs0.pc4;rw[hz0.topF]at hpc;have w1:IntKind.i64.wrap ((z0.cur.fr.length:Int)-1)=((z0.cur.fr.length-1:Nat):Int):=by rw[wrap_i64_in (by omega)];omega
 have w2:IntKind.i64.wrap ((z0.f.pc:Int)+1)=((z0.f.pc+1:Nat):Int):=by rw[wrap_i64_in (by omega)];omega
 refine Fn.enter (args:=[ptr tb,E.mailV]) Try.func26 rfl _ Try.ntmps26 rfl (by simp[rd_excl,md_excl]) (fun w S=>?_);(refine Jn ?_)
 repeat(refine Jy ?_;try first|intro ao cap|intro b)
 (refine Jc ?_;refine OpT.call0_ (spec:=hlk) (r:=fun w=>Jm) (k:=?_);intro s hs;(refine Jn ?_))
 repeat(refine Jy ?_;try first|intro ao cap|intro b)
 (refine Jc ?_;refine OpT.call0_ (spec:=at9_is tb m z0 hz0 hs0) (r:=fun w=>Reads.md (tk) .nil) (k:=?_);intro s hs;(refine Jn ?_))
 repeat(refine Jy ?_;try first|intro ao cap|intro b)
 obtain⟨ib,rfl⟩:∃x,x=b:=⟨_,rfl⟩;rw[hg]
 repeat(refine Jy ?_;try first|intro ao cap|intro b)
 rw[w1,Int.toNat_natCast,w2];(apply Run.op;exact rfl;refine OpT.storeE_ (f:=rfC) (l:=z0.cur.fr) (i:=z0.cur.fr.length-1) (off:=1) (vs:=[.int .i64 ((z0.f.pc+1:Nat):Int)]) (a':=(⟨z0.f.unit,z0.f.pc+1,z0.f.base⟩:Vm.Fr)) (k:=?_));apply Run.nil;apply End.seqN;refine Cod.sub [(0,ptr tb),(1,E.mailV),(4, .bool false),(5,ptr ib),(6, .pointer (place (sz rcC) z0.to z0.now 0)),(7, .pointer (place (sz rfC) z0.cur.fo (z0.cur.fr.length-1) 0)),(8, .int .i64 (z0.f.base:Int))] (Ju) ?_;apply Cod.imp (fun w hm=>Mem.frs hz0 (fr':=z0.cur.fr.set (z0.cur.fr.length-1) ⟨z0.f.unit,z0.f.pc+1,z0.f.base⟩) (by rw[List.length_set]) hm (tks));refine Cod.only (old w S::md m::E.rc::blk ib (insC (insR m z0)) 49::RM tb m z0.mvd) (tks) ?_;have hz1:z0.mvd.Wf:=hz0.to_ _;have e1:z0.mvd.cur.fr.length=z0.cur.fr.length:=List.length_set;rw[show place (sz rcC) z0.to z0.now 0=place (sz rcC) z0.mvd.to z0.mvd.now 0 from rfl,show place (sz rfC) z0.cur.fo (z0.cur.fr.length-1) 0=place (sz rfC) z0.mvd.cur.fo (z0.mvd.cur.fr.length-1) 0 by rw[e1],show z0.f.base=z0.mvd.f.base from(mvd_base hfl).symm];have hw1:z0.mvd.cur.ws.length≤400:=hws;have hfl1:0<z0.mvd.cur.fr.length:=by rw[e1];exact hfl
 have hf40:z0.mvd.cur.fr.length≤40:=by rw[e1];exact hf40
 have hst1:z0.mvd.st=1:=h1;have hlog1:z0.mvd.log.length≤1000000:=hlog;have hout1:z0.mvd.out.length≤1000000:=hout;have hsz1:E.size (E.abs z0.mvd.e)≤1000000:=hsize;have hcs2:z0.mvd.cur.st=2:=by have:=hs0.st;rw[hz0.sts]at this;exact this
 have hun:z0.mvd.f.unit<m.us.length:=by
  rw[mvd_unit hfl];have:=hs0.unit;rw[hz0.topF]at this;rwa [show m.mdl.units.length=m.us.length from List.length_map _]at this
 have hall:∀k,k<z0.mvd.oth.length→z0.mvd.now≠k→(z0.mvd.oth.getD k default).ws.length≤400:=fun k hk hne=>by
  have:=hs0.lens k (by rw[RT.tkLen];exact hk);rwa [RT.coAt _ (show k<z0.oth.length from hk),RT.othGet _ (show z0.now≠k from hne)]at this
 have hsts:∀k,k<z0.mvd.oth.length→z0.mvd.now≠k→(z0.mvd.oth.getD k default).st≤3:=fun k hk hne=>by
  have:=hs0.sts k (by rw[RT.tkLen];exact hk);rwa [RT.coAt _ (show k<z0.oth.length from hk),RT.othGet _ (show z0.now≠k from hne)]at this
 obtain⟨i,hi⟩:∃i,i=insR m z0:=⟨_,rfl⟩;rw[←hi]at hc ha hop hfree⊢;have hfree:(i.op=26→E.V.full (E.abs z0.mvd.e) i.a.toNat=false)∧(i.op=27→E.V.empty (E.abs z0.mvd.e) i.a.toNat=false):=hfree;obtain⟨z1,hz1e⟩:∃x,x=z0.mvd:=⟨_,rfl⟩;rw[←hz1e]at hc ha hz1 hw1 hfl1 hf40 hst1 hlog1 hout1 hsz1 hcs2 hun hfree hall hsts⊢;clear hz1e hi hlk hn hg hfr hfl e1 w1 w2 hpc hws hlog hout hsize hs0 h1 hz0;have hn:=hz1.now;have hg:=hz1.curGet;have hex:∀v,i.op=1∧v=i.n∨i.op=2∧v=i.a→Vm.exec E.W m.mdl i z1.two=Vm.push E.W v z1.two:=fun v h=>by
  unfold Vm.exec;rcases h with⟨h,rfl⟩|⟨h,rfl⟩<;>simp[h]
 rcases hop with hop|hop|hop
 ·repeat(refine Jy ?_;try first|intro ao cap|intro b)
  (apply Run.op;exact rfl;refine JK (put9_is tb m z1 hz1 (by omega) (by omega) i.n) ?_;intro s hs;(refine Jn ?_));obtain⟨z2,rfl⟩:∃x,x=s:=⟨_,rfl⟩;have g:GivesR (Vm.exec E.W m.mdl i z1.two) z2:=by rw[hex _ (.inl ⟨hop,rfl⟩)];exact hs.gives hz1 hw1
  repeat(refine Jy ?_;try first|intro ao cap|intro b)
  (refine Jc ?_;refine OpT.call0_ (spec:=look9_is tb m hbx (z2) (g).wf (ha (z2) (g).wf (g).two)) (r:=fun w=>Jm) (k:=?_);intro s hs;(refine Jn ?_))
  repeat(refine Jy ?_;try first|intro ao cap|intro b)
  (refine End.done1_ ((RT.look (z2) m)) (he:=Jv) (hp:=?_));exact⟨(g).wf.look m,((g).wf.look_two m).trans (by rw[(g).two])⟩
 ·repeat(refine Jy ?_;try first|intro ao cap|intro b)
  (apply Run.op;exact rfl;refine JK (put9_is tb m z1 hz1 (by omega) (by omega) i.a) ?_;intro s hs;(refine Jn ?_));obtain⟨z2,rfl⟩:∃x,x=s:=⟨_,rfl⟩;have g:GivesR (Vm.exec E.W m.mdl i z1.two) z2:=by rw[hex _ (.inr ⟨hop,rfl⟩)];exact hs.gives hz1 hw1
  repeat(refine Jy ?_;try first|intro ao cap|intro b)
  (refine Jc ?_;refine OpT.call0_ (spec:=look9_is tb m hbx (z2) (g).wf (ha (z2) (g).wf (g).two)) (r:=fun w=>Jm) (k:=?_);intro s hs;(refine Jn ?_))
  repeat(refine Jy ?_;try first|intro ao cap|intro b)
  (refine End.done1_ ((RT.look (z2) m)) (he:=Jv) (hp:=?_));exact⟨(g).wf.look m,((g).wf.look_two m).trans (by rw[(g).two])⟩
 ·have hl:=hc.load hop;rw[hz1.topF]at hl;have e3:Vm.wl z1.tk=z1.cur.ws.length:=by unfold Vm.wl;rw[hz1.ws]
  rw[e3]at hl;have w3:((z1.f.base:Int)+i.a)=((z1.f.base+i.a.toNat:Nat):Int):=by omega
  repeat(refine Jy ?_;try first|intro ao cap|intro b)
  rw[hg,w3]
  repeat(refine Jy ?_;try first|intro ao cap|intro b)
  (apply Run.op;exact rfl;refine OpT.call0_ (spec:=put9_is tb m z1 hz1 (by omega) (by omega) _) (k:=?_);intro s hs;(refine Jn ?_));obtain⟨z2,rfl⟩:∃x,x=s:=⟨_,rfl⟩;have hex3:Vm.exec E.W m.mdl i z1.two=Vm.push E.W (z1.cur.ws.getD (z1.f.base+i.a.toNat) default) z1.two:=by
   unfold Vm.exec;rw[if_neg (by omega),if_neg (by omega),if_pos hop];show Vm.push E.W ((Vm.cur z1.tk).ws.getD ((Vm.topF (Vm.cur z1.tk)).base+i.a.toNat) 0) z1.two=_;rw[hz1.ws,hz1.topF];rfl
  have g:GivesR (Vm.exec E.W m.mdl i z1.two) z2:=by rw[hex3];exact hs.gives hz1 hw1
  repeat(refine Jy ?_;try first|intro ao cap|intro b)
  (refine Jc ?_;refine OpT.call0_ (spec:=look9_is tb m hbx (z2) (g).wf (ha (z2) (g).wf (g).two)) (r:=fun w=>Jm) (k:=?_);intro s hs;(refine Jn ?_))
  repeat(refine Jy ?_;try first|intro ao cap|intro b)
  (refine End.done1_ ((RT.look (z2) m)) (he:=Jv) (hp:=?_));exact⟨(g).wf.look m,((g).wf.look_two m).trans (by rw[(g).two])⟩
end Go.Proofs.Ytgnhfinabhimpaa.Vw
