/- What must be known that a step of the document's task can be walked comes of a right module's invariant. Plain Lean. -/
import Derived.Test.YtgnhfinabhimpaaM12
import Derived.Laws.IdiomCopy
import Derived.Test.YtgnhfinabhimpaaChecked
set_option linter.unusedVariables false
set_option linter.unusedSimpArgs false
set_option linter.unusedSectionVars false
set_option maxRecDepth 100000
namespace Go.Proofs.Ytgnhfinabhimpaa.Vm
open ImgM Ver Opt
abbrev wl(t:Tk):Nat:=(cur t).ws.length
abbrev topW(t:Tk)(n:Nat):Int:=(cur t).ws.getD (wl t-n) 0
structure CanU(M:Mdl)(t:Tk)(i:Ins):Prop where
 a0:0≤i.a
 lt:i.a.toNat<M.units.length
 p0:0≤(unt M i.a.toNat).params
 pl:(unt M i.a.toNat).params.toNat≤wl t
 pL:(unt M i.a.toNat).params.toNat≤(unt M i.a.toNat).locals.length
 few:(unt M i.a.toNat).locals.length≤200
structure CanT(M:Mdl)(t:Tk)(i:Ins):Prop where
 one:i.op=4∨i.op=5∨i.op=6∨i.op=7∨i.op=22∨i.op=26∨i.op=28→0<wl t
 two:8≤i.op∧i.op≤20→2≤wl t∧In64 (topW t 1)∧In64 (topW t 2)∧(18<i.op→(topW t 1=0∨topW t 1=1)∧(topW t 2=0∨topW t 2=1))
 load:i.op=3→0≤i.a∧(topF (cur t)).base+i.a.toNat<wl t
 store:i.op=4→0≤i.a∧(topF (cur t)).base+i.a.toNat<wl t-1
 jump:i.op=21∨i.op=22→0≤i.a
 box:i.op=26∨i.op=27→0≤i.a∧i.a.toNat<M.boxes.length
 unit:i.op=23∨i.op=29→CanU M t i
 ret:i.op=24→0<wl t∧(topF (cur t)).base≤wl t-1
 fin:i.op=25→∀j,(cur t).up=some j→t.now≠j∧j<t.cs.length
 res:i.op=30→2≤wl t∧0≤topW t 2∧(topW t 2).toNat<t.cs.length
 yld:i.op=31→0<wl t∧∃j,(cur t).up=some j∧t.now≠j∧j<t.cs.length
 alv:i.op=32→0<wl t∧0≤topW t 1∧(topW t 1).toNat<t.cs.length
 op:1≤i.op∧i.op≤32
 a64:In64 i.a
structure StandT(M:Mdl)(t:Tk):Prop where
 fr:(cur t).fr≠[]
 fr40:(cur t).fr.length≤40
 ws:(cur t).ws.length≤400
 unit:(topF (cur t)).unit<M.units.length
 pc:(topF (cur t)).pc<(unt M (topF (cur t)).unit).code.length
 pc4:(topF (cur t)).pc≤100000
 now:t.now<t.cs.length
 few:t.cs.length≤31
 st:(cur t).st=2
 box:(insT M t).op=26∨(insT M t).op=27→0≤(insT M t).a∧(insT M t).a.toNat<M.boxes.length
 lens:∀k,k<t.cs.length→(t.cs.getD k default).ws.length≤400
 sts:∀k,k<t.cs.length→(t.cs.getD k default).st≤3
theorem snT1{a b c:List Int}{v:Int}{n:Nat}(hn:(a ++(b ++(c ++[v]))).length=n):(a ++(b ++(c ++[v]))).getD (n-1) 0=v:=by
 subst hn;have e:a ++(b ++(c ++[v]))=(a ++(b ++c)) ++[v]:=by simp
 rw[e];exact snoc_getZ _ _
theorem snT2{a b c:List Int}{x y:Int}{n:Nat}(hn:(a ++(b ++(c ++[x,y]))).length=n):(a ++(b ++(c ++[x,y]))).getD (n-2) 0=x:=by
 subst hn;have e:a ++(b ++(c ++[x,y]))=(a ++(b ++c)) ++[x,y]:=by simp
 rw[e,List.getD_eq_getElem?_getD,List.getElem?_append_right (by simp;omega)];have e2:(a ++(b ++c) ++[x,y]).length-2-(a ++(b ++c)).length=0:=by simp only[List.length_append,List.length_cons,List.length_nil];omega
 rw[e2];rfl
section
variable{M:Mdl}{T:Nat→Int→Option Shape}{t:Tk}{ch:List Nat}
theorem unit_of{q:Int}{k:Int}(hC:Certs M T)(h:Ver.isUnit M q k=true):0≤q∧q.toNat<M.units.length∧0≤(unt M q.toNat).params∧(unt M q.toNat).params.toNat≤(unt M q.toNat).locals.length∧(unt M q.toNat).locals.length≤200:=by
 unfold Ver.isUnit at h;simp only[Bool.and_eq_true,decide_eq_true_eq]at h;obtain⟨⟨h1,h2⟩, -⟩:=h;have hlt:q.toNat<M.units.length:=by omega
 have hh:=unt_head hC (k:=q.toNat) hlt;have hf:=head_facts hh;have hp:0≤(unt M q.toNat).params:=by
  unfold Ver.head at hh
  split at hh
  ·cases hh
  split at hh
  ·cases hh
  omega
 exact⟨h1,hlt,hp,hf.1,hf.2.1⟩
theorem standT_of(hC:Certs M T)(hok:Ok M T t ch):StandT M t:=by
 obtain⟨fs0,ws0,q,p,st,hh,loc,op,a⟩:=hok.at_;obtain⟨st',h',hr⟩:=a.here hC;have hn:=hok.nowlt;have hln:=hok.lens _ hn;rw[←cur_co]at hln;have hin:t.now∈ch:=List.mem_of_getElem? hok.now;refine⟨?_,hln.2,hln.1,by rw[a.top];exact a.hq,by rw[a.top];exact hr.lt,?_,hn,hok.few,(hok.going _ hn).2 hin,fun h=>?_,fun k hk=>(hok.lens k hk).1,fun k hk=>hok.sts k hk⟩
 ·rw[a.fr];simp
 ·rw[a.top];show p≤100000;have hh:=unt_head hC a.hq;have hlt:=hr.lt;unfold Ver.head at hh
  split at hh
  ·cases hh
  split at hh
  ·cases hh
  split at hh
  ·cases hh
  omega
 ·have:=hr.ok.box h;omega
theorem canT_of(hC:Certs M T)(hok:Ok M T t ch):CanT M t (insT M t):=by
 obtain⟨fs0,ws0,q,p,st,hh,loc,op,a⟩:=hok.at_;obtain⟨st',h',hr⟩:=a.here hC;have hn:=hok.nowlt;have hws:=a.ws;have hf:=a.top;generalize insT M t=i at *;have hlive:ws0.length+(loc.length+op.length)=wl t:=by
  show _=(cur t).ws.length;rw[hws];simp
 have hll:=a.loc.len;have hol:=a.op.len;have hio:=hr.ok;have hk1:topW t 1=(ws0 ++(loc ++op)).getD (wl t-1) 0:=by show(cur t).ws.getD _ _=_;rw[hws]
 have hk2:topW t 2=(ws0 ++(loc ++op)).getD (wl t-2) 0:=by show(cur t).ws.getD _ _=_;rw[hws]
 have hlen:(ws0 ++(loc ++op)).length=wl t:=by simpa using hlive
 have hup:(cur t).up=ch[1]?:=hok.chain 0 t.now hok.now;have hupl:∀j,(cur t).up=some j→t.now≠j∧j<t.cs.length:=fun j hj=>by
  rw[hup]at hj;exact⟨hok.ne1 hj,hok.mem _ (List.mem_of_getElem? hj)⟩
 refine⟨fun h=>?_,fun h=>?_,fun h=>?_,fun h=>?_,fun h=>(hio.jump h).1,fun h=>?_,fun h=>?_,fun h=>?_,fun h=>hupl,fun h=>?_,fun h=>?_,fun h=>?_,hio.op,hr.in64.2⟩
 ·have:0<op.length:=by
   rw[←hol]
   cases hr.does with
   |_=>first|(exfalso;omega)|(simp;done)
  omega
 ·have hk:∃s1 t1 t2,st=s1 ++[t1,t2]∧(18<i.op→t1=2∧t2=2):=by
   cases hr.does with
   |arith s1 _ _=>exact⟨s1,1,1,rfl,fun h=>by omega⟩
   |eq s1 _ ty _ _=>exact⟨s1,ty,ty,rfl,fun h=>by omega⟩
   |cmp s1 _ _=>exact⟨s1,1,1,rfl,fun h=>by omega⟩
   |logic s1 _ _=>exact⟨s1,2,2,rfl,fun _=>⟨rfl,rfl⟩⟩
   |_=>exfalso;omega
  obtain⟨s1,t1,t2,e,hb⟩:=hk;have ht:=a.op;rw[e]at ht;obtain⟨op1,y,e1,g1,g2⟩:=ht.split;obtain⟨x,y,rfl,hx,hy⟩:=g2.un2;subst e1;have k1:topW t 1=y:=by
   rw[hk1];have:=snT1 (a:=ws0) (b:=loc) (c:=op1 ++[x]) (v:=y) (n:=wl t) (by simpa using hlive);rw[List.append_assoc]at this;rw[show [x] ++[y]=[x,y]from rfl]at this;exact this
  have k2:topW t 2=x:=by rw[hk2,snT2 hlen]
  rw[k1,k2];exact⟨by simp at hlive;omega,hy.1,hx.1,fun h18=>⟨hy.2.1 (hb h18).2,hx.2.1 (hb h18).1⟩⟩
 ·have h1:=hio.loc (.inl h);rw[hf];refine⟨h1.1,?_⟩;show ws0.length+i.a.toNat<wl t;omega
 ·have h1:=hio.loc (.inr h);rw[hf];refine⟨h1.1,?_⟩;show ws0.length+i.a.toNat<wl t-1;have:0<op.length:=by
   rw[←hol]
   cases hr.does with
   |store _ _ _=>simp
   |_=>exfalso;omega
  omega
 ·have h1:=hio.box h;omega
 ·have hk:∃k,Ver.isUnit M i.a k=true:=by
   rcases h with h|h
   ·exact⟨_,hio.call h⟩
   ·exact⟨_,hio.start h⟩
  obtain⟨k,hk⟩:=hk;obtain⟨c1,c2,c3,c4,c5⟩:=unit_of hC hk;refine⟨c1,c2,c3,?_,c4,c5⟩;have hp:(unt M i.a.toNat).params.toNat≤op.length:=by
   have key:∀(s:List Int) (u:ImgM.Unt),u.params.toNat≤u.locals.length→u.params.toNat≤(s ++u.locals.take u.params.toNat).length:=fun s u h=>by
    rw[List.length_append,List.length_take];omega
   rw[←hol]
   cases hr.does with
   |call _ _ _=>exact key _ _ c4
   |start _ _ _=>exact key _ _ c4
   |_=>exfalso;omega
  omega
 ·have h1:op.length=1:=by
   rw[←hol]
   cases hr.does with
   |ret _ _ _=>rfl
   |_=>exfalso;omega
  refine⟨by omega,?_⟩;rw[hf];show ws0.length≤wl t-1;omega
 ·have hk:∃s1 g t,st=s1 ++[10+g,t]∧Ver.handle M (10+g)=true:=by
   cases hr.does with
   |resume s1 _ g _ hg=>exact⟨s1,g,_,rfl,hg⟩
   |_=>exfalso;omega
  obtain⟨s1,g,t2,e,hg⟩:=hk;have ht:=a.op;rw[e]at ht;obtain⟨op1,y,e1,g1,g2⟩:=ht.split;obtain⟨x,y,rfl,hx,hy⟩:=g2.un2;subst e1;have hg0:10≤10+g:=by
   unfold Ver.handle at hg;rw[Bool.and_eq_true,decide_eq_true_eq]at hg;exact hg.1
  obtain⟨k,rfl,hk,hgk,hk0⟩:=hx.2.2 hg0;rw[gsOf_len]at hk;have e2:topW t 2=(k:Int):=by rw[hk2,snT2 hlen]
  rw[e2];exact⟨by simp at hlive;omega,by omega,by rw[Int.toNat_natCast];exact hk⟩
 ·have hk:∃s1 t,st=s1 ++[t]∧(unt M q).kind=3:=by
   cases hr.does with
   |yield s1 _ _ hk=>exact⟨s1,_,rfl,hk⟩
   |_=>exfalso;omega
  obtain⟨s1,ty,e,hk3⟩:=hk;have hb0:=hok.kinds _ hn;rw[←cur_co]at hb0;have hbot:=alone_bot hok a (by omega);have hn0:t.now≠0:=fun e=>by rw[hbot,if_pos e,hk3]at hb0;omega
  refine⟨?_,?_⟩
  ·rw[e]at hol;simp at hol;omega
  ·cases hj:ch[1]? with
   |none=>exact absurd (hok.root 0 t.now hok.now hj) hn0
   |some j=>exact⟨j,by rw[hup,hj],hupl j (by rw[hup,hj])⟩
 ·have hk:∃s1 g,st=s1 ++[10+g]∧Ver.handle M (10+g)=true:=by
   cases hr.does with
   |alive s1 _ g _ hg=>exact⟨s1,g,rfl,hg⟩
   |_=>exfalso;omega
  obtain⟨s1,g,e,hg⟩:=hk;have ht:=a.op;rw[e]at ht;obtain⟨op1,y,e1,g1,g2⟩:=ht.split;obtain⟨x,rfl,hx⟩:=g2.un1;subst e1;have hg0:10≤10+g:=by
   unfold Ver.handle at hg;rw[Bool.and_eq_true,decide_eq_true_eq]at hg;exact hg.1
  obtain⟨k,rfl,hk,hgk,hk0⟩:=hx.2.2 hg0;rw[gsOf_len]at hk;have e2:topW t 1=(k:Int):=by rw[hk1,snT1 hlen]
  rw[e2];exact⟨by simp at hlive;omega,by omega,by rw[Int.toNat_natCast];exact hk⟩
end
end Go.Proofs.Ytgnhfinabhimpaa.Vm


namespace Go.Proofs.Ytgnhfinabhimpaa
open Go Go.RowKit
section
variable{P:Program} [Tabbed P]{Q:Exit→Act→World→Prop}{N:Nat}{E:Env}{L L':List Chunk}
variable{dst:Option Tmp}{ty:TypeId}{pos:String}{aft:Array Edge}{g:Option (Nat×Bool)}
theorem OpT.copyZ{t e:TypeId}{x y:Operand}{ao xo:Option Addr}{n cap m c s' b' s2 b2:Nat}{d2:TyD}{z' z2:List Value}{l l2:List Int}{C:Env→List Chunk→Prop}
  (hx:ev E x=some (.slice ao n cap)) (hy:ev E y=some (.slice xo m c)) (ht:tyOf P t=some ⟨.slice e,s',b',z'⟩) (he:tyOf P e=some ⟨d2,s2,b2,z2⟩) (hs2:s2=1) (hm:Take (arr ao n cap e i64c l) L L') (hr:Rdb L' xo m c i64c l2) (hmn:m≤n) (hd:fitsB N dst=true)
  (k:C (upd dst (.int .i64 (m:Int)) E) (arr ao n cap e i64c (l2 ++l.drop m)::L')):OpT P Q N ⟨dst, .call ⟨.builtin .copy, #[x,y], #[t,t]⟩,ty,pos,aft,g⟩ E L C:=fun K hK A w hS hM=>by
 have hM':=hM.take hm;obtain⟨hown,hln⟩:=arr_holds.1 (hM.has hm);obtain⟨hrow,hl2⟩:=hr w (hM'.sub (List.sublist_cons_self _ _));obtain⟨xi,z,h3,h4, -⟩:=(tyOk he).info;have hi:(P.info? e).map (·.size)=some 1:=by rw[h3];simp[h4,hs2]
 have hmx:=hrow.2.1;subst hs2
 by_cases h0:m=0
 ·subst h0;have hrun:=run_copy_none (P:=P) w t t ty e ao xo n cap 0 c (tyOk ht).slice hi (by simp);obtain rfl:l2=[]:=List.eq_nil_of_length_eq_zero hl2;unfold Oper.wp;have hr':(execOp A.eval ⟨dst, .call ⟨.builtin .copy, #[x,y], #[t,t]⟩,ty,pos,aft,g⟩).run P w= .ok (.value (goInt 0)) w:=by
   simp only[execOp,resolve,invoke,builtin,Sem.run_bind,Sem.run_pure,Result.andThen_ok,List.map_toArray,List.map_cons,List.map_nil,hS.ev hx,hS.ev hy,hrun]
  rw[hr'];refine hK _ _ k _ _ (hS.put _ hd) ?_;simpa using hM'
 ·have hcap0:0<cap:=by have:=hown.le;omega
  have hown1:=hown.own hcap0;obtain⟨q1,ao',cap',q2,q3,q4,q5,q6⟩:=id hown1;simp only[Value.slice.injEq]at q2;obtain⟨rfl, -,rfl⟩:=q2
  cases ao with
  |none=>exact absurd (q5 rfl) (by omega)
  |some ad=>
  obtain⟨sp, -,cur,q8,q9,q10⟩:=q6 _ rfl;obtain⟨gb,o,sq⟩:=ad;simp only at sp q8 q9 q10;subst sp;obtain⟨-, -,xo',c',p2,p3,p4⟩:=hrow;simp only[Value.slice.injEq]at p2;obtain⟨rfl, -,rfl⟩:=p2;obtain⟨sb,so,rfl,p5⟩:=p4 (by omega);have hcs:(l2.flatMap i64c).length=m:=by rw[flatMap_len];simp[hl2,sz,i64c]
  have hsz:sz i64c=1:=rfl;rw[hsz]at q9 q10 p5;simp only[Nat.mul_one]at q9 q10 p5;have hrun:=run_copy_cells (P:=P) w t t ty e gb o n cap ⟨sb,so,none⟩ m c (l2.flatMap i64c) (tyOk ht).slice hi (by rw[hcs];exact(Nat.min_eq_left hmn).symm)
   (fun j v hj=>by
    have hjl:=(List.getElem?_eq_some_iff.1 hj).1;rw[Addr.add_lit',p5 j (by omega)];exact hj)
   (fun j hj=>by rw[hcs]at hj;rw[q8.cell];have:o+j<cur.size:=Nat.lt_of_lt_of_le (by omega) q9;simp[this]) (fun j hj=>q8.free _) (fun v hv=>one_all i64c l2 v hv)
  unfold Oper.wp;have hr':(execOp A.eval ⟨dst, .call ⟨.builtin .copy, #[x,y], #[t,t]⟩,ty,pos,aft,g⟩).run P w= .ok (.value (goInt (l2.flatMap i64c).length)) (w.setCells gb o (l2.flatMap i64c)):=by
   simp only[execOp,resolve,invoke,builtin,Sem.run_bind,Sem.run_pure,Result.andThen_ok,List.map_toArray,List.map_cons,List.map_nil,hS.ev hx,hS.ev hy,hrun]
  rw[hr',hcs];have hb2:=q8.setCells (l2.flatMap i64c) o (by omega);refine hK _ _ k _ _ (hS.put _ hd) (hM'.turn (Keeps.setCells (S:=fun c=>c=gb) _ _ (Keeps.refl _ _) (fun _=>rfl)) arr_excl (fun c hc _=>arr_foot.2 ⟨by rw[hc];rfl,hcap0⟩) (arr_holds.2 ⟨Own0.of ?_,by simp;omega⟩) (fun c hc=> .inl (arr_foot.2 (arr_foot.1 hc))));refine⟨by rw[flatMap_len,List.length_append,List.length_drop,hl2,hln];congr 1;omega,_,cap,rfl,q3,q4,(fun h=>by cases h),fun ad had=>?_⟩
  cases had
  refine⟨rfl,Nat.zero_le _,_,hb2,?_,?_⟩
  ·simp only[List.size_toArray,List.length_append,List.length_take,List.length_drop,Array.length_toList,hsz,hcs];omega
  ·simp only[hsz,Nat.mul_one];rw[List.flatMap_append];have e1:(l.drop m).flatMap i64c=((cur.toList.drop o).take n).drop m:=by
    rw[q10];have:=flatMap_drop (f:=i64c) l m;rw[←this,hsz,Nat.mul_one]
   rw[e1];have hcl:o≤cur.toList.length:=by simp;omega
   rw[List.append_assoc];rw[show List.drop o (cur.toList.take o ++(l2.flatMap i64c ++cur.toList.drop (o+(l2.flatMap i64c).length)))=l2.flatMap i64c ++cur.toList.drop (o+(l2.flatMap i64c).length) by
    rw[List.drop_append_of_le_length (by simp;omega),List.drop_of_length_le (by simp;omega)];rfl]
   rw[List.take_append,hcs,List.take_of_length_le (by omega)];congr 1;rw[List.drop_take,List.drop_drop]
theorem OpT.copyZ_{t e:TypeId}{x y:Operand}{ao xo:Option Addr}{n cap m c s' b' s2 b2:Nat}{d2:TyD}{z' z2:List Value}{l l2:List Int}{C:Env→List Chunk→Prop}
  (hx:ev E x=some (.slice ao n cap):=by exact rfl) (hy:ev E y=some (.slice xo m c):=by exact rfl) (ht:tyOf P t=some ⟨.slice e,s',b',z'⟩:=by exact rfl) (he:tyOf P e=some ⟨d2,s2,b2,z2⟩:=by exact rfl) (hs2:s2=1:=by exact rfl) (hm:Take (arr ao n cap e i64c l) L L':=by((repeat(first|exact Take.head|apply Take.tail));first|done|fail)) (hr:Rdb L' xo m c i64c l2:=by exact Jr) (hmn:m≤n:=by omega) (hd:fitsB N dst=true:=by exact rfl)
  (k:C (upd dst (.int .i64 (m:Int)) E) (arr ao n cap e i64c (l2 ++l.drop m)::L')):OpT P Q N ⟨dst, .call ⟨.builtin .copy, #[x,y], #[t,t]⟩,ty,pos,aft,g⟩ E L C:=OpT.copyZ hx hy ht he hs2 hm hr hmn hd k
section
variable{α:Type}{iα:Inhabited α}{ao:Option Addr}{n cap:Nat}{e:TypeId}{f:α→List Value}{ef:Enc f}{l:List α}
theorem OpT.cutV{t:TypeId}{s' b' s2 b2 lo hi:Nat}{d2:TyD}{z' z2:List Value}{x:Operand}{ol oh:Option Operand}{C:Env→List Chunk→Prop}(hx:ev E x=some (.slice ao n cap))(ht:tyOf P t=some ⟨.slice e,s',b',z'⟩)(he:tyOf P e=some ⟨d2,s2,b2,z2⟩)
  (hr:Rdb L ao n cap f l) (hs2:s2=sz f) (hb:Bnd E n ol oh lo hi) (h1:lo≤hi) (h2:hi≤n) (hd:fitsB N dst=true)
  (k:∀ao' cap',(∀L'':List Chunk,Rdb L'' ao n cap f l→Rdb L'' ao' (hi-lo) cap' f ((l.take hi).drop lo))→C (upd dst (.slice ao' (hi-lo) cap') E) L):OpT P Q N ⟨dst, .slice t x ol oh none,ty,pos,aft,g⟩ E L C:=fun K hK A w hS hM=>by
 obtain⟨hrow,hln⟩:=hr w hM;have hcap:n≤cap:=by
  obtain⟨-, -,ao',cap',g2,g3, -⟩:=hrow;simp only[Value.slice.injEq]at g2;obtain⟨-, -,rfl⟩:=g2;exact g3
 unfold Oper.wp;rw[run_cut hS hx ht he hb h1 (by omega) w];subst hs2;exact hK _ _ (k _ _ (fun L'' hr' w' hM'=>⟨Row.sub (hr' w' hM').1 (hr' w' hM').2 h1 h2,by simp;omega⟩)) _ _ (hS.put _ hd) hM
end
theorem Still.imin{x y:Operand}{k:IntKind}{a b z:Int}{tt:TypeId}(hx:ev E x=some (.int k a))(hy:ev E y=some (.int k b))(hz:(if b<a then b else a)=z):Still P N ⟨dst, .call ⟨.builtin .min, #[x,y], #[tt,tt]⟩,ty,pos,aft,g⟩ E L (.int k z):=fun A w hs _=>by
 subst hz;simp[execOp,resolve,invoke,builtin,hs.ev hx,hs.ev hy,Builtin.min_,Builtin.min2]
theorem Still.imax{x y:Operand}{k:IntKind}{a b z:Int}{tt:TypeId}(hx:ev E x=some (.int k a))(hy:ev E y=some (.int k b))(hz:(if a<b then b else a)=z):Still P N ⟨dst, .call ⟨.builtin .max, #[x,y], #[tt,tt]⟩,ty,pos,aft,g⟩ E L (.int k z):=fun A w hs _=>by
 subst hz;simp[execOp,resolve,invoke,builtin,hs.ev hx,hs.ev hy,Builtin.max_,Builtin.max2]
theorem OpT.cutV_{α:Type}{iα:Inhabited α}{ao:Option Addr}{n cap:Nat}{e:TypeId}{f:α→List Value}{ef:Enc f}{l:List α}{t:TypeId}{s' b' s2 b2 lo hi:Nat}{d2:TyD}{z' z2:List Value}{x:Operand}{ol oh:Option Operand}{C:Env→List Chunk→Prop}(hx:ev E x=some (.slice ao n cap):=by exact rfl)(ht:tyOf P t=some ⟨.slice e,s',b',z'⟩:=by exact rfl)(he:tyOf P e=some ⟨d2,s2,b2,z2⟩:=by exact rfl)
  (hr:Rdb L ao n cap f l:=by exact Jr) (hs2:s2=sz f:=by exact rfl) (hb:Bnd E n ol oh lo hi:=by(first|exact Bnd.all|(apply Bnd.lo;exact rfl;(first|exact ix_succ _|exact(rfl:(0:Int)=((0:Nat):Int))|exact rfl|(refine(Int.toNat_of_nonneg ?_).symm;omega)))|(apply Bnd.hi;exact rfl;(first|exact ix_succ _|exact(rfl:(0:Int)=((0:Nat):Int))|exact rfl|(refine(Int.toNat_of_nonneg ?_).symm;omega)))|(apply Bnd.both;exact rfl;(first|exact ix_succ _|exact(rfl:(0:Int)=((0:Nat):Int))|exact rfl|(refine(Int.toNat_of_nonneg ?_).symm;omega));exact rfl;(first|exact ix_succ _|exact(rfl:(0:Int)=((0:Nat):Int))|exact rfl|(refine(Int.toNat_of_nonneg ?_).symm;omega))))) (h1:lo≤hi:=by omega) (h2:hi≤n:=by omega) (hd:fitsB N dst=true:=by exact rfl)
  (k:∀ao' cap',(∀L'':List Chunk,Rdb L'' ao n cap f l→Rdb L'' ao' (hi-lo) cap' f ((l.take hi).drop lo))→C (upd dst (.slice ao' (hi-lo) cap') E) L):OpT P Q N ⟨dst, .slice t x ol oh none,ty,pos,aft,g⟩ E L C:=OpT.cutV hx ht he hr hs2 hb h1 h2 hd k
end
section
variable{P:Program} [Tabbed P]{Q:Exit→Act→World→Prop}{N:Nat}{E:Env}{L L':List Chunk}
variable{α:Type}{iα:Inhabited α}{ao:Option Addr}{n cap:Nat}{e:TypeId}{f:α→List Value}{ef:Enc f}{l:List α}
variable{dst:Option Tmp}{ty:TypeId}{pos:String}{aft:Array Edge}{g:Option (Nat×Bool)}
def cutA3(ao:Option Addr)(n s:Nat):Option Addr:=if n=0 then ao else ao.map (·.add (0*s))
theorem Still.cut3{t:TypeId}{s' b' s2 b2:Nat}{d2:TyD}{z' z2:List Value}{x oh om:Operand}{kh km:IntKind}(hx:ev E x=some (.slice ao n cap))(ht:tyOf P t=some ⟨.slice e,s',b',z'⟩)(he:tyOf P e=some ⟨d2,s2,b2,z2⟩)
  (hh:ev E oh=some (.int kh (n:Int))) (ho:ev E om=some (.int km (n:Int))) (hcap:n≤cap) (hs2:s2=sz f):Still P N ⟨dst, .slice t x none (some oh) (some om),ty,pos,aft,g⟩ E L (.slice (cutA3 ao n (sz f)) n n):=fun A w hS hM=>by
 have hsz:=(tyOk he).size w;have hu:=(tyOk ht).slice;have hel:P.elem t=e:=by unfold Program.elem;rw[hu]
 have hu':P.underlying t=some (.slice (P.elem t)):=by rw[hel];exact hu
 subst hs2;simp only[execOp,hS.ev hx,hS.ev hh,hS.ev ho,Option.map_none,Option.map_some,Sem.run_bind];rw[run_sliceAt_slice _ _ _ _ _ _ hu',run_slice_hm w t ao n cap hu' _ _ _ _ (by omega) (by omega) (by omega),hel,hsz];simp only[Int.toNat_natCast];rfl
theorem Mem.cut3{w:World}(hM:Mem w L)(hm:Take (arr ao n cap e f l) L L'):Mem w (arr (cutA3 ao n (sz f)) n n e f l::L'):=by
 obtain⟨hown,hln⟩:=arr_holds.1 (hM.has hm);have hcap:n≤cap:=hown.le;refine(hM.take hm).turn (S:=Nil) (Keeps.refl _ _) arr_excl (fun _ h _=>h.elim) (arr_holds.2 ⟨?_,hln⟩) (fun c hc=> .inl (arr_foot.2 ?_))
 ·by_cases hn:n=0
  ·subst hn;rw[List.eq_nil_of_length_eq_zero hln];exact .inl ⟨rfl,rfl,rfl⟩
  ·unfold cutA3;rw[if_neg hn];have h1:=(hown.own (by omega)).sub hln (Nat.zero_le n) (Nat.le_refl n);rw[if_neg (by omega),List.drop_zero,List.take_of_length_le (by omega),Nat.sub_zero,Nat.sub_zero]at h1;refine Own0.of ?_;obtain⟨g1,ao',cap',g2,g3,g4,g5,g6⟩:=h1;simp only[Value.slice.injEq]at g2;obtain⟨rfl, -,rfl⟩:=g2;refine⟨g1,_,_,rfl,Nat.le_refl _,by omega,fun hn=>by have:=g5 hn;omega,fun ad had=>?_⟩;obtain⟨q1,q2,cur,q3,q4,q5⟩:=g6 _ had;exact⟨q1,q2,cur,q3,Nat.le_trans (Nat.add_le_add_left (Nat.mul_le_mul_right _ g3) _) q4,q5⟩
 ·have h0:0<n:=(arr_foot.1 hc).2;have this:=(arr_foot.1 hc).1;refine⟨?_,Nat.lt_of_lt_of_le h0 hcap⟩;unfold cutA3 at this;rw[if_neg (Nat.pos_iff_ne_zero.1 h0)]at this
  cases ao with
  |none=>simp[Value.ownBlock]at this
  |some a0=>
   simp only[Value.ownBlock,Option.map_some,Option.some.injEq]at this⊢;rw[←this];unfold Addr.add
   split<;>rfl
end
end Go.Proofs.Ytgnhfinabhimpaa


namespace Go.Proofs.Ytgnhfinabhimpaa
open Go
section
variable{P:Program}{Q:Exit→Act→World→Prop}{N:Nat}{E:Env}{L L':List Chunk}
variable{dst:Option Tmp}{ty:TypeId}{pos:String}{aft:Array Edge}{g:Option (Nat×Bool)}
def Finds(P:Program)(T:TypeId)(rv:Value)(name:String)(f:FuncId):Prop:=∀w,(method (P.types.size+Made.depth) T rv name).run P w= .ok (f,rv) w
theorem OpT.callM{σ:Type}{x:Operand}{name:String}{args:List Operand}{tys:Array TypeId}{T:TypeId}{rv:Value}{f:FuncId}{vs:List Value}
  {R pre F:List Chunk} {post:σ→Prop} {val:σ→Value} {mem:σ→List Chunk} {C:Env→List Chunk→Prop}
  (hx:ev E x=some (.iface T rv)) (hv:Evs E args vs) (hm:Finds P T rv name f) (hc:callB P f=true) (hd:fitsB N dst=true)
  (spec:Fn P f (rv::vs).toArray R pre post val mem) (t:Takes pre L F) (r:∀w,Reads w R F) (k:∀s,post s→C (upd dst (val s) E) (mem s ++F)):
  OpT P Q N ⟨dst, .call ⟨.invoke x name,args.toArray,tys⟩,ty,pos,aft,g⟩ E L C:=by
 intro K hK a w hs hM;have hr:(execOp a.eval ⟨dst, .call ⟨.invoke x name,args.toArray,tys⟩,ty,pos,aft,g⟩).run P w= .ok (.enter f (rv::vs).toArray) w:=by
  have e:args.toArray.map a.eval=vs.toArray:=by rw[←hs.evs hv];simp
  have e2: #[Value.iface T rv] ++vs.toArray=(Value.iface T rv::vs).toArray:=by simp
  have e3:(Value.iface T rv::vs).toArray.extract 1 (Value.iface T rv::vs).toArray.size=vs.toArray:=by simp
  have e4:(Value.iface T rv::vs).toArray[0]?=some (Value.iface T rv):=by simp
  have hm':=hm w;simp only[execOp,resolve,hs.ev hx,e,e2,Sem.run_bind,Sem.run_pure,Result.andThen_ok,invoke,e4,e3,callMethod,run_program,hm'];rw[run_callFunc hc];simp
 unfold Oper.wp;rw[hr,Oper.upon_enter];refine(spec w ((hM.takes t).reads (r w))).mono ?_;rintro e w' ⟨s,hp,rfl,hx,hm'⟩;exact hK _ _ (k s hp) _ _ (hs.put _ hd) ((hM.takes t).frame hm' hx)
theorem Still.mkIface{xT t:TypeId}{x:Operand}{v:Value}{s b:Nat}{z:List Value}{e:TypeId} [Tabbed P](hx:ev E x=some v)(ht:tyOf P xT=some ⟨.pointer e,s,b,z⟩):
  Still P N ⟨dst, .makeInterface xT x,ty,pos,aft,g⟩ E L (.iface xT v):=fun A w hs _=>by
 have:=(tyOk ht).pointer;simp[execOp,hs.ev hx,Instr.makeInterface,run_underlying this]
theorem OpT.callM_{σ:Type}{x:Operand}{name:String}{args:List Operand}{tys:Array TypeId}{T:TypeId}{rv:Value}{f:FuncId}{vs:List Value}
  {R pre F:List Chunk} {post:σ→Prop} {val:σ→Value} {mem:σ→List Chunk} {C:Env→List Chunk→Prop}
  (hm:Finds P T rv name f) (hc:callB P f=true) (spec:Fn P f (rv::vs).toArray R pre post val mem)
  (hx:ev E x=some (.iface T rv):=by exact rfl) (hv:Evs E args vs:=by exact evz) (hd:fitsB N dst=true:=by exact rfl)
  (t:Takes pre L F:=by exact tks) (r:∀w,Reads w R F:=by intro w;exact rds) (k:∀s,post s→C (upd dst (val s) E) (mem s ++F)):
  OpT P Q N ⟨dst, .call ⟨.invoke x name,args.toArray,tys⟩,ty,pos,aft,g⟩ E L C:=OpT.callM hx hv hm hc hd spec t r k
end
def tab:List (TypeId×TyI):=[
 (1,⟨.other,1,8,[.nilFunc]⟩),
 (2,⟨.int .i64,1,8,[.int .i64 0]⟩),
 (3,⟨.int .i64,1,8,[.int .i64 0]⟩),
 (4,⟨.bool,1,1,[.bool false]⟩),
 (5,⟨.int .u8,1,1,[.int .u8 0]⟩),
 (9,⟨.string,1,16,[.string ⟨#[]⟩]⟩),
 (12,⟨.int .u64,1,8,[.int .u64 0]⟩),
 (15,⟨.pointer 169,1,8,[.pointer none]⟩),
 (16,⟨.pointer 172,1,8,[.pointer none]⟩),
 (17,⟨.pointer 181,1,8,[.pointer none]⟩),
 (20,⟨.other,1,16,[.nilIface]⟩),
 (21,⟨.int .i32,1,4,[.int .i32 0]⟩),
 (22,⟨.slice 37,1,24,[.slice none 0 0]⟩),
 (23,⟨.slice 31,1,24,[.slice none 0 0]⟩),
 (24,⟨.struct [(0,22),(1,23)],2,48,[.slice none 0 0, .slice none 0 0]⟩),
 (25,⟨.struct [(0,22),(1,23)],2,48,[.slice none 0 0, .slice none 0 0]⟩),
 (26,⟨.slice 38,1,24,[.slice none 0 0]⟩),
 (27,⟨.other,1,8,[.nilFunc]⟩),
 (28,⟨.slice 3,1,24,[.slice none 0 0]⟩),
 (29,⟨.slice 49,1,24,[.slice none 0 0]⟩),
 (30,⟨.struct [(0,3),(1,3),(2,28),(3,3),(4,3),(5,29)],6,80,[.int .i64 0, .int .i64 0, .slice none 0 0, .int .i64 0, .int .i64 0, .slice none 0 0]⟩),
 (31,⟨.struct [(0,3),(1,3),(2,28),(3,3),(4,3),(5,29)],6,80,[.int .i64 0, .int .i64 0, .slice none 0 0, .int .i64 0, .int .i64 0, .slice none 0 0]⟩),
 (32,⟨.int .i64,1,8,[.int .i64 0]⟩),
 (33,⟨.struct [(0,32),(1,3),(2,3)],3,24,[.int .i64 0, .int .i64 0, .int .i64 0]⟩),
 (34,⟨.struct [(0,32),(1,3),(2,3)],3,24,[.int .i64 0, .int .i64 0, .int .i64 0]⟩),
 (35,⟨.other,1,8,[.nilFunc]⟩),
 (36,⟨.struct [(0,3),(1,3)],2,16,[.int .i64 0, .int .i64 0]⟩),
 (37,⟨.struct [(0,3),(1,3)],2,16,[.int .i64 0, .int .i64 0]⟩),
 (38,⟨.slice 2,1,24,[.slice none 0 0]⟩),
 (39,⟨.struct [(0,3),(1,3),(2,3),(3,38),(4,26),(5,28),(6,3)],7,104,[.int .i64 0, .int .i64 0, .int .i64 0, .slice none 0 0, .slice none 0 0, .slice none 0 0, .int .i64 0]⟩),
 (40,⟨.struct [(0,3),(1,3),(2,3),(3,38),(4,26),(5,28),(6,3)],7,104,[.int .i64 0, .int .i64 0, .int .i64 0, .slice none 0 0, .slice none 0 0, .slice none 0 0, .int .i64 0]⟩),
 (42,⟨.other,1,8,[.nilFunc]⟩),
 (43,⟨.other,1,8,[.nilFunc]⟩),
 (44,⟨.other,1,8,[.nilFunc]⟩),
 (45,⟨.other,1,8,[.nilFunc]⟩),
 (46,⟨.other,1,8,[.nilFunc]⟩),
 (47,⟨.other,1,8,[.nilFunc]⟩),
 (48,⟨.struct [(0,3),(1,3),(2,2)],3,24,[.int .i64 0, .int .i64 0, .int .i64 0]⟩),
 (49,⟨.struct [(0,3),(1,3),(2,2)],3,24,[.int .i64 0, .int .i64 0, .int .i64 0]⟩),
 (50,⟨.pointer 53,1,8,[.pointer none]⟩),
 (51,⟨.pointer 25,1,8,[.pointer none]⟩),
 (52,⟨.struct [(0,51)],1,8,[.pointer none]⟩),
 (53,⟨.struct [(0,51)],1,8,[.pointer none]⟩),
 (54,⟨.other,1,8,[.nilFunc]⟩),
 (55,⟨.other,1,8,[.nilFunc]⟩),
 (56,⟨.other,1,8,[.nilFunc]⟩),
 (57,⟨.pointer 59,1,8,[.pointer none]⟩),
 (58,⟨.struct [(0,26),(1,28),(2,26)],3,72,[.slice none 0 0, .slice none 0 0, .slice none 0 0]⟩),
 (59,⟨.struct [(0,26),(1,28),(2,26)],3,72,[.slice none 0 0, .slice none 0 0, .slice none 0 0]⟩),
 (60,⟨.pointer 68,1,8,[.pointer none]⟩),
 (61,⟨.other,1,8,[.nilFunc]⟩),
 (62,⟨.other,1,16,[.nilIface]⟩),
 (63,⟨.other,1,16,[.nilIface]⟩),
 (64,⟨.slice 65,1,24,[.slice none 0 0]⟩),
 (65,⟨.pointer 103,1,8,[.pointer none]⟩),
 (66,⟨.other,1,8,[.nilFunc]⟩),
 (67,⟨.struct [(0,51),(1,63),(2,64),(3,65),(4,3),(5,3),(6,3),(7,38),(8,66)],9,112,[.pointer none, .nilIface, .slice none 0 0, .pointer none, .int .i64 0, .int .i64 0, .int .i64 0, .slice none 0 0, .nilFunc]⟩),
 (68,⟨.struct [(0,51),(1,63),(2,64),(3,65),(4,3),(5,3),(6,3),(7,38),(8,66)],9,112,[.pointer none, .nilIface, .slice none 0 0, .pointer none, .int .i64 0, .int .i64 0, .int .i64 0, .slice none 0 0, .nilFunc]⟩),
 (69,⟨.other,1,8,[.nilFunc]⟩),
 (70,⟨.other,1,8,[.nilFunc]⟩),
 (71,⟨.pointer 73,1,8,[.pointer none]⟩),
 (72,⟨.struct [(0,26),(1,26),(2,28)],3,72,[.slice none 0 0, .slice none 0 0, .slice none 0 0]⟩),
 (73,⟨.struct [(0,26),(1,26),(2,28)],3,72,[.slice none 0 0, .slice none 0 0, .slice none 0 0]⟩),
 (74,⟨.pointer 81,1,8,[.pointer none]⟩),
 (75,⟨.other,1,8,[.nilFunc]⟩),
 (76,⟨.other,1,8,[.nilFunc]⟩),
 (77,⟨.other,1,8,[.nilFunc]⟩),
 (78,⟨.slice 119,1,24,[.slice none 0 0]⟩),
 (79,⟨.slice 161,1,24,[.slice none 0 0]⟩),
 (80,⟨.struct [(0,25),(2,78),(3,3),(4,3),(5,3),(6,3),(7,38),(8,4),(9,3),(10,79)],11,168,[.slice none 0 0, .slice none 0 0, .slice none 0 0, .int .i64 0, .int .i64 0, .int .i64 0, .int .i64 0, .slice none 0 0, .bool false, .int .i64 0, .slice none 0 0]⟩),
 (81,⟨.struct [(0,25),(2,78),(3,3),(4,3),(5,3),(6,3),(7,38),(8,4),(9,3),(10,79)],11,168,[.slice none 0 0, .slice none 0 0, .slice none 0 0, .int .i64 0, .int .i64 0, .int .i64 0, .int .i64 0, .slice none 0 0, .bool false, .int .i64 0, .slice none 0 0]⟩),
 (82,⟨.other,1,8,[.nilFunc]⟩),
 (83,⟨.pointer 31,1,8,[.pointer none]⟩),
 (84,⟨.other,1,8,[.nilFunc]⟩),
 (85,⟨.other,1,8,[.nilFunc]⟩),
 (86,⟨.pointer 92,1,8,[.pointer none]⟩),
 (87,⟨.map 3 90,1,8,[.map none]⟩),
 (88,⟨.slice 4,1,24,[.slice none 0 0]⟩),
 (89,⟨.struct [(0,28),(1,88)],2,48,[.slice none 0 0, .slice none 0 0]⟩),
 (90,⟨.struct [(0,28),(1,88)],2,48,[.slice none 0 0, .slice none 0 0]⟩),
 (91,⟨.struct [(0,50),(1,83),(2,87),(3,28),(4,90),(6,32)],7,104,[.pointer none, .pointer none, .map none, .slice none 0 0, .slice none 0 0, .slice none 0 0, .int .i64 0]⟩),
 (92,⟨.struct [(0,50),(1,83),(2,87),(3,28),(4,90),(6,32)],7,104,[.pointer none, .pointer none, .map none, .slice none 0 0, .slice none 0 0, .slice none 0 0, .int .i64 0]⟩),
 (93,⟨.other,1,8,[.nilFunc]⟩),
 (94,⟨.other,1,8,[.nilFunc]⟩),
 (95,⟨.other,1,8,[.nilFunc]⟩),
 (96,⟨.other,1,8,[.nilFunc]⟩),
 (97,⟨.other,1,8,[.nilFunc]⟩),
 (98,⟨.other,1,8,[.nilFunc]⟩),
 (99,⟨.other,1,8,[.nilFunc]⟩),
 (100,⟨.slice 106,1,24,[.slice none 0 0]⟩),
 (101,⟨.pointer 145,1,8,[.pointer none]⟩),
 (102,⟨.struct [(0,3),(1,65),(2,100),(3,101)],4,48,[.int .i64 0, .pointer none, .slice none 0 0, .pointer none]⟩),
 (103,⟨.struct [(0,3),(1,65),(2,100),(3,101)],4,48,[.int .i64 0, .pointer none, .slice none 0 0, .pointer none]⟩),
 (104,⟨.pointer 106,1,8,[.pointer none]⟩),
 (105,⟨.struct [(0,3),(1,3),(2,3)],3,24,[.int .i64 0, .int .i64 0, .int .i64 0]⟩),
 (106,⟨.struct [(0,3),(1,3),(2,3)],3,24,[.int .i64 0, .int .i64 0, .int .i64 0]⟩),
 (107,⟨.other,1,8,[.nilFunc]⟩),
 (108,⟨.pointer 2,1,8,[.pointer none]⟩),
 (109,⟨.other,1,8,[.nilFunc]⟩),
 (110,⟨.other,1,8,[.nilFunc]⟩),
 (111,⟨.other,1,8,[.nilFunc]⟩),
 (112,⟨.other,1,8,[.nilFunc]⟩),
 (113,⟨.other,1,8,[.nilFunc]⟩),
 (114,⟨.other,1,8,[.nilFunc]⟩),
 (115,⟨.other,1,8,[.nilFunc]⟩),
 (116,⟨.other,1,8,[.nilFunc]⟩),
 (117,⟨.slice 127,1,24,[.slice none 0 0]⟩),
 (118,⟨.struct [(0,3),(1,3),(2,117),(3,38)],4,64,[.int .i64 0, .int .i64 0, .slice none 0 0, .slice none 0 0]⟩),
 (119,⟨.struct [(0,3),(1,3),(2,117),(3,38)],4,64,[.int .i64 0, .int .i64 0, .slice none 0 0, .slice none 0 0]⟩),
 (120,⟨.other,1,8,[.nilFunc]⟩),
 (121,⟨.other,1,16,[.nilIface]⟩),
 (122,⟨.other,1,16,[.nilIface]⟩),
 (123,⟨.other,1,8,[.nilFunc]⟩),
 (124,⟨.pointer 119,1,8,[.pointer none]⟩),
 (125,⟨.pointer 127,1,8,[.pointer none]⟩),
 (126,⟨.struct [(0,3),(1,3),(2,3)],3,24,[.int .i64 0, .int .i64 0, .int .i64 0]⟩),
 (127,⟨.struct [(0,3),(1,3),(2,3)],3,24,[.int .i64 0, .int .i64 0, .int .i64 0]⟩),
 (128,⟨.other,1,8,[.nilFunc]⟩),
 (129,⟨.other,1,8,[.nilFunc]⟩),
 (130,⟨.other,1,8,[.nilFunc]⟩),
 (131,⟨.other,1,8,[.nilFunc]⟩),
 (132,⟨.other,1,8,[.nilFunc]⟩),
 (134,⟨.other,1,8,[.nilFunc]⟩),
 (135,⟨.other,1,8,[.nilFunc]⟩),
 (136,⟨.other,1,8,[.nilFunc]⟩),
 (137,⟨.other,1,8,[.nilFunc]⟩),
 (138,⟨.other,1,8,[.nilFunc]⟩),
 (139,⟨.other,1,8,[.nilFunc]⟩),
 (140,⟨.other,1,8,[.nilFunc]⟩),
 (141,⟨.other,1,8,[.nilFunc]⟩),
 (142,⟨.other,1,8,[.nilFunc]⟩),
 (143,⟨.other,1,8,[.nilFunc]⟩),
 (144,⟨.struct [(0,38),(1,3),(2,3),(3,3)],4,48,[.slice none 0 0, .int .i64 0, .int .i64 0, .int .i64 0]⟩),
 (145,⟨.struct [(0,38),(1,3),(2,3),(3,3)],4,48,[.slice none 0 0, .int .i64 0, .int .i64 0, .int .i64 0]⟩),
 (146,⟨.other,1,8,[.nilFunc]⟩),
 (147,⟨.other,1,8,[.nilFunc]⟩),
 (148,⟨.other,1,8,[.nilFunc]⟩),
 (149,⟨.slice 151,1,24,[.slice none 0 0]⟩),
 (150,⟨.struct [(0,4),(1,9),(2,88)],3,48,[.bool false, .string ⟨#[]⟩, .slice none 0 0]⟩),
 (151,⟨.struct [(0,4),(1,9),(2,88)],3,48,[.bool false, .string ⟨#[]⟩, .slice none 0 0]⟩),
 (152,⟨.other,1,8,[.nilFunc]⟩),
 (154,⟨.other,1,8,[.nilFunc]⟩),
 (155,⟨.slice 5,1,24,[.slice none 0 0]⟩),
 (156,⟨.other,1,8,[.nilFunc]⟩),
 (158,⟨.other,1,8,[.nilFunc]⟩),
 (159,⟨.pointer 151,1,8,[.pointer none]⟩),
 (160,⟨.struct [(0,3),(1,3),(2,3),(3,2)],4,32,[.int .i64 0, .int .i64 0, .int .i64 0, .int .i64 0]⟩),
 (161,⟨.struct [(0,3),(1,3),(2,3),(3,2)],4,32,[.int .i64 0, .int .i64 0, .int .i64 0, .int .i64 0]⟩),
 (162,⟨.other,1,8,[.nilFunc]⟩),
 (163,⟨.other,1,8,[.nilFunc]⟩),
 (164,⟨.other,1,8,[.nilFunc]⟩),
 (165,⟨.other,1,8,[.nilFunc]⟩),
 (166,⟨.other,1,8,[.nilFunc]⟩),
 (167,⟨.other,1,8,[.nilFunc]⟩),
 (173,⟨.int .u32,1,4,[.int .u32 0]⟩),
 (176,⟨.other,1,8,[.nilFunc]⟩),
 (177,⟨.pointer 5,1,8,[.pointer none]⟩),
 (180,⟨.struct [(0,12),(1,12),(2,173),(3,174),(4,5),(5,5),(6,175),(7,176),(8,177),(9,178),(10,179)],11,48,[.int .u64 0, .int .u64 0, .int .u32 0, .int .u8 0, .int .u8 0, .int .u8 0, .int .u8 0, .nilFunc, .pointer none, .int .i32 0, .int .i32 0]⟩)
]
theorem tab_ok:∀p∈tab,TyOk Try.prog p.1 p.2:=by
 unfold tab
 repeat(refine List.forall_mem_cons.2 ⟨⟨by kernel_rfl,by kernel_rfl⟩,?_⟩)
 simp
instance:Tabbed Try.prog:=⟨tab,tab_ok⟩
end Go.Proofs.Ytgnhfinabhimpaa


namespace Go.Proofs.Ytgnhfinabhimpaa.Vm
open ImgM Ver Opt
abbrev Ev:=Int×Int×Int
def rec(x:Int):Env (List Ev) where
 full _ _:=false
 empty _ _:=false
 put s _ _:=s
 take s _:=(x,s)
 tell s e:=s ++[e]
section
variable{ν:Type}(V:Env ν)(M:Mdl)
def play(s:ν)(e:Ev):ν:=if e.1=2 then V.tell (V.put s e.2.1.toNat e.2.2) e else if e.1=3 then V.tell (V.take s e.2.1.toNat).2 e else V.tell s e
def loc(x:Int)(i:Ins)(t:Tk):Tk×List Ev:=exec (rec x) M i (t,[])
abbrev pl(s:ν)(r:Tk×List Ev):Tk×ν:=(r.1,r.2.foldl (play V) s)
variable(x:Int)(s:ν)
theorem pl_told(t:Tk)(l:List Ev)(e:Ev)(h2:e.1≠2)(h3:e.1≠3):pl V s (t,l ++[e])=(t,V.tell (l.foldl (play V) s) e):=by
 unfold pl;simp only[List.foldl_append,List.foldl_cons,List.foldl_nil];rw[show play V (l.foldl (play V) s) e=V.tell (l.foldl (play V) s) e by unfold play;rw[if_neg h2,if_neg h3]]
theorem trap_pl(n:Int)(r:Tk×List Ev):trap V n (pl V s r)=pl V s (trap (rec x) n r):=by
 obtain⟨t,l⟩:=r;unfold trap
 by_cases h:t.st=5
 ·rw[if_pos (show(pl V s (t,l)).1.st=5 from h),if_pos (show(t,l).1.st=5 from h)]
 ·rw[if_neg (show¬(pl V s (t,l)).1.st=5 from h),if_neg (show¬(t,l).1.st=5 from h)];exact(pl_told V s _ l (5,0,n) (by simp) (by simp)).symm
theorem push_pl(v:Int)(r:Tk×List Ev):push V v (pl V s r)=pl V s (push (rec x) v r):=by
 unfold push
 by_cases h:(cur r.1).ws.length=400
 ·rw[if_pos (show(cur (pl V s r).1).ws.length=400 from h),if_pos h];exact trap_pl V x s 4 r
 ·rw[if_neg (show¬(cur (pl V s r).1).ws.length=400 from h),if_neg h]
theorem pushN_pl:∀(n:Nat) (r:Tk×List Ev),pushN V n (pl V s r)=pl V s (pushN (rec x) n r)
 |0,r=>rfl
 |n+1,r=>by
  unfold pushN;rw[push_pl V x s 0 r];exact pushN_pl n _
theorem pl_ite{c:Prop} [Decidable c]{a b:Tk×ν}{a' b':Tk×List Ev}(h1:a=pl V s a')(h2:b=pl V s b'):(if c then a else b)=pl V s (if c then a' else b'):=by
 split
 ·exact h1
 ·exact h2
theorem exec_pl(i:Ins)(t:Tk)(hx:i.op=27→x=(V.take s i.a.toNat).1):exec V M i (t,s)=pl V s (loc M x i t):=by
 have e0:∀t:Tk,(t,s)=pl V s (t,[]):=fun _=>rfl
 have tl:∀(t:Tk) (e:Ev),e.1≠2→e.1≠3→(t,V.tell s e)=pl V s (t,[e]):=fun t e h2 h3=>(pl_told V s t [] e h2 h3).symm
 unfold loc exec;dsimp only;refine pl_ite V s (push_pl V x s _ (_,[])) ?_;refine pl_ite V s (push_pl V x s _ (_,[])) ?_;refine pl_ite V s (push_pl V x s _ (_,[])) ?_;refine pl_ite V s rfl ?_;refine pl_ite V s rfl ?_;refine pl_ite V s (push_pl V x s _ (_,[])) ?_;refine pl_ite V s (push_pl V x s _ (_,[])) ?_;refine pl_ite V s (pl_ite V s (trap_pl V x s _ (_,[])) (push_pl V x s _ (_,[]))) ?_;refine pl_ite V s rfl ?_;refine pl_ite V s rfl ?_;refine pl_ite V s rfl ?_
 by_cases h27:i.op=27
 ·rw[if_pos h27,if_pos h27];have hx:=hx h27;have e:((t,V.tell (V.take s i.a.toNat).2 (3,i.a,(V.take s i.a.toNat).1)):Tk×ν)=pl V s (t,[] ++[(3,i.a,x)]):=by
   rw[←hx];rfl
  rw[e,←hx];exact push_pl V x s _ (t,[] ++[(3,i.a,x)])
 rw[if_neg h27,if_neg h27];refine pl_ite V s (tl _ _ (by simp) (by simp)) ?_;refine pl_ite V s ?_ ?_
 ·unfold callU;refine pl_ite V s (trap_pl V x s _ (_,[])) (pushN_pl V x s _ (_,[]))
 refine pl_ite V s ?_ ?_
 ·exact push_pl V x s _ (_,[])
 refine pl_ite V s ?_ ?_
 ·unfold endU;dsimp only
  cases(cur t).up with
  |none=>exact tl _ _ (by simp) (by simp)
  |some j=>exact push_pl V x s _ (_,[])
 refine pl_ite V s ?_ ?_
 ·unfold startU;dsimp only;refine pl_ite V s (trap_pl V x s _ (_,[])) ?_;rw[tl _ _ (by simp) (by simp)];exact push_pl V x s _ (_,[_])
 refine pl_ite V s ?_ ?_
 ·unfold resumeU;dsimp only;refine pl_ite V s (trap_pl V x s _ (_,[])) ?_;refine pl_ite V s (trap_pl V x s _ (_,[])) ?_;exact pl_ite V s rfl (push_pl V x s _ (_,[]))
 refine pl_ite V s ?_ ?_
 ·exact push_pl V x s _ (_,[])
 exact pl_ite V s (push_pl V x s _ (_,[])) rfl
end
def outs(l:List Ev):List Int:=l.filterMap fun e=>if e.1=1 then some e.2.2 else none
theorem outs_app(a b:List Ev):outs (a ++b)=outs a ++outs b:=List.filterMap_append ..
def Psh(t:Tk)(l:List Ev)(r:Tk×List Ev):Prop:=
 (r.2=l∧r.1.st=t.st∧r.1.tr=t.tr∧r.1.out=t.out)∨(r.2=l ++[(5,0,r.1.tr)]∧r.1.st=5∧r.1.out=t.out)
theorem Psh.ite{t:Tk}{l:List Ev}{c:Prop} [Decidable c]{a b:Tk×List Ev}(h1:Psh t l a)(h2:Psh t l b):Psh t l (if c then a else b):=by split<;>assumption
section
variable{x:Int}
theorem trap_psh(n:Int)(r:Tk×List Ev)(h:r.1.st≠5):Psh r.1 r.2 (trap (rec x) n r):=by
 unfold trap;rw[if_neg h];exact .inr ⟨rfl,rfl,rfl⟩
theorem push_psh(v:Int)(r:Tk×List Ev)(h:r.1.st≠5):Psh r.1 r.2 (push (rec x) v r):=by
 unfold push
 split
 ·exact trap_psh _ r h
 ·exact .inl ⟨rfl,rfl,rfl,rfl⟩
theorem push_t{v:Int}{r:Tk×List Ev}(h:r.1.st=5):(push (rec x) v r).2=r.2∧(push (rec x) v r).1.st=5∧(push (rec x) v r).1.tr=r.1.tr∧(push (rec x) v r).1.out=r.1.out:=by
 unfold push
 split
 ·unfold trap;rw[if_pos h];exact⟨rfl,h,rfl,rfl⟩
 ·exact⟨rfl,h,rfl,rfl⟩
theorem pushN_t:∀(n:Nat) {r:Tk×List Ev},r.1.st=5→(pushN (rec x) n r).2=r.2∧(pushN (rec x) n r).1.st=5∧(pushN (rec x) n r).1.tr=r.1.tr∧(pushN (rec x) n r).1.out=r.1.out
 |0,r,h=>⟨rfl,h,rfl,rfl⟩
 |n+1,r,h=>by
  unfold pushN;obtain⟨h1,h2,h3,h4⟩:=push_t (x:=x) (v:=0) h;obtain⟨g1,g2,g3,g4⟩:=pushN_t n h2;exact⟨g1.trans h1,g2,g3.trans h3,g4.trans h4⟩
theorem pushN_psh:∀(n:Nat) (r:Tk×List Ev),r.1.st≠5→Psh r.1 r.2 (pushN (rec x) n r)
 |0,r,h=> .inl ⟨rfl,rfl,rfl,rfl⟩
 |n+1,r,h=>by
  unfold pushN;rcases push_psh (x:=x) 0 r h with⟨h1,h2,h3,h4⟩|⟨h1,h2,h3⟩
  ·rcases pushN_psh n (push (rec x) 0 r) (by rw[h2];exact h)with⟨g1,g2,g3,g4⟩|⟨g1,g2,g3⟩
   ·exact .inl ⟨g1.trans h1,g2.trans h2,g3.trans h3,g4.trans h4⟩
   ·exact .inr ⟨by rw[g1,h1],g2,g3.trans h4⟩
  ·obtain⟨g1,g2,g3,g4⟩:=pushN_t (x:=x) n h2;exact .inr ⟨by rw[g1,h1,g3],g2,g4.trans h3⟩
structure Did(i:Ins)(x:Int)(t:Tk)(r:Tk×List Ev):Prop where
 ex:(∃t1 l1,Psh t1 l1 r∧t1.st=t.st∧t1.tr=t.tr∧t1.out=t.out ++outs l1∧(l1=[]∧i.op≠26∧i.op≠27∨i.op=26∧l1=[(2,i.a,last t)]∨i.op=27∧l1=[(3,i.a,x)]∨i.op=28∧l1=[(1,0,last t)]∨i.op=29∧l1=[(6,0,(i.a.toNat:Int))]))∨(i.op=25∧r.2=[(4,0,0)]∧r.1.st=4∧r.1.tr=t.tr∧r.1.out=t.out)
theorem loc_did(M:Mdl)(x:Int)(i:Ins)(t:Tk)(h5:t.st≠5):Did i x t (loc M x i t):=by
 have nil:∀{r:Tk×List Ev} {t1:Tk},Psh t1 [] r→t1.st=t.st→t1.tr=t.tr→t1.out=t.out→i.op≠26→i.op≠27→Did i x t r:=fun{r t1} h1 h2 h3 h4 h6 h7=>
  ⟨.inl ⟨t1,[],h1,h2,h3,by rw[h4];simp[outs], .inl ⟨rfl,h6,h7⟩⟩⟩
 have pn:∀(v:Int) (t1:Tk),t1.st=t.st→t1.tr=t.tr→t1.out=t.out→i.op≠26→i.op≠27→Did i x t (push (rec x) v (t1,[])):=fun v t1 h2 h3 h4 h6 h7=>
  nil (push_psh v (t1,[]) (by show t1.st≠5;rw[h2];exact h5)) h2 h3 h4 h6 h7
 have tn:∀(n:Int) (t1:Tk),t1.st=t.st→t1.tr=t.tr→t1.out=t.out→i.op≠26→i.op≠27→Did i x t (trap (rec x) n (t1,[])):=fun v t1 h2 h3 h4 h6 h7=>
  nil (trap_psh v (t1,[]) (by show t1.st≠5;rw[h2];exact h5)) h2 h3 h4 h6 h7
 have sn:∀(t1:Tk),t1.st=t.st→t1.tr=t.tr→t1.out=t.out→i.op≠26→i.op≠27→Did i x t (t1,[]):=fun t1 h2 h3 h4 h6 h7=>
  nil (.inl ⟨rfl,rfl,rfl,rfl⟩) h2 h3 h4 h6 h7
 unfold loc exec;dsimp only
 by_cases h1:i.op=1
 ·rw[if_pos h1];exact pn _ _ rfl rfl rfl (by omega) (by omega)
 rw[if_neg h1]
 by_cases h1:i.op=2
 ·rw[if_pos h1];exact pn _ _ rfl rfl rfl (by omega) (by omega)
 rw[if_neg h1]
 by_cases h1:i.op=3
 ·rw[if_pos h1];exact pn _ _ rfl rfl rfl (by omega) (by omega)
 rw[if_neg h1]
 by_cases h1:i.op=4
 ·rw[if_pos h1];exact sn _ rfl rfl rfl (by omega) (by omega)
 rw[if_neg h1]
 by_cases h1:i.op=5
 ·rw[if_pos h1];exact sn _ rfl rfl rfl (by omega) (by omega)
 rw[if_neg h1]
 by_cases h1:i.op=6
 ·rw[if_pos h1];exact pn _ _ rfl rfl rfl (by omega) (by omega)
 rw[if_neg h1]
 by_cases h1:i.op=7
 ·rw[if_pos h1];exact pn _ _ rfl rfl rfl (by omega) (by omega)
 rw[if_neg h1]
 by_cases h1:8≤i.op∧i.op≤20
 ·rw[if_pos h1]
  split
  ·exact tn _ _ rfl rfl rfl (by omega) (by omega)
  ·exact pn _ _ rfl rfl rfl (by omega) (by omega)
 rw[if_neg h1]
 by_cases h1:i.op=21
 ·rw[if_pos h1];exact sn _ rfl rfl rfl (by omega) (by omega)
 rw[if_neg h1]
 by_cases h1:i.op=22
 ·rw[if_pos h1]
  split
  ·exact sn _ rfl rfl rfl (by omega) (by omega)
  ·exact sn _ rfl rfl rfl (by omega) (by omega)
 rw[if_neg h1]
 by_cases h1:i.op=26
 ·rw[if_pos h1];exact⟨.inl ⟨drop 1 t,[(2,i.a,last t)], .inl ⟨rfl,rfl,rfl,rfl⟩,rfl,rfl,by simp[outs,drop,setCur,setC], .inr (.inl ⟨h1,rfl⟩)⟩⟩
 rw[if_neg h1]
 by_cases h1:i.op=27
 ·rw[if_pos h1];exact⟨.inl ⟨t,[(3,i.a,x)],push_psh x (t,[(3,i.a,x)]) h5,rfl,rfl,by simp[outs], .inr (.inr (.inl ⟨h1,rfl⟩))⟩⟩
 rw[if_neg h1]
 by_cases h1:i.op=28
 ·rw[if_pos h1];exact⟨.inl ⟨{drop 1 t with out:=(drop 1 t).out ++[last t]},[(1,0,last t)], .inl ⟨rfl,rfl,rfl,rfl⟩,rfl,rfl,by simp[outs,drop,setCur,setC], .inr (.inr (.inr (.inl ⟨h1,rfl⟩)))⟩⟩
 rw[if_neg h1]
 by_cases h1:i.op=23
 ·rw[if_pos h1];unfold callU
  split
  ·exact tn _ _ rfl rfl rfl (by omega) (by omega)
  ·refine nil (pushN_psh _ (_,[]) ?_) rfl rfl rfl (by omega) (by omega);exact h5
 rw[if_neg h1]
 by_cases h1:i.op=24
 ·rw[if_pos h1];exact pn _ _ rfl rfl rfl (by omega) (by omega)
 rw[if_neg h1]
 by_cases h1:i.op=25
 ·rw[if_pos h1];unfold endU;dsimp only
  cases(cur t).up with
  |none=>exact⟨.inr ⟨h1,rfl,rfl,rfl,rfl⟩⟩
  |some j=>exact pn _ _ rfl rfl rfl (by omega) (by omega)
 rw[if_neg h1]
 by_cases h1:i.op=29
 ·rw[if_pos h1];unfold startU;dsimp only
  split
  ·exact tn _ _ rfl rfl rfl (by omega) (by omega)
  ·exact⟨.inl ⟨{drop (unt M i.a.toNat).params.toNat t with cs:=(drop (unt M i.a.toNat).params.toNat t).cs ++[begin M i.a.toNat ((cur t).ws.drop ((cur t).ws.length-(unt M i.a.toNat).params.toNat))]},[(6,0,(i.a.toNat:Int))],push_psh _ (_,[(6,0,(i.a.toNat:Int))]) h5,rfl,rfl,by simp[outs,drop,setCur,setC], .inr (.inr (.inr (.inr ⟨h1,rfl⟩)))⟩⟩
 rw[if_neg h1]
 by_cases h1:i.op=30
 ·rw[if_pos h1];unfold resumeU;dsimp only
  split
  ·exact tn _ _ rfl rfl rfl (by omega) (by omega)
  split
  ·exact tn _ _ rfl rfl rfl (by omega) (by omega)
  split
  ·exact sn _ rfl rfl rfl (by omega) (by omega)
  ·exact pn _ _ rfl rfl rfl (by omega) (by omega)
 rw[if_neg h1]
 by_cases h1:i.op=31
 ·rw[if_pos h1];exact pn _ _ rfl rfl rfl (by omega) (by omega)
 rw[if_neg h1]
 by_cases h1':i.op=32
 ·rw[if_pos h1'];exact pn _ _ rfl rfl rfl (by omega) (by omega)
 rw[if_neg h1'];exact sn _ rfl rfl rfl (by assumption) (by assumption)
end
end Go.Proofs.Ytgnhfinabhimpaa.Vm
