/- What must be known that a step can be walked comes of a right module's invariant. -/
import Derived.Test.YtgnhfinabhimpaaM26
set_option linter.unusedVariables false
set_option linter.unusedSimpArgs false
set_option linter.unusedSectionVars false
set_option maxRecDepth 100000
namespace Go.Proofs.Ytgnhfinabhimpaa.Vw
open Go.RowKit Go.Proofs.Ytgnhfinabhimpaa.Img
section
variable{E:EnvM}{z:SL E}{m:ML}{T:Nat→Int→Option Ver.Shape}{ch:List Nat}
theorem mdl_len(m:ML):m.mdl.units.length=m.us.length:=List.length_map _
theorem unt_uat(m:ML)(k:Nat):Vm.unt m.mdl k=(m.us.getD k default).u:=m.unit_at k
theorem fr_snoc{l fs0:List Vm.Fr}{f:Vm.Fr}(h:l=fs0 ++[f]):l≠[]:=by rw[h];simp
theorem stands_of(hC:Vm.Certs m.mdl T)(hz:z.Wf)(hok:Vm.Ok m.mdl T z.tk ch)(hb:E.boxes=m.bx.length):Stands m z:=by
 obtain⟨fs0,ws0,q,p,st,hh,loc,op,a⟩:=hok.at_;obtain⟨st',h',hr⟩:=a.here hC;have hfr:z.cur.fr=fs0 ++[⟨q,p,ws0.length⟩]:=by have:=a.fr;rw[hz.cur]at this;exact this
 have hf:z.f=⟨q,p,ws0.length⟩:=hz.topF.symm.trans a.top;have hln:=(hok.lens _ hok.nowlt).2;rw[←Vm.cur_co,hz.cur]at hln;have hq:q<m.us.length:=by rw[←mdl_len];exact a.hq
 have hi:Vm.insT m.mdl z.tk=insL m z:=hz.ins m;refine⟨fr_snoc hfr,hln,by rw[hf];exact hq,?_,fun h=>?_⟩
 ·rw[hf,←unt_uat];exact hr.lt
 ·rw[←hi]at h⊢;have:=hr.ok.box h;have e:(m.mdl.boxes.length:Int)=(m.bx.length:Int):=rfl;omega
theorem canU_of{q:Int}{k:Int}(hC:Vm.Certs m.mdl T)(h:Ver.isUnit m.mdl q k=true):0≤q∧q.toNat<m.us.length∧0≤(m.us.getD q.toNat default).u.params∧(m.us.getD q.toNat default).u.params.toNat≤(m.us.getD q.toNat default).u.locals.length∧(m.us.getD q.toNat default).u.locals.length≤200:=by
 unfold Ver.isUnit at h;simp only[Bool.and_eq_true,decide_eq_true_eq]at h;obtain⟨⟨h1,h2⟩, -⟩:=h;rw[mdl_len]at h2;have hlt:q.toNat<m.us.length:=by omega
 have hh:=Vm.unt_head hC (k:=q.toNat) (by rw[mdl_len];exact hlt);have hf:=Vm.head_facts hh;rw[unt_uat]at hh hf;have hp:0≤(m.us.getD q.toNat default).u.params:=by
  unfold Ver.head at hh
  split at hh
  ·cases hh
  split at hh
  ·cases hh
  omega
 exact⟨h1,hlt,hp,hf.1,hf.2.1⟩
theorem snoc1{a b c:List Int}{v:Int}{n:Nat}(hn:(a ++(b ++(c ++[v]))).length=n):(a ++(b ++(c ++[v]))).getD (n-1) 0=v:=by
 subst hn;have e:a ++(b ++(c ++[v]))=(a ++(b ++c)) ++[v]:=by simp
 rw[e];exact Vm.snoc_getZ _ _
theorem snoc2{a b c:List Int}{x y:Int}{n:Nat}(hn:(a ++(b ++(c ++[x,y]))).length=n):(a ++(b ++(c ++[x,y]))).getD (n-2) 0=x:=by
 subst hn;have e:a ++(b ++(c ++[x,y]))=(a ++(b ++c)) ++[x,y]:=by simp
 rw[e,List.getD_eq_getElem?_getD,List.getElem?_append_right (by simp;omega)];have e2:(a ++(b ++c) ++[x,y]).length-2-(a ++(b ++c)).length=0:=by simp only[List.length_append,List.length_cons,List.length_nil];omega
 rw[e2];rfl
theorem canS_of(hC:Vm.Certs m.mdl T)(hz:z.Wf)(hok:Vm.Ok m.mdl T z.tk ch)(hb:E.boxes=m.bx.length)(ho:z.out.length≤1000000)(hsz:E.size (E.abs z.e)≤1000000)
  (hw:((insL m z).op=26→E.V.full (E.abs z.e) (insL m z).a.toNat=false)∧((insL m z).op=27→E.V.empty (E.abs z.e) (insL m z).a.toNat=false)):CanS m (z.moved m) (insL m z)∧z.f.pc≤100000:=by
 obtain⟨fs0,ws0,q,p,st,hh,loc,op,a⟩:=hok.at_;obtain⟨st',h',hr⟩:=a.here hC;have hn:=hok.nowlt;have hfr:z.cur.fr=fs0 ++[⟨q,p,ws0.length⟩]:=by have:=a.fr;rw[hz.cur]at this;exact this
 have hws:z.cur.sk.ws=ws0 ++(loc ++op):=by have:=a.ws;rw[hz.cur]at this;exact this
 have hf:z.f=⟨q,p,ws0.length⟩:=hz.topF.symm.trans a.top;have hf1:(z.moved m).f=⟨q,p+1,ws0.length⟩:=by
  show(z.cur.fr.set (z.cur.fr.length-1) _).getD ((z.cur.fr.set (z.cur.fr.length-1) _).length-1) default=_;rw[hf,hfr,Vm.snoc_set];exact Vm.snoc_get _ _
 have hln:=(hok.lens _ hn).2;rw[←Vm.cur_co,hz.cur]at hln;have hln:z.cur.fr.length≤40:=hln;have hi:Vm.insT m.mdl z.tk=insL m z:=hz.ins m;rw[hi]at hr;generalize insL m z=i at *;have hlive:ws0.length+(loc.length+op.length)=z.cur.sk.live:=by
  have:=Sk.len hz.curOk;rw[hws]at this;simpa using this
 have hll:=a.loc.len;have hol:=a.op.len;have hio:=hr.ok;have hfl:(z.moved m).cur.fr.length=z.cur.fr.length:=List.length_set;have hne:(z.moved m).cur.fr≠[]:=by
  intro h;have h2:(z.moved m).cur.fr.length=0:=by rw[h];rfl
  rw[hfl,hfr]at h2;simp at h2
 have hcs:z.tk.cs.length=z.oth.length:=by show(z.all.map CoL.abs).length=_;rw[List.length_map,z.allLen]
 have hsn:z.tk.now=z.now:=rfl;have hk1:(z.moved m).top 1=(ws0 ++(loc ++op)).getD (z.cur.sk.live-1) 0:=by show z.cur.sk.ws.getD _ _=_;rw[hws]
 have hk2:(z.moved m).top 2=(ws0 ++(loc ++op)).getD (z.cur.sk.live-2) 0:=by show z.cur.sk.ws.getD _ _=_;rw[hws]
 have hlen:(ws0 ++(loc ++op)).length=z.cur.sk.live:=by simpa using hlive
 have hchain:=hok.chain 0 z.now hok.now;have hcur0:Vm.co z.tk z.now=z.cur.abs:=by rw[←hz.cur];rfl
 rw[hcur0]at hchain;have hup:z.cur.up=ch[1]?:=hchain;refine⟨⟨fun h=>?_,fun h=>?_,fun h=>?_,fun h=>?_,fun h=>(hio.jump h).1,fun h=>?_,fun h=>?_,hsz,fun _=>ho,⟨fun h=>?_,fun h=>?_,fun h=>?_,fun h=>?_,fun h=>?_,hsz,fun h=>?_⟩,hio.op,hr.in64.2⟩,?_⟩
 ·show 0<z.cur.sk.live;have:0<op.length:=by
   rw[←hol]
   cases hr.does with
   |_=>first|(exfalso;omega)|(simp;done)
  omega
 ·show 2≤z.cur.sk.live∧_∧_;have hk:∃s1 t1 t2,st=s1 ++[t1,t2]:=by
   cases hr.does with
   |arith s1 _ _=>exact⟨s1,1,1,rfl⟩
   |eq s1 _ ty _ _=>exact⟨s1,ty,ty,rfl⟩
   |cmp s1 _ _=>exact⟨s1,1,1,rfl⟩
   |logic s1 _ _=>exact⟨s1,2,2,rfl⟩
   |_=>exfalso;omega
  obtain⟨s1,t1,t2,e⟩:=hk;have ht:=a.op;rw[e]at ht;obtain⟨op1,y,e1,g1,g2⟩:=ht.split;obtain⟨x,y,rfl,hx,hy⟩:=g2.un2;subst e1;refine⟨by simp at hlive;omega,?_,?_⟩
  ·rw[hk1];have:=snoc1 (a:=ws0) (b:=loc) (c:=op1 ++[x]) (v:=y) (n:=z.cur.sk.live) (by simpa using hlive);rw[List.append_assoc]at this;rw[show [x] ++[y]=[x,y]from rfl]at this;rw[this];exact hy.1
  ·rw[hk2,snoc2 hlen];exact hx.1
 ·have h1:=hio.loc (.inl h);rw[hf1];refine⟨h1.1,?_⟩;show ws0.length+i.a.toNat<z.cur.sk.live;omega
 ·have h1:=hio.loc (.inr h);rw[hf1];refine⟨h1.1,?_⟩;show ws0.length+i.a.toNat<z.cur.sk.live-1;have:0<op.length:=by
   rw[←hol]
   cases hr.does with
   |store _ _ _=>simp
   |_=>exfalso;omega
  omega
 ·have h1:=hio.box (.inl h);have e:(m.mdl.boxes.length:Int)=(m.bx.length:Int):=rfl;exact⟨h1.1,by omega,hw.1 h⟩
 ·have h1:=hio.box (.inr h);have e:(m.mdl.boxes.length:Int)=(m.bx.length:Int):=rfl;exact⟨h1.1,by omega,hw.2 h⟩
 ·have hk:∃k,Ver.isUnit m.mdl i.a k=true:=by
   rcases h with h|h
   ·exact⟨_,hio.call h⟩
   ·exact⟨_,hio.start h⟩
  obtain⟨k,hk⟩:=hk;obtain⟨c1,c2,c3,c4,c5⟩:=canU_of hC hk;refine⟨c1,c2,c3,?_,c4,c5,by rw[hfl];exact hln⟩;show _≤z.cur.sk.live;have hp:(Vm.unt m.mdl i.a.toNat).params.toNat≤op.length:=by
   have hle:(Vm.unt m.mdl i.a.toNat).params.toNat≤(Vm.unt m.mdl i.a.toNat).locals.length:=by rw[unt_uat];exact c4
   have key:∀(s:List Int) (u:ImgM.Unt),u.params.toNat≤u.locals.length→u.params.toNat≤(s ++u.locals.take u.params.toNat).length:=fun s u h=>by
    rw[List.length_append,List.length_take];omega
   rw[←hol]
   cases hr.does with
   |call _ _ _=>exact key _ _ hle
   |start _ _ _=>exact key _ _ hle
   |_=>exfalso;omega
  rw[unt_uat]at hp;omega
 ·have h1:op.length=1:=by
   rw[←hol]
   cases hr.does with
   |ret _ _ _=>rfl
   |_=>exfalso;omega
  refine⟨?_,hne,by rw[hfl];exact hln,?_⟩
  ·show 0<z.cur.sk.live;omega
  ·rw[hf1];show ws0.length≤z.cur.sk.live-1;omega
 ·intro j hj;have hj':z.cur.up=some j:=hj;rw[hup]at hj';exact hok.ne1 hj'
 ·have hk:∃s1 g t,st=s1 ++[10+g,t]∧Ver.handle m.mdl (10+g)=true:=by
   cases hr.does with
   |resume s1 _ g _ hg=>exact⟨s1,g,_,rfl,hg⟩
   |_=>exfalso;omega
  obtain⟨s1,g,t2,e,hg⟩:=hk;have ht:=a.op;rw[e]at ht;obtain⟨op1,y,e1,g1,g2⟩:=ht.split;obtain⟨x,y,rfl,hx,hy⟩:=g2.un2;subst e1;have hg0:10≤10+g:=by
   unfold Ver.handle at hg;rw[Bool.and_eq_true,decide_eq_true_eq]at hg;exact hg.1
  obtain⟨k,rfl,hk,hgk,hk0⟩:=hx.2.2 hg0;rw[Vm.gsOf_len,hcs]at hk;have e2:(z.moved m).top 2=(k:Int):=by rw[hk2,snoc2 hlen]
  rw[e2];refine⟨by show 2≤z.cur.sk.live;simp at hlive;omega,by omega,by rw[Int.toNat_natCast];exact hk,?_,?_⟩
  ·have hin:z.tk.now∈ch:=List.mem_of_getElem? hok.now;have:=(hok.going _ hn).2 hin;rw[hsn,hcur0]at this;exact this
  ·rw[Int.toNat_natCast]
   by_cases hkn:z.now=k
   ·right;exact hkn.symm
   ·left
    have h3:=hok.sts k (by rw[hcs];exact hk);have e3:Vm.co z.tk k=(z.oth.getD k default).abs:=by
     rw[←hz.oth hkn];exact getD_map0 _ _ (by rw[z.allLen];exact hk)
    rw[e3]at h3;exact h3
 ·have hk:∃s1 t,st=s1 ++[t]∧(Vm.unt m.mdl q).kind=3:=by
   cases hr.does with
   |yield s1 _ _ hk=>exact⟨s1,_,rfl,hk⟩
   |_=>exfalso;omega
  obtain⟨s1,t,e,hk3⟩:=hk;have hb0:=hok.kinds _ hn;rw[←Vm.cur_co]at hb0;have hbot:=Vm.alone_bot hok a (by omega);have hn0:z.tk.now≠0:=fun e=>by rw[hbot,if_pos e,hk3]at hb0;omega
  refine⟨?_,?_⟩
  ·show 0<z.cur.sk.live;rw[e]at hol;simp at hol;omega
  ·cases hj:ch[1]? with
   |none=>exact absurd (hok.root 0 z.tk.now hok.now hj) hn0
   |some j=>exact⟨j,by show z.cur.up=_;rw[hup,hj],hok.ne1 hj⟩
 ·have hk:∃s1 g,st=s1 ++[10+g]∧Ver.handle m.mdl (10+g)=true:=by
   cases hr.does with
   |alive s1 _ g _ hg=>exact⟨s1,g,rfl,hg⟩
   |_=>exfalso;omega
  obtain⟨s1,g,e,hg⟩:=hk;have ht:=a.op;rw[e]at ht;obtain⟨op1,y,e1,g1,g2⟩:=ht.split;obtain⟨x,rfl,hx⟩:=g2.un1;subst e1;have hg0:10≤10+g:=by
   unfold Ver.handle at hg;rw[Bool.and_eq_true,decide_eq_true_eq]at hg;exact hg.1
  obtain⟨k,rfl,hk,hgk,hk0⟩:=hx.2.2 hg0;rw[Vm.gsOf_len,hcs]at hk;have e2:(z.moved m).top 1=(k:Int):=by rw[hk1,snoc1 hlen]
  rw[e2];exact⟨by show 0<z.cur.sk.live;simp at hlive;omega,by omega,by rw[Int.toNat_natCast];exact hk⟩
 ·rw[hf];show p≤100000;have hh:=Vm.unt_head hC a.hq;have hlt:=hr.lt;unfold Ver.head at hh
  split at hh
  ·cases hh
  split at hh
  ·cases hh
  split at hh
  ·cases hh
  omega
end
end Go.Proofs.Ytgnhfinabhimpaa.Vw


namespace Go.Proofs.Ytgnhfinabhimpaa.Vw
open Go.RowKit Go.Proofs.Ytgnhfinabhimpaa.Img
attribute [local irreducible] Run Cod End OpT Still RunQ RunS RunT Fn PutOk
section
variable{E:EnvM}{m:ML}{T:Nat→Int→Option Ver.Shape}{K:E.ν→Prop}
theorem good_stands{z:SL E}(hC:Vm.Certs m.mdl T)(hz:z.Wf)(hb:E.boxes=m.bx.length)(hg:Vm.Good m.mdl T K z.two)(h3:z.st≤3):Stands m z:=by
 rcases hg.1 with h|h|h
 ·exact absurd (show z.st=5 from h) (by omega)
 ·exact absurd (show z.st=4 from h) (by omega)
 ·obtain⟨ch,hok⟩:=h.2;exact stands_of hC hz hok hb
theorem look_task(p:Pl)(z:SL E)(hC:Vm.Certs p.m.mdl T)(hz:z.Wf)(hb:E.boxes=p.m.bx.length)(hg:Vm.Good p.m.mdl T K z.two):
  Fn Try.prog 18 #[ptr p.tb] [md p.m,E.rc] [tkM p z,moM p,ccM z.cur,frM z.cur,E.mem z.e] (σ:=Unit) (fun _=>True) (fun _=> .tuple #[]) (fun _=>[tkM p (z.look p.m),moM p,ccM z.cur,frM z.cur,E.mem z.e]):=
 look_is p z hz (good_stands hC hz hb hg)
theorem step_task(p:Pl)(z:SL E)(hC:Vm.Certs p.m.mdl T)(hV:Vm.EnvOk E.V p.m.mdl K)(hz:z.Wf)(hb:E.boxes=p.m.bx.length)(hg:Vm.Good p.m.mdl T K z.two)(ho:z.out.length≤1000000)(hsz:E.size (E.abs z.e)≤1000000):
  Fn Try.prog 19 #[ptr p.tb] [md p.m,E.rc] (TM p z) (σ:=SL E) (Gives z (Vm.step E.V p.m.mdl z.two).2) (fun _=> .bool (Vm.step E.V p.m.mdl z.two).1) (fun z'=>TM p z'):=by
 by_cases h1:(z.look p.m).st=1
 ·have h3:z.st≤3:=by
   refine Int.not_lt.1 fun h=>?_
   have h1':(if z.st≤3 then wst E (insL p.m z) (E.abs z.e)else z.st)=1:=h1;rw[if_neg (by omega)]at h1';omega
  have h1':wst E (insL p.m z) (E.abs z.e)=1:=by
   have h1':(if z.st≤3 then wst E (insL p.m z) (E.abs z.e)else z.st)=1:=h1;rwa [if_pos h3]at h1'
  have hw:((insL p.m z).op=26→E.V.full (E.abs z.e) (insL p.m z).a.toNat=false)∧((insL p.m z).op=27→E.V.empty (E.abs z.e) (insL p.m z).a.toNat=false):=by
   unfold wst at h1';refine⟨fun ho=>?_,fun ho=>?_⟩
   ·cases hx:E.V.full (E.abs z.e) (insL p.m z).a.toNat with
    |false=>rfl
    |true=>rw[if_pos ⟨ho,hx⟩]at h1';cases h1'
   ·rw[if_neg (by omega)]at h1'
    cases hx:E.V.empty (E.abs z.e) (insL p.m z).a.toNat with
    |false=>rfl
    |true=>rw[if_pos ⟨ho,hx⟩]at h1';cases h1'
  obtain⟨ch,hok⟩:∃ch,Vm.Ok p.m.mdl T z.tk ch:=by
   rcases hg.1 with h|h|h
   ·exact absurd (show z.st=5 from h) (by omega)
   ·exact absurd (show z.st=4 from h) (by omega)
   ·exact h.2
  obtain⟨hc,hpc⟩:=canS_of hC hz hok hb ho hsz hw;have hs:=stands_of hC hz hok hb;have hlook:(z.look p.m).two=((z.look p.m).tk,E.abs z.e):=rfl;have hokl:Vm.Ok p.m.mdl T (z.look p.m).tk ch:=hok.st _ _;have hi:Vm.insT p.m.mdl (z.look p.m).tk=insL p.m z:=(hz.look p.m).ins p.m;have hres:=Vm.exec_res hC hV hokl (s:=E.abs z.e) hg.2 (by rw[hi];exact hw);rw[hi,←hz.moved_two]at hres;have ha:After p.m (z.moved p.m) (insL p.m z):=fun z2 hz2 e h3=>by
   rw[←e]at hres;rcases hres.1 with h|h|⟨ch',h⟩
   ·exact absurd (show z2.st=5 from h) (by omega)
   ·exact absurd (show z2.st=4 from h) (by omega)
   ·exact stands_of hC hz2 h hb
  have ho:=hc.op
  by_cases c1:(insL p.m z).op=1∨(insL p.m z).op=2
  ·exact step1_is p z hz hs h1 hpc hc ha c1
  by_cases c2:(insL p.m z).op=5∨(insL p.m z).op=6∨(insL p.m z).op=7
  ·exact step2_is p z hz hs h1 hpc hc ha c2
  by_cases c3:8≤(insL p.m z).op∧(insL p.m z).op≤20
  ·exact step3_is p z hz hs h1 hpc hc ha c3
  by_cases c4:(insL p.m z).op=21
  ·exact step4_is p z hz hs h1 hpc hc ha c4
  by_cases c5:(insL p.m z).op=22
  ·exact step5_is p z hz hs h1 hpc hc ha c5
  by_cases c6:(insL p.m z).op=28
  ·exact step6_is p z hz hs h1 hpc hc ha c6
  by_cases c7:(insL p.m z).op=26
  ·exact step7_is p z hz hs h1 hpc hc ha c7
  by_cases c8:(insL p.m z).op=27
  ·exact step8_is p z hz hs h1 hpc hc ha c8
  by_cases c9:(insL p.m z).op=3
  ·exact step9_is p z hz hs h1 hpc hc ha c9
  by_cases c10:(insL p.m z).op=4
  ·exact step10_is p z hz hs h1 hpc hc ha c10
  exact step11_is p z hz hs h1 hpc hc ha (by omega)
 ·exact step0_is p z hz (good_stands hC hz hb hg) h1
end
structure Born(u n:Nat)(c:CoL):Prop where
 st:c.st=2
 up:c.up=none
 upb:c.upb=none
 fr:c.fr=[⟨u,0,0⟩]
 ok:c.sk.Ok
 ws:c.sk.ws=List.replicate n 0
theorem new_is(mb:Nat)(m:ML)(u:Nat)(hu:u<m.us.length)(t:TypeId)(rv:Value)(hl:(m.us.getD u default).u.locals.length≤200):
  Fn Try.prog 17 #[ptr mb, .int .i64 (u:Int), .iface t rv] [md m] [blk mb (mdV m) 25] (σ:=Nat×Nat×CoL)
   (fun s=>Born u (m.us.getD u default).u.locals.length s.2.2) (fun s=>ptr s.1) (fun s=>[blk s.1 (tcl mb (.iface t rv) (.slice (some ⟨s.2.1,0,none⟩) 1 1) s.2.2.cb 1 0 0 (.slice none 0 0) .nilFunc) 68,blk mb (mdV m) 25,arr (some ⟨s.2.1,0,none⟩) 1 1 65 ptrC [s.2.2.cb],arr none 0 0 2 i64c ([]:List Int),bagM [],ccM s.2.2,frM s.2.2,blk s.2.2.sk.sb (skC s.2.2.sk) 145,arr (some ⟨s.2.2.sk.lb,0,none⟩) s.2.2.sk.l.length s.2.2.sk.l.length 2 i64c s.2.2.sk.l]):=by
 refine Fn.enter (args:=[ptr mb, .int .i64 (u:Int), .iface t rv]) Try.func17 rfl _ Try.ntmps17 rfl (by simp[rd_excl,md_excl]) (fun w S=>?_);(refine Jn ?_)
 repeat(refine Jy ?_;try first|intro ao cap|intro b)
 obtain⟨tb,rfl⟩:∃x,x=b:=⟨_,rfl⟩;apply Run.imp' (fun w hm=>hm.nilArr 2 i64c);(apply Run.op;exact rfl;refine OpT.call0_ (spec:=begin_is tb mb m _ u hu none 0 [] hl (by simp)) (k:=?_);intro s hs;(refine Jn ?_));obtain⟨c,rfl⟩:∃x,x=s:=⟨_,rfl⟩;have hst:=hs.st
 repeat(refine Jy ?_;try first|intro ao cap|intro b)
 obtain⟨ob,rfl⟩:∃x,x=b:=⟨_,rfl⟩;apply End.imp (fun w hm=>Mem.toArr (b:=ob) (e:=65) (f:=ptrC) (n:=1) hm (tk) [c.cb] rfl rfl (by unfold maxLen;simp));apply End.imp (fun w hm=>hm.bagNil);refine End.done1_ ((tb,ob,{c with st:=2}):Nat×Nat×CoL) (he:=by rfl) (hp:=⟨rfl,hs.up,hs.upb,hs.fr,hs.ok,hs.ws.trans ?_⟩);refine List.ext_getElem (by simp) fun i h1 h2=>?_
 simp
end Go.Proofs.Ytgnhfinabhimpaa.Vw


namespace Go.Proofs.Ytgnhfinabhimpaa.Vw
open Go.RowKit Go.Proofs.Ytgnhfinabhimpaa.Img
abbrev SL.born(E:EnvM)(ob:Nat)(c:CoL)(e:E.μ):SL E:=⟨some ⟨ob,0,none⟩,1,[c.cb],[c],0,c,1,0,0,none,0,[],e⟩
theorem born_wf{E:EnvM}{u n:Nat}{c:CoL}(h:Born u n c)(ob:Nat)(e:E.μ)(he:E.ok e):(SL.born E ob c e).Wf:=by
 have hall:(SL.born E ob c e).all=[c]:=rfl;refine⟨Nat.zero_lt_one,rfl,by simp,fun i hi=>?_,fun d hd=>?_,fun d hd j hj=>?_,fun d hd=>?_,he⟩
 ·have:i=0:=by simpa using hi
  subst this;rfl
 ·rw[hall]at hd;simp at hd;subst hd;rw[h.up,h.upb];rfl
 ·rw[hall]at hd;simp at hd;subst hd;rw[h.up]at hj;cases hj
 ·rw[hall]at hd;simp at hd;subst hd;exact h.ok
theorem born_two{E:EnvM}{m:ML}{u:Nat}{c:CoL}(h:Born u (m.us.getD u default).u.locals.length c)(ob:Nat)(e:E.μ):(SL.born E ob c e).two=(Vm.new m.mdl u,E.abs e):=by
 have hall:(SL.born E ob c e).all=[c]:=rfl;unfold SL.two SL.tk Vm.new;rw[hall];simp only[List.map_cons,List.map_nil];congr 3;unfold CoL.abs Vm.begin;rw[h.st,h.up,h.fr,h.ws];have e1:(Vm.unt m.mdl u).locals.length=(m.us.getD u default).u.locals.length:=by unfold Vm.unt;rw[ML.unit_at]
 simp only[Vm.Co.mk.injEq,List.cons.injEq,and_true,true_and];rw[e1];refine List.ext_getElem (by simp) fun i h1 h2=>?_
 simp
theorem new_good{m:ML}{T:Nat→Int→Option Ver.Shape}{ν:Type}{K:ν→Prop}(hC:Vm.Certs m.mdl T){u:Nat}(hu:u<m.us.length)(hk:(m.us.getD u default).u.kind=4){s:ν}(hs:K s):Vm.Good m.mdl T K (Vm.new m.mdl u,s):=
 ⟨.inr (.inr ⟨show(1:Int)≤3 by decide,[0],Vm.new_ok hC (by simpa using hu) (by unfold Vm.unt;rw[ML.unit_at];exact hk)⟩),hs⟩
theorem tasks_mem{m:ML}{k:Nat}(h:k<(Vm.tasks m.mdl).length):(Vm.tasks m.mdl).getD k 0<m.us.length∧(m.uat ((Vm.tasks m.mdl).getD k 0)).u.kind=4:=by
 have hm:(Vm.tasks m.mdl).getD k 0∈Vm.tasks m.mdl:=by
  rw[List.getD_eq_getElem?_getD,List.getElem?_eq_getElem h];exact List.getElem_mem h
 generalize(Vm.tasks m.mdl).getD k 0=u at *;unfold Vm.tasks at hm;rw[List.mem_filter,List.mem_range,decide_eq_true_eq,ML.unit_at]at hm;exact⟨by simpa using hm.1,hm.2⟩
end Go.Proofs.Ytgnhfinabhimpaa.Vw


namespace Go.Proofs.Ytgnhfinabhimpaa.Vw
open Go.RowKit Go.Proofs.Ytgnhfinabhimpaa.Img
attribute [local irreducible] Run Cod End OpT Still RunQ RunS RunT Fn PutOk
structure RpL where
 st:Int
 bx:Int
 tr:Int
 oo:Option Addr
 oc:Nat
 out:List Int
 so:Option Addr
 sc:Nat
 sent:List Rw
 ko:Option Addr
 kc:Nat
 took:List Nat
 steps:Nat
abbrev RpL.cells(r:RpL):List Value:=[.int .i64 r.st, .int .i64 r.bx, .int .i64 r.tr, .slice r.oo r.out.length r.oc, .slice r.so r.sent.length r.sc, .slice r.ko r.took.length r.kc, .int .i64 (r.steps:Int)]
abbrev RpL.mem(r:RpL):List Chunk:=[arr r.oo r.out.length r.oc 2 i64c r.out,arr r.so r.sent.length r.sc 38 rwC r.sent,bag (r.sent.map (rowM 2)),arr r.ko r.took.length r.kc 3 natC r.took]
def RpL.zero:RpL:=⟨0,0,0,none,0,[],none,0,[],none,0,[],0⟩
structure RpL.Is(r:RpL)(s:Nat×(Vm.Tk×Vm.Ls)):Prop where
 st:r.st=s.2.1.st
 bx:r.bx=s.2.1.bx
 tr:r.tr=s.2.1.tr
 out:r.out=s.2.1.out
 sent:r.sent.map (·.l)=s.2.2.sent
 took:r.took=s.2.2.took
 steps:r.steps=s.1
def unitOf(m:ML)(task:Int):Nat:=(Vm.tasks m.mdl).getD task.toNat 0
def IsSolo(m:ML)(f:FL)(task most:Int)(r:RpL):Prop:=
 if Vm.soloErr m.mdl task f.ws most=0 then r.Is (Vm.solo m.mdl (unitOf m task) f.ws most.toNat)else r=RpL.zero
theorem Mem.rowsNil{w:World}{L:List Chunk}(t:TypeId)(n:Nat)(h:Mem w L):Mem w (bag ((List.replicate n (⟨none,0,[]⟩:Rw)).map (rowM t))::L):=by
 have key:∀n:Nat,Mem w ((List.replicate n (⟨none,0,[]⟩:Rw)).map (rowM t) ++L):=fun n=>by
  induction n with
  |zero=>exact h
  |succ n ih=>rw[List.replicate_succ,List.map_cons];exact ih.nilArr t i64c
 exact(key n).pack (fun c hc=>by
  obtain⟨r, -,rfl⟩:=List.mem_map.1 hc;exact arr_excl)
def rowBad(m:ML)(f:FL)(k:Nat):Bool:=(f.l.getD k default).l.any (Vm.badW (m.bx.getD k default).1)
theorem fed_of{m:ML}{f:FL}(h5:f.l.length=m.bx.length)(h64:∀l∈f.ws,∀v∈l,ImgM.In64 v)(hg:∀k,k<f.l.length→rowBad m f k=false):Vm.Fed m.mdl f.ws:=by
 refine⟨by simpa using h5,h64,fun b hb h2 v hv=>?_⟩;have:=hg b (by rw[h5];exact hb);rw[getD_ws]at hv;unfold rowBad at this;rw[List.any_eq_false]at this;have:=this v hv;unfold Vm.badW at this;have h2':(m.bx.getD b default).1=2:=h2;rw[h2']at this;simp only[decide_true,Bool.true_and,Bool.and_eq_true,decide_eq_true_eq]at this;omega
theorem lsNew_ok(f:FL):LsOk f ⟨List.replicate f.l.length 0,List.replicate f.l.length ⟨none,0,[]⟩⟩:=⟨by simp,by simp,fun b hb=>by rw[Vm.getD_rep];exact Nat.zero_le _⟩
theorem lsNew_abs(f:FL):LsE.abs ⟨List.replicate f.l.length 0,List.replicate f.l.length ⟨none,0,[]⟩⟩=Vm.Ls.new f.ws.length:=by
 unfold LsE.abs Vm.Ls.new;simp
theorem rng_any{n:Nat}{p:Nat→Bool}(h:∀k,k<n→p k=false):(List.range n).any p=false:=by
 rw[List.any_eq_false];intro k hk;rw[List.mem_range]at hk;rw[h k hk];simp
theorem anyW{l:List Int}{p:Int→Bool}{k:Nat}(h:k<l.length)(hp:p (l.getD k default)=true):l.any p=true:=by
 rw[List.any_eq_true];refine⟨_,?_,hp⟩;rw[List.getD_eq_getElem?_getD,List.getElem?_eq_getElem h];exact List.getElem_mem h
theorem badAny{m:ML}{f:FL}:((List.range f.ws.length).any fun i=>(f.ws.getD i []).any (Vm.badW (m.mdl.boxes.getD i default).1))=(List.range f.l.length).any (rowBad m f):=by
 simp only[FL.ws,List.length_map];congr 1
 funext i
 rw[getD_ws];rfl
theorem soloErr_eq{m:ML}{f:FL}{task most:Int}(hv:Ver.verify m.mdl= .ok):Vm.soloErr m.mdl task f.ws most=if task<0∨((Vm.tasks m.mdl).length:Int)≤task∨most<0∨5000<most then 3
 else if f.l.length≠m.bx.length then 5 else if(List.range f.l.length).any (rowBad m f)then 9 else 0:=by
 unfold Vm.soloErr;rw[if_neg (by rw[hv];exact fun h=>h rfl),badAny,show f.ws.length=f.l.length by simp]
set_option maxHeartbeats 4000000 in
theorem solo_is(m:ML)(hwf:m.Wf)(f:FL)(h64:∀l∈f.ws,∀v∈l,ImgM.In64 v)(task most:Int):
  Fn Try.prog 9 #[m.val, .int .i64 task,f.val, .int .i64 most] [md m,fd f] [] (σ:=RpL) (IsSolo m f task most) (fun r=> .tuple #[.agg r.cells.toArray, .int .i64 (Vm.soloErr m.mdl task f.ws most)]) RpL.mem:=by
 obtain⟨er,her⟩:∃er,er=Vm.soloErr m.mdl task f.ws most:=⟨_,rfl⟩;rw[←her];have hbad:er≠0→IsSolo m f task most RpL.zero:=fun h=>by unfold IsSolo;rw[if_neg (by rw[←her];exact h)]
 refine Fn.enter (args:=[m.val, .int .i64 task,f.val, .int .i64 most]) Try.func9 rfl _ Try.ntmps9 rfl (by simp[fd_excl,md_excl]) (fun w S=>?_);(refine Jn ?_);apply Cod.fact m.Small (fun w hm=>(md_holds.1 (hm.has (tk))).small);intro hsm;apply Cod.fact (f.l.length≤9223372036854775807∧∀k,k<f.l.length→(f.l.getD k default).l.length≤9223372036854775807) (fun w hm=>(fd_holds.1 (hm.has (tk))).small);intro hfs
 repeat(refine Jy ?_;try first|intro ao cap|intro b)
 obtain⟨rb,rfl⟩:∃x,x=b:=⟨_,rfl⟩;(apply Run.op;exact rfl;refine JK (verify_is m hwf) ?_;intro s hs;(refine Jn ?_))
 by_cases hv:Ver.verify m.mdl= .ok
 ·rw[hv];have her0:=her;rw[soloErr_eq hv]at her;have hF:=formed (Ver.verify_iff.1 hv).form;have hu30:=hF.units;have hb30:=hF.boxes
  repeat(refine Jy ?_;try first|intro ao cap|intro b)
  obtain⟨wb,rfl⟩:∃x,x=b:=⟨_,rfl⟩;obtain⟨mb,rfl⟩:∃x,x=b:=⟨_,rfl⟩;(apply Run.op;exact rfl;refine JK (tasks_is mb m (by omega)) ?_;intro s hs;(refine Jn ?_));obtain⟨ko,kc⟩:=s;have htl:(Vm.tasks m.mdl).length≤30:=by
   rw[tasks_eq];have:=tasks_len m m.us.length;omega
  by_cases h3:task<0∨((Vm.tasks m.mdl).length:Int)≤task∨most<0∨5000<most
  ·rw[if_pos h3]at her;subst her
   by_cases c1:task<0
   ·repeat(refine Jy ?_;try first|intro ao cap|intro b)
    apply End.imp (fun w hm=>(((hm.bagNil).nilArr 2 i64c).nilArr 38 rwC).nilArr 3 natC);(refine End.doneC2_ (RpL.zero) (he:=Jv) (hp:=?_));exact hbad (by omega)
   by_cases c2:((Vm.tasks m.mdl).length:Int)≤task
   ·repeat(refine Jy ?_;try first|intro ao cap|intro b)
    apply End.imp (fun w hm=>(((hm.bagNil).nilArr 2 i64c).nilArr 38 rwC).nilArr 3 natC);(refine End.doneC2_ (RpL.zero) (he:=Jv) (hp:=?_));exact hbad (by omega)
   by_cases c3:most<0
   ·repeat(refine Jy ?_;try first|intro ao cap|intro b)
    apply End.imp (fun w hm=>(((hm.bagNil).nilArr 2 i64c).nilArr 38 rwC).nilArr 3 natC);(refine End.doneC2_ (RpL.zero) (he:=Jv) (hp:=?_));exact hbad (by omega)
   have c4:5000<most:=by omega
   repeat(refine Jy ?_;try first|intro ao cap|intro b)
   apply End.imp (fun w hm=>(((hm.bagNil).nilArr 2 i64c).nilArr 38 rwC).nilArr 3 natC);(refine End.doneC2_ (RpL.zero) (he:=Jv) (hp:=?_));exact hbad (by omega)
  rw[if_neg h3]at her;have c1:¬task<0:=fun h=>h3 (.inl h)
  have c2:¬((Vm.tasks m.mdl).length:Int)≤task:=fun h=>h3 (.inr (.inl h))
  have c3:¬most<0:=fun h=>h3 (.inr (.inr (.inl h)))
  have c4:¬5000<most:=fun h=>h3 (.inr (.inr (.inr h)))
  by_cases h5:f.l.length≠m.bx.length
  ·rw[if_pos h5]at her;subst her
   repeat(refine Jy ?_;try first|intro ao cap|intro b)
   apply End.imp (fun w hm=>(((hm.bagNil).nilArr 2 i64c).nilArr 38 rwC).nilArr 3 natC);(refine End.doneC2_ (RpL.zero) (he:=Jv) (hp:=?_));exact hbad (by omega)
  rw[if_neg h5]at her;have h5:f.l.length=m.bx.length:=Classical.not_not.1 h5
  repeat(refine Jy ?_;try first|intro ao cap|intro b)
  apply Cod.imp (fun w hm=>Mem.fdOut (tk) hm);refine Cod.only ((fun k=>[old w S,md m,fd f,rd f.o f.l.length f.c rwC f.l,blk mb (mdV m) 25,blk rb RpL.zero.cells 40,arr ko (Vm.tasks m.mdl).length kc 3 natC (Vm.tasks m.mdl)]) 0) (tks) ?_;apply Cod.loop (σ:=Nat) (fun k=>k≤f.l.length∧∀j,j<k→rowBad m f j=false) (fun k=>[(1, .int .i64 task),(2,f.val),(3, .int .i64 most),(4,ptr mb),(8,ptr rb),(9, .int .i64 0),(11, .slice ko (Vm.tasks m.mdl).length kc),(52,f.val),(53, .int .i64 (f.l.length:Int)),(54, .int .i64 (k:Int))]) (fun k=>[old w S,md m,fd f,rd f.o f.l.length f.c rwC f.l,blk mb (mdV m) 25,blk rb RpL.zero.cells 40,arr ko (Vm.tasks m.mdl).length kc 3 natC (Vm.tasks m.mdl)]) (fun k=>f.l.length-k) 0
  rotate_left
  exact sb;exact tks;intro k hk K1 hK1;(refine Jn ?_)
  rotate_left
  ·exact⟨Nat.zero_le _,fun j hj=>by omega⟩
  obtain⟨hk,hgood⟩:=hk
  by_cases hkn:k<f.l.length
  ·apply Cod.imp (fun w hm=>Mem.fdRow hkn (tk) hm);have hkl:=hfs.2 k hkn;obtain⟨r,hr⟩:∃r,r=f.l.getD k default:=⟨_,rfl⟩;rw[←hr]at hkl⊢;have hbd:rowBad m f k=r.l.any (Vm.badW (m.bx.getD k default).1):=by unfold rowBad;rw[←hr]
   repeat(refine Jy ?_;try first|intro ao cap|intro b)
   simp only[←hr];refine Cod.only ((fun j=>[old w S,md m,fd f,rd f.o f.l.length f.c rwC f.l,rd r.o r.l.length r.c i64c r.l,blk mb (mdV m) 25,blk rb RpL.zero.cells 40,arr ko (Vm.tasks m.mdl).length kc 3 natC (Vm.tasks m.mdl)]) 0) (tks) ?_;apply Cod.loop (σ:=Nat) (fun j=>j≤r.l.length∧∀i,i<j→Vm.badW (m.bx.getD k default).1 (r.l.getD i default)=false) (fun j=>[(1, .int .i64 task),(2,f.val),(3, .int .i64 most),(4,ptr mb),(8,ptr rb),(9, .int .i64 0),(11, .slice ko (Vm.tasks m.mdl).length kc),(12, .int .i64 (k:Int)),(52,f.val),(53, .int .i64 (f.l.length:Int)),(54, .int .i64 (k:Int)),(59, .slice r.o r.l.length r.c),(60, .int .i64 (r.l.length:Int)),(61, .int .i64 (j:Int))]) (fun j=>[old w S,md m,fd f,rd f.o f.l.length f.c rwC f.l,rd r.o r.l.length r.c i64c r.l,blk mb (mdV m) 25,blk rb RpL.zero.cells 40,arr ko (Vm.tasks m.mdl).length kc 3 natC (Vm.tasks m.mdl)]) (fun j=>r.l.length-j) 0
   rotate_left
   exact sb;exact tks;intro j hj K2 hK2;(refine Jn ?_)
   rotate_left
   ·exact⟨Nat.zero_le _,fun i hi=>by omega⟩
   obtain⟨hj,hg2⟩:=hj
   by_cases hjn:j<r.l.length
   ·by_cases hbw:Vm.badW (m.bx.getD k default).1 (r.l.getD j default)=true
    ·have hb9:rowBad m f k=true:=by rw[hbd];exact anyW hjn hbw
     have hany:(List.range f.l.length).any (rowBad m f)=true:=List.any_eq_true.2 ⟨k,List.mem_range.2 hkn,hb9⟩;rw[if_pos hany]at her;subst her;unfold Vm.badW at hbw;rw[Bool.and_eq_true,Bool.and_eq_true,decide_eq_true_eq,decide_eq_true_eq,decide_eq_true_eq]at hbw;obtain⟨b1,b2,b3⟩:=hbw
     repeat(refine Jy ?_;try first|intro ao cap|intro b)
     apply End.imp (fun w hm=>(((hm.bagNil).nilArr 2 i64c).nilArr 38 rwC).nilArr 3 natC);(refine End.doneC2_ (RpL.zero) (he:=Jv) (hp:=?_));exact hbad (by omega)
    ·have hbw:Vm.badW (m.bx.getD k default).1 (r.l.getD j default)=false:=by simpa using hbw
     have hnx:∀i,i<j+1→Vm.badW (m.bx.getD k default).1 (r.l.getD i default)=false:=fun i hi=>by
      by_cases e:i=j
      ·subst e;exact hbw
      ·exact hg2 i (by omega)
     have hbw':=hbw;unfold Vm.badW at hbw'
     by_cases b1:(m.bx.getD k default).1=2
     ·by_cases b2:r.l.getD j default=0
      ·repeat(refine Jy ?_;try first|intro ao cap|intro b)
       refine End.round0_ hK2 (j+1) ?_ ?_
       ·exact⟨by omega,hnx⟩
       ·omega
      ·have b3:r.l.getD j default=1:=by
        simp only[b1,decide_true,Bool.true_and,Bool.and_eq_false_iff,decide_eq_false_iff_not,Classical.not_not]at hbw';rcases hbw' with h|h
        ·exact absurd h b2
        ·exact h
       repeat(refine Jy ?_;try first|intro ao cap|intro b)
       refine End.round0_ hK2 (j+1) ?_ ?_
       ·exact⟨by omega,hnx⟩
       ·omega
     ·repeat(refine Jy ?_;try first|intro ao cap|intro b)
      refine End.round0_ hK2 (j+1) ?_ ?_
      ·exact⟨by omega,hnx⟩
      ·omega
   ·repeat(refine Jy ?_;try first|intro ao cap|intro b)
    refine End.round0_ hK1 (k+1) ?_ ?_
    ·refine⟨by omega,fun i hi=>?_⟩
     by_cases e:i=k
     ·subst e;rw[hbd,List.any_eq_false];intro v hv;obtain⟨q,hq,rfl⟩:=List.getElem_of_mem hv;have:=hg2 q (by omega);rw[show r.l.getD q default=r.l[q] by simp[List.getD_eq_getElem?_getD,List.getElem?_eq_getElem hq]]at this;simpa using this
     ·exact hgood i (by omega)
    ·omega
  ·have hany:(List.range f.l.length).any (rowBad m f)=false:=rng_any (fun i hi=>hgood i (by omega));rw[hany]at her;simp only[Bool.false_eq_true,if_false]at her;subst her;obtain⟨tn,rfl⟩:=Int.eq_ofNat_of_zero_le (show 0≤task by omega);obtain⟨mn,rfl⟩:=Int.eq_ofNat_of_zero_le (show 0≤most by omega)
   repeat(refine Jy ?_;try first|intro ao cap|intro b)
   refine cutN0 (σ:=LsP) (fun _=>True) (fun p=>[(1, .int .i64 (tn:Int)),(3, .int .i64 (mn:Int)),(4,ptr mb),(8,ptr rb),(9, .int .i64 0),(11, .slice ko (Vm.tasks m.mdl).length kc),(16,ptr p.lb)]) (fun p=>[old w S,md m,fd f,blk mb (mdV m) 25,blk rb RpL.zero.cells 40,arr ko (Vm.tasks m.mdl).length kc 3 natC (Vm.tasks m.mdl),blk p.lb (lsV p f) 59,arr (some ⟨p.tb,0,none⟩) f.l.length f.l.length 3 natC (List.replicate f.l.length 0),arr (some ⟨p.sb,0,none⟩) f.l.length f.l.length 38 rwC (List.replicate f.l.length ⟨none,0,[]⟩)]) ?_ ?_
   ·intro P hP
    repeat(refine Jy ?_;try first|intro ao cap|intro b)
    (apply Run.op;exact rfl;refine OpT.val_ (h:=by exact Still.mkIface (t:=0) rfl rfl) (k:=?_));obtain⟨T,hC⟩:=certs_ml hwf hv;have hfed:=fed_of h5 h64 (fun i hi=>hgood i (by omega));have hEV:=Vm.lists_ok hfed;obtain⟨hu1,hu2⟩:=tasks_mem (m:=m) (k:=tn) (by omega);have hgd:(Vm.tasks m.mdl).getD tn default=(Vm.tasks m.mdl).getD tn 0:=rfl;rw[hgd];have hul:unitOf m (tn:Int)=(Vm.tasks m.mdl).getD tn 0:=rfl;generalize(Vm.tasks m.mdl).getD tn 0=u at *;obtain⟨q1,q2,q3,q4,q5,q6⟩:=head_ok (hF.head u hu1);(apply Run.op;exact rfl;refine JK (new_is mb m u hu1 57 (ptr P.lb) q1) ?_;intro s hs;(refine Jn ?_));obtain⟨tb,ob,c⟩:=s;dsimp only at hs⊢
    repeat(refine Jy ?_;try first|intro ao cap|intro b)
    apply Run.imp' (fun w hm=>Mem.rowsNil 2 f.l.length hm);apply Run.imp' (fun w hm=>Mem.lsIn (p:=P) (f:=f) (e:=⟨List.replicate f.l.length 0,List.replicate f.l.length ⟨none,0,[]⟩⟩) hm (tks));obtain⟨z0,hz0⟩:∃z0:SL (lsEnv P f),z0=SL.born (lsEnv P f) ob c ⟨List.replicate f.l.length 0,List.replicate f.l.length ⟨none,0,[]⟩⟩:=⟨_,rfl⟩;have hzw:z0.Wf:=by rw[hz0];exact born_wf hs ob _ (lsNew_ok f)
    have hz2:z0.two=(Vm.new m.mdl u,Vm.Ls.new f.ws.length):=by rw[hz0,born_two (m:=m) hs ob];exact congrArg _ (lsNew_abs f)
    have hzg:Vm.Good m.mdl T (Vm.LsK m.mdl f.ws) z0.two:=by rw[hz2];exact new_good hC hu1 hu2 (Vm.new_K _ _ hfed)
    refine Run.only' (old w S::md m::fd f::blk rb RpL.zero.cells 40::TM ⟨tb,mb,m⟩ z0) (by subst hz0;(repeat(first|exact Takes.nil|exact Take.head|apply Take.tail|apply Takes.cons))) ?_;(refine Jc ?_;refine OpT.call0_ (spec:=look_task ⟨tb,mb,m⟩ z0 hC hzw h5 hzg) (r:=fun w=>Reads.md (tk) (Reads.any (tk) fd_excl .nil)) (k:=?_);intro s hs;(refine Jn ?_))
    repeat(refine Jy ?_;try first|intro ao cap|intro b)
    have hsolo:Vm.solo m.mdl u f.ws mn=Vm.goN (Vm.lists f.ws) m.mdl mn (z0.look m).two:=by
     unfold Vm.solo Vm.solo0;rw[hzw.look_two,hz2]
    refine cutN (σ:=Nat×SL (lsEnv P f)) (fun q=>q.2.Wf∧Vm.solo m.mdl u f.ws mn=(q.1,q.2.two)) (fun q=>[(8,ptr rb),(9, .int .i64 0),(16,ptr P.lb),(17,ptr tb),(18, .int .i64 (q.1:Int))]) (fun q=>old w S::md m::fd f::blk rb RpL.zero.cells 40::TM ⟨tb,mb,m⟩ q.2) ?_ ?_
    ·rintro⟨k,z⟩ ⟨hzw',hsol⟩;apply Cod.imp (fun w hm=>Mem.lsOut hm (tk));(refine Jn ?_);obtain⟨e1,e2,e3⟩:LsOk f z.e:=hzw'.env;dsimp only at hsol⊢
     repeat(refine Jy ?_;try first|intro ao cap|intro b)
     obtain⟨R,hR⟩:∃R:RpL,R=⟨z.st,z.bx,z.tr,z.oo,z.oc,z.out,some ⟨P.sb,0,none⟩,f.l.length,z.e.sent,some ⟨P.tb,0,none⟩,f.l.length,z.e.took,k⟩:=⟨_,rfl⟩;refine End.doneC2_ R (he:=?_) (hF:=by(subst hR;simp only[RpL.mem,e1,e2];exact tks)) (hp:=?_)
     ·subst hR;simp only[RpL.cells,e1,e2]
     ·unfold IsSolo;rw[←her0,if_pos rfl,hul,Int.toNat_natCast,hsol];subst hR;exact⟨rfl,rfl,rfl,rfl,rfl,rfl,rfl⟩
    intro K3 hK3;refine Cod.only ((fun q=>old w S::md m::fd f::blk rb RpL.zero.cells 40::TM ⟨tb,mb,m⟩ q.2) (0,z0.look m)) (tks) ?_;apply Cod.loop (σ:=Nat×SL (lsEnv P f)) (fun q=>q.1≤mn∧q.2.Wf∧Vm.Good m.mdl T (Vm.LsK m.mdl f.ws) q.2.two∧q.2.out.length≤2*q.1∧Vm.total ((lsEnv P f).abs q.2.e).sent≤4*q.1∧Vm.solo m.mdl u f.ws mn=((Vm.goN (Vm.lists f.ws) m.mdl (mn-q.1) q.2.two).1+q.1,(Vm.goN (Vm.lists f.ws) m.mdl (mn-q.1) q.2.two).2)) (fun q=>[(3, .int .i64 (mn:Int)),(8,ptr rb),(9, .int .i64 0),(16,ptr P.lb),(17,ptr tb),(18, .int .i64 (q.1:Int))]) (fun q=>old w S::md m::fd f::blk rb RpL.zero.cells 40::TM ⟨tb,mb,m⟩ q.2) (fun q=>mn-q.1) (0,z0.look m)
    rotate_left
    exact sb;exact tks;intro q hq K1 hK1;(refine Jn ?_)
    rotate_left
    ·refine⟨Nat.zero_le _,hzw.look m,by rw[hzw.look_two];exact Vm.look_good hzg,?_,?_,?_⟩
     ·show z0.out.length≤0;rw[hz0];exact Nat.le_refl 0
     ·show Vm.total (LsE.abs z0.e).sent≤0;rw[hz0];show Vm.total ((List.replicate f.l.length (⟨none,0,[]⟩:Rw)).map (·.l))≤0;rw[List.map_replicate];unfold Vm.total;rw[List.map_replicate,List.sum_replicate_nat];simp
     ·rw[hsolo];simp
    obtain⟨k,z⟩:=q;obtain⟨r1,r2,r3,r4,r5,r6⟩:=hq;dsimp only at r1 r2 r3 r4 r5 r6 hK1⊢
    by_cases hkm:k<mn
    ·repeat(refine Jy ?_;try first|intro ao cap|intro b)
     (refine Jc ?_;refine OpT.call0_ (spec:=step_task ⟨tb,mb,m⟩ z hC hEV r2 h5 r3 (by omega) (Nat.le_trans (show(lsEnv P f).size ((lsEnv P f).abs z.e)≤4*k from r5) (by omega))) (r:=fun w=>Reads.md (tk) (Reads.any (tk) fd_excl .nil)) (k:=?_);intro s hs;(refine Jn ?_));obtain⟨z',rfl⟩:∃x,x=s:=⟨_,rfl⟩;obtain⟨s1,s2⟩:=hs;have hmk:mn-k=(mn-(k+1))+1:=by omega
     rw[hmk]at r6;unfold Vm.goN at r6
     by_cases hb:(Vm.step (lsEnv P f).V (⟨tb,mb,m⟩:Pl).m.mdl z.two).1=true
     ·rw[hb];rw[if_pos (show(Vm.step (Vm.lists f.ws) m.mdl z.two).1=true from hb)]at r6
      repeat(refine Jy ?_;try first|intro ao cap|intro b)
      refine End.round0_ hK1 (k+1,z') ?_ ?_
      ·refine⟨by omega,s1,by rw[s2];exact Vm.step_good hC hEV r3,?_,?_,?_⟩
       ·have h1:=Vm.step_outLen (V:=Vm.lists f.ws) (M:=m.mdl) z.two;have h2:z'.out=(Vm.step (Vm.lists f.ws) m.mdl z.two).2.1.out:=congrArg (fun r=>r.1.out) s2;rw[h2];have h3:z.two.1.out.length≤2*k:=r4;dsimp only;omega
       ·have h1:=Vm.step_size (sz:=fun s:Vm.Ls=>Vm.total s.sent) (V:=Vm.lists f.ws) (M:=m.mdl) (fun v b x=>Vm.total_put v.sent b x) (fun v b=>Nat.le_succ _) (fun v x=>Nat.le_succ _) z.two;have h2:(lsEnv P f).abs z'.e=(Vm.step (Vm.lists f.ws) m.mdl z.two).2.2:=congrArg (fun r=>r.2) s2;have h3:Vm.total z.two.2.sent≤4*k:=r5;show Vm.total ((lsEnv P f).abs z'.e).sent≤4*(k+1);rw[h2];omega
       ·rw[r6,s2];refine Prod.ext ?_ rfl;dsimp only;omega
      ·dsimp only;omega
     ·have hb:(Vm.step (lsEnv P f).V (⟨tb,mb,m⟩:Pl).m.mdl z.two).1=false:=by simpa using hb
      rw[hb];rw[if_neg (show¬(Vm.step (Vm.lists f.ws) m.mdl z.two).1=true by rw[show(Vm.step (Vm.lists f.ws) m.mdl z.two).1=false from hb];simp)]at r6
      repeat(refine Jy ?_;try first|intro ao cap|intro b)
      refine End.some_ hK3 (k,z') ?_;exact⟨s1,by rw[r6,s2];exact Prod.ext (by simp) rfl⟩
    ·repeat(refine Jy ?_;try first|intro ao cap|intro b)
     refine End.some_ hK3 (k,z) ?_;refine⟨r2,?_⟩;rw[r6,show mn-k=0 by omega];exact Prod.ext (by simp[Vm.goN]) rfl
   ·intro K2 hK2;apply Cod.draw 99 ([]) (by kernel_rfl) 10 rfl;refine JN 0 ?_;refine JN 1 ?_;refine JN 2 ?_;refine JN 4 ?_;refine JN 5 ?_;refine RunT.two_ 3 6 (h:=?_) (h':=?_)
    ·refine OpT.makeSlice_ (f:=natC) (iα:=inferInstance) (ef:=inferInstance) (z:=0) (n:=f.l.length) (k:=?_);intro tb;refine And.intro gud ?_;(refine JT 6 ?_;refine OpT.makeSlice_ (f:=rwC) (iα:=inferInstance) (ef:=inferInstance) (z:=⟨none,0,[]⟩) (n:=f.l.length) (k:=?_));intro sb;refine And.intro gud ?_;refine JN 7 ?_;(refine JT 8 ?_;(first|refine Jw ?_|(refine Jb ?_;intro b)|(refine Ja ?_;intro ao cap));refine And.intro gud ?_);refine JN 9 ?_;(apply RunT.done;kernel_rfl);refine End.some_ hK2 ⟨b,tb,sb⟩ ?_;trivial
    ·refine OpT.makeSlice_ (f:=rwC) (iα:=inferInstance) (ef:=inferInstance) (z:=⟨none,0,[]⟩) (n:=f.l.length) (k:=?_);intro sb;refine And.intro gud ?_;(refine JT 3 ?_;refine OpT.makeSlice_ (f:=natC) (iα:=inferInstance) (ef:=inferInstance) (z:=0) (n:=f.l.length) (k:=?_));intro tb;refine And.intro gud ?_;refine JN 7 ?_;(refine JT 8 ?_;(first|refine Jw ?_|(refine Jb ?_;intro b)|(refine Ja ?_;intro ao cap));refine And.intro gud ?_);refine JN 9 ?_;(apply RunT.done;kernel_rfl);refine End.some_ hK2 ⟨b,tb,sb⟩ ?_;trivial
 ·have he:(Ver.verify m.mdl).err≠0:=fun h=>hv (Ver.verify_eq h)
  have her2:er=(Ver.verify m.mdl).err:=by rw[her];unfold Vm.soloErr;rw[if_pos he]
  generalize Ver.verify m.mdl=V at *
  repeat(refine Jy ?_;try first|intro ao cap|intro b)
  obtain⟨wb,rfl⟩:∃x,x=b:=⟨_,rfl⟩;apply Cod.draw 9 ([blk wb [.int .i64 V.err, .int .i64 V.unit, .int .i64 V.at_] 34]) (by kernel_rfl) 5 rfl;refine JN 0 ?_;refine JN 1 ?_;refine JN 2 ?_;(refine JT 3 ?_;(first|refine Jw ?_|(refine Jb ?_;intro b)|(refine Ja ?_;intro ao cap));refine And.intro gud ?_);refine JN 4 ?_;(apply RunT.done;kernel_rfl)
  repeat(refine Jy ?_;try first|intro ao cap|intro b)
  apply End.imp (fun w hm=>(((hm.bagNil).nilArr 2 i64c).nilArr 38 rwC).nilArr 3 natC);(refine End.doneC2_ (RpL.zero) (he:=by(rw[her2];rfl)) (hp:=?_));exact hbad (by rw[her2];exact he)
end Go.Proofs.Ytgnhfinabhimpaa.Vw
