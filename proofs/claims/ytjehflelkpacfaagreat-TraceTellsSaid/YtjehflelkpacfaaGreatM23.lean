/- What picks do is an order of steps that the boxes allow. Plain Lean. -/
import Derived.Test.YtjehflelkpacfaaGreatM22
set_option linter.unusedVariables false
set_option linter.unusedSimpArgs false
set_option linter.unusedSectionVars false
set_option maxRecDepth 100000
namespace Go.Proofs.YtjehflelkpacfaaGreat.Vm
open ImgM Ver Opt
abbrev tks0(M:Mdl):List Tk:=(tasks M).map (new M)
def Fine(M:Mdl)(ws:List (List Int))(e:Ev):Prop:=
 (e.1=2→0≤e.2.1∧e.2.1.toNat<M.boxes.length∧(ws.getD e.2.1.toNat []).length+1≤capN M e.2.1.toNat)∧(e.1=3→0≤e.2.1∧e.2.1.toNat<M.boxes.length∧(ws.getD e.2.1.toNat []).length≠0∧(ws.getD e.2.1.toNat []).headD 0=e.2.2)
theorem split1{α:Type}{a e:α}{p q:List α}(h:[a]=p ++e::q):p=[]∧e=a:=by
 cases p with
 |nil=>simp at h;exact⟨rfl,h.1.symm⟩
 |cons b p=>simp at h
theorem split2{α:Type}{a b e:α}{p q:List α}(h:[a,b]=p ++e::q):(p=[]∧e=a)∨e=b:=by
 cases p with
 |nil=>simp at h;exact .inl ⟨rfl,h.1.symm⟩
 |cons c p=>
  simp only[List.cons_append,List.cons.injEq]at h;exact .inr (split1 h.2).2
theorem Did.first{i:Ins}{x:Int}{t:Tk}{r:Tk×List Ev}(h:Did i x t r){p q:List Ev}{e:Ev}(he:r.2=p ++e::q):(e.1=2→p=[]∧i.op=26∧e.2.1=i.a)∧(e.1=3→p=[]∧i.op=27∧e.2.1=i.a∧e.2.2=x):=by
 rcases h.ex with⟨t1,l1,h1, -, -, -,h5⟩|⟨ho,h1, -⟩
 ·have h2:r.2=l1∨∃n,r.2=l1 ++[(5,0,n)]:=by
   rcases h1 with⟨e, -⟩|⟨e, -⟩
   ·exact .inl e
   ·exact .inr ⟨_,e⟩
  have one:∀a:Ev,l1=[a]→(e.1=2∨e.1=3)→p=[]∧e=a:=fun a ha hk=>by
   subst ha;rcases h2 with h2|⟨n,h2⟩
   ·rw[he]at h2;exact split1 h2.symm
   ·rw[he]at h2;rcases split2 h2.symm with h|h
    ·exact h
    ·rw[h]at hk;simp at hk
  rcases h5 with⟨rfl, -, -⟩|⟨ho,hl⟩|⟨ho,hl⟩|⟨ho,hl⟩|⟨ho,hl⟩
  ·have no:¬(e.1=2∨e.1=3):=fun hk=>by
    rcases h2 with h2|⟨n,h2⟩
    ·rw[he]at h2;simp at h2
    ·rw[he]at h2;obtain⟨-,h⟩:=split1 (h2.symm:[(5,0,n)]=p ++e::q);rw[h]at hk;simp at hk
   exact⟨fun h=>absurd (.inl h) no,fun h=>absurd (.inr h) no⟩
  all_goals
   refine⟨fun hk=>?_,fun hk=>?_⟩
   ·obtain⟨a1,rfl⟩:=one _ hl (.inl hk)
    first
     |exact⟨a1,ho,rfl⟩
     |(simp at hk)
   ·obtain⟨a1,rfl⟩:=one _ hl (.inr hk)
    first
     |exact⟨a1,ho,rfl,rfl⟩
     |(simp at hk)
 ·rw[he]at h1;obtain⟨-,rfl⟩:=split1 h1.symm;exact⟨fun h=>by simp at h,fun h=>by simp at h⟩
structure Stood(M:Mdl)(told:Bool)(c:Ma)(xs:Nat→List Int):Prop where
 runs:Runs M (capN M) (tks0 M) c.n xs c.bs.ws
 len:c.ts.length=(tks0 M).length
 tk:∀k,k<(tks0 M).length→nrm (c.ts.getD k default)=ltk M ((tks0 M).getD k default) (xs k)
 log:told=true→(∀k:Nat,((c.bs.log.filter fun e=>decide (e.1=k)).map (·.2))=if k<(tks0 M).length then lev M ((tks0 M).getD k default) (xs k)else [])∧(c.bs.log.map (·.2)).foldl wplay (List.replicate M.boxes.length [])=c.bs.ws
 fine:told=true→∀s r,Owns M (tks0 M) s r→∀p e q,c.bs.log.map (·.2)=p ++e::q→Fine M (p.foldl wplay (List.replicate M.boxes.length [])) e
section
variable{M:Mdl}{told:Bool}{c:Ma}{xs:Nat→List Int}
theorem nrm_new(M:Mdl)(u:Nat):nrm (new M u)=new M u:=by
 unfold nrm;rw[if_pos (show(new M u).st≤3 from(by decide:(1:Int)≤3))];rfl
theorem tks0_at{k:Nat}(hk:k<(tks0 M).length):(tks0 M).getD k default=new M ((tasks M).getD k 0):=by
 have hk':k<(tasks M).length:=by simpa using hk
 rw[Jd,JU,Je hk',Jd,Je hk'];rfl
theorem Stood.init(M:Mdl)(told:Bool):Stood M told (Ma.init M) (fun _=>[]):=by
 refine⟨Runs.nil,rfl,fun k hk=>?_,fun _=>⟨fun k=>?_,rfl⟩,fun _ s r _ p e q h=>by simp[Ma.init]at h⟩
 ·show nrm ((tks0 M).getD k default)=(tks0 M).getD k default;rw[tks0_at hk];exact nrm_new M _
 ·show []=_
  split<;>rfl
theorem nrm_alk{t t':Tk}(h:Alk t t'):nrm t=nrm t':=by
 rcases h with rfl|⟨h3,a,b,ha,rfl⟩
 ·rfl
 ·unfold nrm;rw[if_pos h3,if_pos (show({t with st:=a,bx:=b}:Tk).st≤3 from ha)]
theorem nrm_look{ν:Type}(V:Env ν)(r:Tk×ν):nrm (look V M r).1=nrm r.1:=nrm_alk (look_back V r)
theorem nrm_ins{M:Mdl}(t:Tk):insT M (nrm t)=insT M t:=by
 unfold nrm
 split<;>rfl
theorem plays_ws(M:Mdl)(k:Option Nat):∀(l:List Ev) (s:Bs),(l.foldl (play (bxs M k)) s).ws=l.foldl wplay s.ws
 |[],s=>rfl
 |e::l,s=>by
  simp only[List.foldl_cons];rw[plays_ws M k l];congr 1;have tl:∀(s:Bs) e,((bxs M k).tell s e).ws=s.ws:=fun s e=>by cases k<;>rfl
  unfold play wplay
  split
  ·rw[tl];rfl
  ·split
   ·rw[tl];rfl
   ·rw[tl]
theorem plays_log(M:Mdl)(k:Nat):∀(l:List Ev) (s:Bs),(l.foldl (play (bxs M (some k))) s).log=s.log ++l.map (fun e=>(k,e))
 |[],s=>by simp
 |e::l,s=>by
  simp only[List.foldl_cons];rw[plays_log M k l];have:(play (bxs M (some k)) s e).log=s.log ++[(k,e)]:=by
   unfold play
   split
   ·rfl
   ·split<;>rfl
  rw[this];simp
theorem mp2(k:Nat):∀l:List Ev,(l.map fun e=>(k,e)).map (·.2)=l
 |[]=>rfl
 |a::l=>by simp only[List.map_cons,mp2 k l]
theorem step_loc{k:Option Nat}{t:Tk}{s:Bs}(h:(look (bxs M k) M (t,s)).1.st=1):
  Can M (capN M) (nrm t) s.ws∧(step (bxs M k) M (t,s)).1=true∧nrm (step (bxs M k) M (t,s)).2.1=(loc1 M (xin M (nrm t) s.ws) (nrm t)).1∧(step (bxs M k) M (t,s)).2.2=(loc1 M (xin M (nrm t) s.ws) (nrm t)).2.foldl (play (bxs M k)) s:=by
 obtain⟨h3,h26,h27⟩:=look_ready h;dsimp only at h3 h26 h27;have hn:nrm t={t with st:=1,bx:=0}:=by unfold nrm;rw[if_pos h3]
 have hl:look (bxs M k) M (t,s)=(nrm t,s):=by rw[hn];exact look_one h3 h26 h27
 have hx:inp (bxs M k) M (t,s)=xin M (nrm t) s.ws:=by
  unfold inp xin bxOf;rw[nrm_ins];rfl
 refine⟨⟨by rw[hn],fun ho=>?_,fun ho=>?_⟩,?_⟩
 ·rw[nrm_ins]at ho;have:=h26 ho;unfold bxOf;rw[nrm_ins];exact of_decide_eq_false this
 ·rw[nrm_ins]at ho;have:=h27 ho;unfold bxOf;rw[nrm_ins];exact of_decide_eq_false this
 ·rw[step_yes _ M h,hl,hx];refine⟨rfl,?_,?_⟩
  ·dsimp only;rw[nrm_look];rfl
  ·dsimp only;rw[look_snd];rfl
theorem set_getD{l:List Tk}{k:Nat}(hk:k<l.length):l.set k (l.getD k default)=l:=by
 refine List.ext_getElem (by simp) fun j h1 h2=>?_
 rw[List.getElem_set]
 split
 ·rename_i e;subst e;rw[Jd,Je h2];rfl
 ·rfl
theorem Stood.seen{k:Nat}{t t':Tk}{ts:List Tk}{s:Bs}{n:Nat}(hk:k<ts.length)(h:Stood M told ⟨ts.set k t,s,n⟩ xs)(e:nrm t'=nrm t):Stood M told ⟨ts.set k t',s,n⟩ xs:=by
 obtain⟨h1,h2,h3,h4,h5⟩:=h;refine⟨h1,by simpa using h2,fun j hj=>?_,h4,h5⟩;have:=h3 j hj;dsimp only at this⊢;rw[getD_set hk]at this⊢
 by_cases ejk:k=j
 ·subst ejk;rw[if_pos rfl]at this⊢;rw[e];exact this
 ·rw[if_neg ejk]at this⊢;exact this
theorem fine_new{so ro:Nat→Nat}(ho:Owns M (tks0 M) so ro){n k:Nat}{ws ws':List (List Int)}(g1:Runs M (capN M) (tks0 M) n xs ws)(hkT:k<(tks0 M).length)(hc:Can M (capN M) (ltk M ((tks0 M).getD k default) (xs k)) ws)(hws:ws'=ws){p' q:List Ev}{e:Ev}(he:(loc1 M (xin M (ltk M ((tks0 M).getD k default) (xs k)) ws) (ltk M ((tks0 M).getD k default) (xs k))).2=p' ++e::q):Fine M (p'.foldl wplay ws') e:=by
 subst hws;have hrng:=ho.rng g1 k hkT hc.st;have hfit:=g1.fit ho;obtain⟨f2,f3⟩:=(lstep_did M (x:=xin M (ltk M ((tks0 M).getD k default) (xs k)) ws') (t:=ltk M ((tks0 M).getD k default) (xs k)) (by have:=hc.st;omega)).first he;have h2:=hc.send;have h3:=hc.recv;have hx:(insT M (ltk M ((tks0 M).getD k default) (xs k))).op=27→xin M (ltk M ((tks0 M).getD k default) (xs k)) ws'=(ws'.getD (bxOf M (ltk M ((tks0 M).getD k default) (xs k))) []).headD 0:=fun h=>by unfold xin;rw[if_pos h]
 generalize ltk M ((tks0 M).getD k default) (xs k)=u at *;unfold bxOf at *;refine⟨fun h=>?_,fun h=>?_⟩
 ·obtain⟨rfl,ho,ha⟩:=f2 h;obtain⟨r1,r2⟩:=hrng (.inl ho);rw[ha];have h4:=h2 ho;have h5:=hfit _ r2;show 0≤_∧_∧(ws'.getD _ []).length+1≤_;exact⟨r1,r2,by omega⟩
 ·obtain⟨rfl,ho,ha,hv⟩:=f3 h;obtain⟨r1,r2⟩:=hrng (.inr ho);rw[ha,hv];exact⟨r1,r2,h3 ho,(hx ho).symm⟩
theorem Stood.stepd{k:Nat}{t:Tk}{ts:List Tk}{s:Bs}{n:Nat}(hk:k<ts.length)(h:Stood M told ⟨ts.set k t,s,n⟩ xs)(hs:(look (bxs M (tOf told k)) M (t,s)).1.st=1):
  ∃xs',Stood M told ⟨ts.set k (step (bxs M (tOf told k)) M (t,s)).2.1,(step (bxs M (tOf told k)) M (t,s)).2.2,n+1⟩ xs':=by
 obtain⟨hc,h1,h2,h3⟩:=step_loc hs;obtain⟨g1,g2,g3,g4,g5⟩:=h;have hkT:k<(tks0 M).length:=by rw[←g2];simpa using hk
 have hu:=g3 k hkT;dsimp only at g1 g2 g3 g4 hu;rw[getD_set hk,if_pos rfl]at hu;rw[hu]at hc h2 h3;refine⟨fun j=>if j=k then xs k ++[xin M (ltk M ((tks0 M).getD k default) (xs k)) s.ws]else xs j,⟨?_,by simpa using g2,fun j hj=>?_,fun ht=>?_,fun ht so ro ho p e q hpe=>?_⟩⟩
 ·have:=Runs.step g1 hkT hc;dsimp only;rw[h3,plays_ws];exact this
 ·have:=g3 j hj;dsimp only at this⊢;rw[getD_set hk]at this⊢
  by_cases ejk:k=j
  ·subst ejk;rw[if_pos rfl,if_pos rfl,h2,ltk_snoc]
  ·rw[if_neg ejk]at this;rw[if_neg ejk,if_neg (fun e=>ejk e.symm)];exact this
 ·obtain⟨l1,l2⟩:=g4 ht;have hto:tOf told k=some k:=by unfold tOf;rw[if_pos ht]
  rw[hto]at h3⊢;dsimp only;refine⟨fun j=>?_,?_⟩
  ·rw[h3,plays_log,List.filter_append,Jq,l1 j]
   by_cases ejk:j=k
   ·subst ejk;rw[if_pos hkT,if_pos hkT,if_pos rfl,lev_snoc];congr 1;rw[List.filter_eq_self.2 (by intro a ha;obtain⟨e, -,rfl⟩:=List.mem_map.1 ha;simp),mp2]
   ·have:(((loc1 M (xin M (ltk M ((tks0 M).getD k default) (xs k)) s.ws) (ltk M ((tks0 M).getD k default) (xs k))).2.map fun e=>(k,e)).filter fun e=>decide (e.1=j))=[]:=by
     rw[List.filter_eq_nil_iff];intro a ha;obtain⟨e, -,rfl⟩:=List.mem_map.1 ha;simpa using fun h=>ejk h.symm
    rw[this,if_neg ejk];simp
  ·rw[h3,plays_log,plays_ws,Jq,mp2,List.foldl_append,l2]
 ·obtain⟨l1,l2⟩:=g4 ht;have hto:tOf told k=some k:=by unfold tOf;rw[if_pos ht]
  rw[hto]at h3 hpe;dsimp only at hpe;rw[h3,plays_log,Jq,mp2]at hpe;rcases List.append_eq_append_iff.1 hpe.symm with⟨p',hp1,hp2⟩|⟨p',hp1,hp2⟩
  ·cases p' with
   |nil=>
    rw[List.append_nil]at hp1;exact fine_new ho g1 hkT hc (by rw[←hp1,l2]) (p':=[]) hp2.symm
   |cons a p''=>
    simp only[List.cons_append,List.cons.injEq]at hp2;obtain⟨rfl, -⟩:=hp2;exact g5 ht so ro ho p e p'' hp1
  ·rw[hp1,List.foldl_append,l2];exact fine_new ho g1 hkT hc rfl hp2
theorem Stood.goes{k:Nat}{ts:List Tk}(hk:k<ts.length):∀(f:Nat) {t:Tk} {s:Bs} {n:Nat} {xs:Nat→List Int},Stood M told ⟨ts.set k t,s,n⟩ xs→
  ∃xs',Stood M told ⟨ts.set k (goN (bxs M (tOf told k)) M f (t,s)).2.1,(goN (bxs M (tOf told k)) M f (t,s)).2.2,n+(goN (bxs M (tOf told k)) M f (t,s)).1⟩ xs'
 |0,t,s,n,xs,h=>⟨xs,h⟩
 |f+1,t,s,n,xs,h=>by
  unfold goN
  by_cases hs:(look (bxs M (tOf told k)) M (t,s)).1.st=1
  ·obtain⟨xs',h'⟩:=h.stepd hk hs;have e1:(Vm.step (bxs M (tOf told k)) M (t,s)).1=true:=by rw[step_yes _ M hs]
   rw[if_pos e1];obtain⟨xs2,h2⟩:=Stood.goes hk f h';refine⟨xs2,?_⟩;dsimp only at h2⊢;rw[Nat.add_comm (goN _ _ _ _).1 1,←Nat.add_assoc];exact h2
  ·have e1:=step_no (bxs M (tOf told k)) M hs;rw[e1,if_neg (by simp)];refine⟨xs,?_⟩;have:=h.seen hk (nrm_look (M:=M) (bxs M (tOf told k)) (t,s));dsimp only;rw[look_snd];exact this
theorem Stood.pickd(h:Stood M told c xs)(p:Int×Int):∃xs',Stood M told (pick M told c p).2 xs':=by
 unfold Vm.pick
 by_cases h1:p.1<0∨(c.ts.length:Int)≤p.1
 ·rw[if_pos h1];exact⟨xs,h⟩
 ·rw[if_neg h1];have hk:p.1.toNat<c.ts.length:=by omega
  have h0:Stood M told ⟨c.ts.set p.1.toNat (c.ts.getD p.1.toNat default),c.bs,c.n⟩ xs:=by rw[set_getD hk];exact h
  dsimp only;unfold pick1 Ma.at_
  by_cases h2:p.2<1∨10000<p.2
  ·rw[if_pos h2];exact⟨xs,h0⟩
  rw[if_neg h2];have hL:=h0.seen hk (nrm_look (M:=M) (bxs M (tOf told p.1.toNat)) (c.ts.getD p.1.toNat default,c.bs))
  by_cases h3:(look (bxs M (tOf told p.1.toNat)) M (c.ts.getD p.1.toNat default,c.bs)).1.st≠1
  ·rw[if_pos h3];refine⟨xs,?_⟩;dsimp only;rw[look_snd];exact hL
  rw[if_neg h3];have hL2:(look (bxs M (tOf told p.1.toNat)) M (c.ts.getD p.1.toNat default,c.bs))=((look (bxs M (tOf told p.1.toNat)) M (c.ts.getD p.1.toNat default,c.bs)).1,c.bs):=Prod.ext rfl (look_snd _ M _);obtain⟨xs',hg⟩:=Stood.goes hk (min p.2.toNat (20000-c.n)) hL;rw[←hL2]at hg;refine⟨xs',?_⟩;dsimp only
  by_cases h4:(Vm.goN (bxs M (tOf told p.1.toNat)) M (min p.2.toNat (20000-c.n)) (look (bxs M (tOf told p.1.toNat)) M (c.ts.getD p.1.toNat default,c.bs))).1=0
  ·rw[if_pos h4];rw[h4]at hg;exact hg
  ·rw[if_neg h4];exact hg
theorem Stood.pickds:∀(l:List (Int×Int)) {c:Ma} {xs:Nat→List Int},Stood M told c xs→∃xs',Stood M told (picks M told l c).2 xs'
 |[],c,xs,h=>⟨xs,h⟩
 |p::l,c,xs,h=>by
  obtain⟨xs',h'⟩:=h.pickd p;exact Stood.pickds l h'
theorem Stood.lookd(h:Stood M told c xs):Stood M told (c.looked M) xs:=by
 obtain⟨g1,g2,g3,g4,g5⟩:=h;refine⟨g1,by simpa[Ma.looked]using g2,fun k hk=>?_,g4,g5⟩;rw[←g3 k hk];have hk':k<c.ts.length:=by omega
 unfold Ma.looked;dsimp only;rw[Jd,JU,Je hk',Jd,Je hk'];exact nrm_look _ _
theorem looked_at{k:Nat}(hk:k<c.ts.length):(c.looked M).ts.getD k default=(look (bxs M none) M (c.ts.getD k default,c.bs)).1:=by
 unfold Ma.looked;dsimp only;rw[Jd,JU,Je hk,Jd,Je hk];rfl
theorem can_look{t:Tk}{s:Bs}(hc:Can M (capN M) (nrm t) s.ws):look (bxs M none) M (t,s)=(nrm t,s):=by
 have h3:t.st≤3:=by
  have:=hc.st;unfold nrm at this
  by_cases h:t.st≤3
  ·exact h
  ·rw[if_neg h]at this;omega
 have hn:nrm t={t with st:=1,bx:=0}:=by unfold nrm;rw[if_pos h3]
 rw[hn];refine look_one h3 (fun ho=>decide_eq_false ?_) (fun ho=>decide_eq_false ?_)
 ·have:=hc.send (by rw[nrm_ins];exact ho);unfold bxOf at this;rw[nrm_ins]at this;exact this
 ·have:=hc.recv (by rw[nrm_ins];exact ho);unfold bxOf at this;rw[nrm_ins]at this;exact this
theorem Stood.rest(h:Stood M told c xs)(hr:(c.looked M).ready=[]):Rest M (capN M) (tks0 M) xs c.bs.ws:=by
 intro k hk hc;have hk':k<c.ts.length:=by rw[h.len];exact hk
 rw[←h.tk k hk]at hc;have hl:=can_look hc;have hm:k∈(c.looked M).ready:=by
  unfold Ma.ready;rw[List.mem_filter,List.mem_range];refine⟨by simpa[Ma.looked]using hk',?_⟩;rw[JV,looked_at hk',hl];exact hc.st
 rw[hr]at hm
 cases hm
end
section
variable{M:Mdl}{T:Nat→Int→Option Shape}
theorem nextOf_mem{l:List Nat}(h:l≠[])(last:Int):nextOf l last∈l:=by
 unfold nextOf
 cases hf:l.find? (fun k:Nat=>decide (last<(k:Int)))with
 |some x=>exact List.mem_of_find?_eq_some hf
 |none=>
  cases l with
  |nil=>exact absurd rfl h
  |cons a r=>exact List.mem_cons_self
theorem pick1_can{ν:Type}{V:Env ν}{n:Nat}{q:Int}{r:Tk×ν}(h1:1≤q)(h2:q≤10000)(hn:n<20000)(hs:(look V M r).1.st=1):(pick1 V M n q r).1.1=0:=by
 unfold pick1;rw[if_neg (by omega),if_neg (fun h=>h hs)];have:(goN V M (min q.toNat (20000-n)) (look V M r)).1≠0:=by
  cases hm:min q.toNat (20000-n)with
  |zero=>omega
  |succ k=>
   unfold goN;rw[step_yes V M (by rw[look_look];exact hs),if_pos rfl];simp
 rw[if_neg this]
def SetAt(M:Mdl):Option Ma→Prop
 |some c=>∃xs,Stood M false c xs∧Rest M (capN M) (tks0 M) xs c.bs.ws∧c.n≤20000
 |none=>∃xs ws,Runs M (capN M) (tks0 M) 20001 xs ws
theorem settle_at(hC:Certs M T){q:Int}(h1:1≤q)(h2:q≤10000):∀(f:Nat) (last:Int) {c:Ma} {xs:Nat→List Int},c.Ok M T→Stood M false c xs→20001≤f+c.n→SetAt M (settle M q f last c)
 |0,last,c,xs,hO,hS,hf=>by have:=hO.n;omega
 |f+1,last,c,xs,hO,hS,hf=>by
  rw[show settle M q (f+1) last c=if(c.looked M).ready=[]then some (c.looked M)else if(pick M false (c.looked M) ((nextOf (c.looked M).ready last:Int),q)).1.1≠0 then none else settle M q f (nextOf (c.looked M).ready last) (pick M false (c.looked M) ((nextOf (c.looked M).ready last:Int),q)).2 from rfl]
  by_cases hr:(c.looked M).ready=[]
  ·rw[if_pos hr];exact⟨xs,hS.lookd,hS.rest hr,hO.n⟩
  rw[if_neg hr];have hm:=nextOf_mem hr last;generalize nextOf (c.looked M).ready last=k at *;unfold Ma.ready at hm;rw[List.mem_filter,List.mem_range,JV]at hm;obtain⟨hk,hst⟩:=hm;have hk':k<c.ts.length:=by simpa[Ma.looked]using hk
  have hl:(look (bxs M (tOf false k)) M ((c.looked M).at_ k)).1.st=1:=by
   have e0:tOf false k=none:=rfl;unfold Ma.at_;rw[e0,looked_at hk'];have e1:((look (bxs M none) M (c.ts.getD k default,c.bs)).1,(c.looked M).bs)=look (bxs M none) M (c.ts.getD k default,c.bs):=Prod.ext rfl (look_snd (bxs M none) M (c.ts.getD k default,c.bs)).symm;rw[e1,look_look];rw[looked_at hk']at hst;exact hst
  have hpk:(pick M false (c.looked M) ((k:Int),q)).1.1=(pick1 (bxs M (tOf false k)) M (c.looked M).n q ((c.looked M).at_ k)).1.1:=by
   unfold pick;rw[if_neg (by dsimp only;omega)];rfl
  by_cases he:(pick M false (c.looked M) ((k:Int),q)).1.1≠0
  ·rw[if_pos he];have hn:c.n=20000:=Classical.byContradiction fun hn=>he (by
    rw[hpk];exact pick1_can h1 h2 (by have:=hO.n;show c.n<20000;omega) hl)
   have hS':=hS.lookd;have hkT:k<(tks0 M).length:=by rw[←hS.len];exact hk'
   obtain⟨hc, -⟩:=step_loc hl;rw[hS'.tk k hkT]at hc;have:=Runs.step hS'.runs hkT hc;rw[show(c.looked M).n+1=20001 by show c.n+1=20001;omega]at this;exact⟨_,_,this⟩
  ·rw[if_neg he];have he:=Classical.not_not.1 he;obtain⟨xs',hS'⟩:=hS.lookd.pickd ((k:Int),q);have hO':=hO.looked.pick hC false ((k:Int),q);have hd:(c.looked M).n+1≤(pick M false (c.looked M) ((k:Int),q)).2.n:=by
    have h1:=(pick_cnt (M:=M) (told:=false) (c.looked M) ((k:Int),q)).sum;have h2:=((pick_cnt (M:=M) (told:=false) (c.looked M) ((k:Int),q)).ok he).1;omega
   have e9:(c.looked M).n=c.n:=rfl;exact settle_at hC h1 h2 f _ hO' hS' (by omega)
theorem picks_ok'(hC:Certs M T)(told:Bool):∀(l:List (Int×Int)) {c:Ma},c.Ok M T→(picks M told l c).2.Ok M T
 |[],c,h=>h
 |p::l,c,h=>picks_ok' hC told l (h.pick hC told p)
theorem settled_at(hC:Certs M T){q:Int}(h1:1≤q)(h2:q≤10000)(ps:List (Int×Int)):SetAt M (settle M q 20001 (lastOf ps (picks M false ps (Ma.init M)).1) (picks M false ps (Ma.init M)).2):=by
 obtain⟨xs,hS⟩:=Stood.pickds ps (Stood.init M false);exact settle_at hC h1 h2 _ _ (picks_ok' hC false ps (Ma.Ok.init hC)) hS (by omega)
theorem alk_nrm{t t':Tk}(h:nrm t=nrm t'):Alk t t':=by
 unfold nrm at h
 by_cases h1:t.st≤3
 ·rw[if_pos h1]at h
  by_cases h2:t'.st≤3
  ·rw[if_pos h2]at h;obtain⟨cs,now,st,bx,tr,out⟩:=t;obtain⟨cs',now',st',bx',tr',out'⟩:=t';simp only[Tk.mk.injEq]at h;obtain⟨rfl,rfl, -, -,rfl,rfl⟩:=h;exact .inr ⟨h1,st',bx',h2,rfl⟩
  ·rw[if_neg h2]at h;rw[←h]at h2;exact absurd (show({t with st:=1,bx:=0}:Tk).st≤3 from(by decide:(1:Int)≤3)) h2
 ·rw[if_neg h1]at h
  by_cases h2:t'.st≤3
  ·rw[if_pos h2]at h;rw[h]at h1;exact absurd (show({t' with st:=1,bx:=0}:Tk).st≤3 from(by decide:(1:Int)≤3)) h1
  ·rw[if_neg h2]at h;exact .inl h
theorem look_ws(k:Option Nat)(t:Tk)(s:Bs):(look (bxs M k) M (t,s)).1=(look (bx0 (capN M)) M (t,s.ws)).1:=by
 unfold look waits;dsimp only;have e1:∀b,(bxs M k).full s b=(bx0 (capN M)).full s.ws b:=fun b=>rfl
 have e2:∀b,(bxs M k).empty s b=(bx0 (capN M)).empty s.ws b:=fun b=>rfl
 rw[e1,e2]
 split
 ·split
  ·rfl
  ·split<;>rfl
 ·rfl
theorem Stood.same{told told':Bool}{c c':Ma}{xs:Nat→List Int}(h:Stood M told c xs)(h':Stood M told' c' xs)(hw:c.bs.ws=c'.bs.ws):(c.looked M).ts=(c'.looked M).ts:=by
 unfold Ma.looked;dsimp only;refine List.ext_getElem (by simp[h.len,h'.len]) fun j h1 h2=>?_
 simp only[Jf]at h1 h2;simp only[List.getElem_map];have e1:=h.tk j (by rw[←h.len];exact h1);have e2:=h'.tk j (by rw[←h'.len];exact h2);rw[Jd,Je h1,JZ]at e1;rw[Jd,Je h2,JZ]at e2;rw[look_ws,look_ws,←hw,look_alk _ M (alk_nrm (e1.trans e2.symm))]
theorem ws_of{s r:Nat→Nat}(ho:Owns M (tks0 M) s r){n n':Nat}{xs ys:Nat→List Int}{ws us:List (List Int)}{cap cap':Nat→Nat}(hx:Runs M cap (tks0 M) n xs ws)(hy:Runs M cap' (tks0 M) n' ys us)(h:∀k,xs k=ys k):ws=us:=by
 have l1:=hx.wlen;have l2:=hy.wlen;refine List.ext_getElem (by omega) fun b h1 h2=>?_
 have f1:=hx.fifo ho b (by omega);have f2:=hy.fifo ho b (by omega);rw[h,h,f2]at f1;have:=List.append_cancel_left f1;rw[Jd,Jd,Je h1,Je h2]at this;exact this.symm
theorem settle_same(hC:Certs M T)(hR:Right M){c c':Ma}(h:SetAt M (some c))(h':SetAt M (some c')):(c.looked M).ts=(c'.looked M).ts∧c.bs.ws=c'.bs.ws∧c.n=c'.n:=by
 obtain⟨xs,hS,hr, -⟩:=h;obtain⟨ys,hS',hr', -⟩:=h';have ho:=owns_of hC hR;have he:∀k,xs k=ys k:=fun k=>by
  have p1:=rest_max ho (fun b _=>Nat.le_refl _) hS.runs hS'.runs hr' k;have p2:=rest_max ho (fun b _=>Nat.le_refl _) hS'.runs hS.runs hr k;exact p1.eq_of_length (Nat.le_antisymm p1.length_le p2.length_le)
 have hw:=ws_of ho hS.runs hS'.runs he;obtain rfl:xs=ys:=funext he;exact⟨hS.same hS' hw,hw,hS.runs.sum.trans hS'.runs.sum.symm⟩
theorem sum_le:∀(l:List Nat) {f g:Nat→Nat},(∀k,f k≤g k)→(l.map f).sum≤(l.map g).sum
 |[],f,g,h=>Nat.le_refl _
 |a::l,f,g,h=>by
  simp only[List.map_cons,List.sum_cons];have:=sum_le l h;have:=h a;omega
theorem settle_never(hC:Certs M T)(hR:Right M){c:Ma}(h:SetAt M (some c))(h':SetAt M none):False:=by
 obtain⟨xs,hS,hr,hn⟩:=h;obtain⟨ys,us,hy⟩:=h';have ho:=owns_of hC hR;have s1:=hS.runs.sum;have s2:=hy.sum;have:=sum_le (List.range (tks0 M).length) (f:=fun k=>(ys k).length) (g:=fun k=>(xs k).length) (fun k=>(rest_max ho (fun b _=>Nat.le_refl _) hy hS.runs hr k).length_le);omega
end
section
variable{M:Mdl}{k:Option Nat}
theorem step_same{t:Tk}{s s':Bs}(h:s.ws=s'.ws):(step (bxs M k) M (t,s)).1=(step (bxs M none) M (t,s')).1∧(step (bxs M k) M (t,s)).2.1=(step (bxs M none) M (t,s')).2.1∧(step (bxs M k) M (t,s)).2.2.ws=(step (bxs M none) M (t,s')).2.2.ws:=by
 have hl:(look (bxs M k) M (t,s)).1=(look (bxs M none) M (t,s')).1:=by rw[look_ws,look_ws,h]
 by_cases hs:(look (bxs M k) M (t,s)).1.st=1
 ·have hs':(look (bxs M none) M (t,s')).1.st=1:=by rw[←hl];exact hs
  have hi:inp (bxs M k) M (t,s)=inp (bxs M none) M (t,s'):=by
   unfold inp;have:((bxs M k).take s (insT M t).a.toNat).1=((bxs M none).take s' (insT M t).a.toNat).1:=by
    show(s.ws.getD _ []).headD 0=(s'.ws.getD _ []).headD 0;rw[h]
   rw[this]
  have hw:∀l:List Ev,(l.foldl (play (bxs M k)) s).ws=(l.foldl (play (bxs M none)) s').ws:=fun l=>by rw[plays_ws,plays_ws,h]
  rw[step_yes _ M hs,step_yes _ M hs',hi,hl];generalize lstep M (inp (bxs M none) M (t,s')) (look (bxs M none) M (t,s')).1=r;refine⟨rfl,?_,?_⟩
  ·refine(look_ws k r.1 (r.2.foldl (play (bxs M k)) s)).trans ?_;rw[hw];exact(look_ws none r.1 (r.2.foldl (play (bxs M none)) s')).symm
  ·exact(congrArg Bs.ws (look_snd (bxs M k) M (r.1,r.2.foldl (play (bxs M k)) s))).trans ((hw r.2).trans (congrArg Bs.ws (look_snd (bxs M none) M (r.1,r.2.foldl (play (bxs M none)) s'))).symm)
 ·have hs':¬(look (bxs M none) M (t,s')).1.st=1:=by rw[←hl];exact hs
  rw[step_no _ M hs,step_no _ M hs'];exact⟨rfl,hl,by dsimp only;rw[look_snd,look_snd];exact h⟩
theorem goN_same:∀(n:Nat) {t:Tk} {s s':Bs},s.ws=s'.ws→(goN (bxs M k) M n (t,s)).1=(goN (bxs M none) M n (t,s')).1∧(goN (bxs M k) M n (t,s)).2.1=(goN (bxs M none) M n (t,s')).2.1∧(goN (bxs M k) M n (t,s)).2.2.ws=(goN (bxs M none) M n (t,s')).2.2.ws
 |0,t,s,s',h=>⟨rfl,rfl,h⟩
 |n+1,t,s,s',h=>by
  obtain⟨h1,h2,h3⟩:=step_same (M:=M) (k:=k) (t:=t) h;unfold goN;rw[h1]
  by_cases hb:(step (bxs M none) M (t,s')).1=true
  ·rw[if_pos hb,if_pos hb];have e1:(step (bxs M k) M (t,s)).2=((step (bxs M none) M (t,s')).2.1,(step (bxs M k) M (t,s)).2.2):=Prod.ext h2 rfl;have e2:(step (bxs M none) M (t,s')).2=((step (bxs M none) M (t,s')).2.1,(step (bxs M none) M (t,s')).2.2):=rfl;obtain⟨g1,g2,g3⟩:=goN_same n (t:=(step (bxs M none) M (t,s')).2.1) h3;rw[e1,e2];dsimp only;exact⟨by rw[g1],g2,g3⟩
  ·rw[if_neg hb,if_neg hb];exact⟨rfl,h2,h3⟩
theorem pick1_same{n:Nat}{q:Int}{t:Tk}{s s':Bs}(h:s.ws=s'.ws):(pick1 (bxs M k) M n q (t,s)).1=(pick1 (bxs M none) M n q (t,s')).1∧(pick1 (bxs M k) M n q (t,s)).2.1=(pick1 (bxs M none) M n q (t,s')).2.1∧(pick1 (bxs M k) M n q (t,s)).2.2.ws=(pick1 (bxs M none) M n q (t,s')).2.2.ws:=by
 have hl:(look (bxs M k) M (t,s)).1=(look (bxs M none) M (t,s')).1:=by rw[look_ws,look_ws,h]
 have e1:look (bxs M k) M (t,s)=((look (bxs M none) M (t,s')).1,s):=Prod.ext hl (look_snd _ M _);have e2:look (bxs M none) M (t,s')=((look (bxs M none) M (t,s')).1,s'):=Prod.ext rfl (look_snd _ M _);unfold pick1
 by_cases h1:q<1∨10000<q
 ·rw[if_pos h1,if_pos h1];exact⟨rfl,rfl,h⟩
 rw[if_neg h1,if_neg h1,hl]
 by_cases h2:(look (bxs M none) M (t,s')).1.st≠1
 ·rw[if_pos h2,if_pos h2,e1,e2];exact⟨rfl,rfl,h⟩
 rw[if_neg h2,if_neg h2,e1];rw[e2];dsimp only;obtain⟨g1,g2,g3⟩:=goN_same (M:=M) (k:=k) (min q.toNat (20000-n)) (t:=(look (bxs M none) M (t,s')).1) h;rw[g1];exact⟨rfl,g2,g3⟩
end
structure Told(c c':Ma):Prop where
 ts:c.ts=c'.ts
 ws:c.bs.ws=c'.bs.ws
 n:c.n=c'.n
theorem Told.pick{M:Mdl}{c c':Ma}(h:Told c c')(p:Int×Int):(pick M true c p).1=(pick M false c' p).1∧Told (pick M true c p).2 (pick M false c' p).2:=by
 obtain⟨ts,bs,n⟩:=c;obtain⟨ts',bs',n'⟩:=c';obtain⟨h1,h2,h3⟩:=h;dsimp only at h1 h2 h3;subst h1 h3;unfold Vm.pick;dsimp only
 by_cases hp:p.1<0∨(ts.length:Int)≤p.1
 ·rw[if_pos hp,if_pos hp];exact⟨rfl,⟨rfl,h2,rfl⟩⟩
 ·rw[if_neg hp,if_neg hp];have e:tOf false p.1.toNat=none:=rfl;obtain⟨g1,g2,g3⟩:=pick1_same (M:=M) (k:=tOf true p.1.toNat) (n:=n) (q:=p.2) (t:=ts.getD p.1.toNat default) h2;unfold Ma.at_;dsimp only;rw[e];exact⟨g1,⟨by dsimp only;rw[g2],g3,by dsimp only;rw[g1]⟩⟩
theorem Told.picks{M:Mdl}:∀(l:List (Int×Int)) {c c':Ma},Told c c'→Told (picks M true l c).2 (picks M false l c').2
 |[],c,c',h=>h
 |p::l,c,c',h=>Told.picks l (h.pick p).2
end Go.Proofs.YtjehflelkpacfaaGreat.Vm
namespace Go.Proofs.YtjehflelkpacfaaGreat.Vm
open ImgM Ver Opt Vw
section
variable{ν:Type}(V:Env ν)(M:Mdl)
def evsN:Nat→Tk×ν→List Ev
 |0,_=>[]
 |n+1,r=>if(step V M r).1=true then evs V M r ++evsN n (step V M r).2 else []
theorem evsN_len:∀(n:Nat) (r:Tk×ν),(evsN V M n r).length≤2*(goN V M n r).1
 |0,r=>Nat.zero_le _
 |n+1,r=>by
  have h1:=evs_len (V:=V) (M:=M) r;have h2:=evsN_len n (step V M r).2;unfold evsN goN
  by_cases hs:(step V M r).1=true
  ·rw[if_pos hs,if_pos hs,Jl];dsimp only;omega
  ·rw[if_neg hs,if_neg hs];exact Nat.zero_le _
def pev(n:Nat)(q:Int)(r:Tk×ν):List Ev:=
 if q<1∨10000<q then []
 else if(look V M r).1.st≠1 then []
 else evsN V M (min q.toNat (20000-n)) (look V M r)
theorem pick1_goN{n:Nat}{q:Int}{r:Tk×ν}:(pick1 V M n q r).1.2=if q<1∨10000<q∨(look V M r).1.st≠1 then 0 else(goN V M (min q.toNat (20000-n)) (look V M r)).1:=by
 unfold pick1
 by_cases h1:q<1∨10000<q
 ·rw[if_pos h1,if_pos (by omega)]
 ·rw[if_neg h1]
  by_cases h2:(look V M r).1.st≠1
  ·rw[if_pos h2,if_pos (.inr (.inr h2))]
  ·rw[if_neg h2,if_neg (show¬(q<1∨10000<q∨(look V M r).1.st≠1)from fun h=>by rcases h with h|h|h;exact h1 (.inl h);exact h1 (.inr h);exact h2 h)]
   by_cases h3:(goN V M (min q.toNat (20000-n)) (look V M r)).1=0
   ·rw[if_pos h3];exact h3.symm
   ·rw[if_neg h3]
theorem pev_len{n:Nat}{q:Int}{r:Tk×ν}:(pev V M n q r).length≤2*(pick1 V M n q r).1.2:=by
 rw[pick1_goN];unfold pev
 by_cases h1:q<1∨10000<q
 ·rw[if_pos h1];exact Nat.zero_le _
 ·rw[if_neg h1]
  by_cases h2:(look V M r).1.st≠1
  ·rw[if_pos h2];exact Nat.zero_le _
  ·rw[if_neg h2,if_neg (fun h=>by rcases h with h|h|h;exact h1 (.inl h);exact h1 (.inr h);exact h2 h)];exact evsN_len V M _ _
end
section
variable{E:EnvR}(hT:∀s e,E.V.tell s e=s){M:Mdl}
include hT in
theorem goNL:∀(n:Nat) (t:Tk) (s:E.ν) (l:List Ev),(goN E.W M n (t,(s,l))).2.2.2=l ++evsN E.V M n (t,s)
 |0,t,s,l=>by simp[goN,evsN]
 |n+1,t,s,l=>by
  obtain⟨h1,h2,h3,h4⟩:=stepW hT (M:=M) t s l;unfold goN evsN;rw[h1]
  by_cases hb:(step E.V M (t,s)).1=true
  ·rw[if_pos hb,if_pos hb];have e1:(step E.W M (t,(s,l))).2=((step E.V M (t,s)).2.1,((step E.V M (t,s)).2.2,l ++evs E.V M (t,s))):=Prod.ext h2 (Prod.ext h3 h4);rw[e1];dsimp only;rw[goNL n,Jt]
  ·rw[if_neg hb,if_neg hb];dsimp only;rw[h4,List.append_nil];have hn:¬(look E.V M (t,s)).1.st=1:=fun h=>by rw[step_yes _ M h]at hb;exact hb rfl
   unfold evs;rw[if_neg hn,List.append_nil]
include hT in
theorem pick1W{n:Nat}{q:Int}{t:Tk}{s:E.ν}{l:List Ev}:(pick1 E.W M n q (t,(s,l))).1=(pick1 E.V M n q (t,s)).1∧(pick1 E.W M n q (t,(s,l))).2.1=(pick1 E.V M n q (t,s)).2.1∧(pick1 E.W M n q (t,(s,l))).2.2.1=(pick1 E.V M n q (t,s)).2.2∧(pick1 E.W M n q (t,(s,l))).2.2.2=l ++pev E.V M n q (t,s):=by
 have hl:=lookW (E:=E) (M:=M) t s l;have hl2:look E.V M (t,s)=((look E.V M (t,s)).1,s):=Prod.ext rfl (look_snd _ M _);unfold pick1 pev
 by_cases h1:q<1∨10000<q
 ·rw[if_pos h1,if_pos h1,if_pos h1];exact⟨rfl,rfl,rfl,(List.append_nil _).symm⟩
 rw[if_neg h1,if_neg h1,if_neg h1,hl];dsimp only
 by_cases h2:(look E.V M (t,s)).1.st≠1
 ·rw[if_pos h2,if_pos h2,if_pos h2];exact⟨rfl,rfl,by rw[look_snd],(List.append_nil _).symm⟩
 rw[if_neg h2,if_neg h2,if_neg h2];obtain⟨g1,g2,g3⟩:=goNW hT (M:=M) (min q.toNat (20000-n)) (look E.V M (t,s)).1 s l;have g4:=goNL hT (M:=M) (min q.toNat (20000-n)) (look E.V M (t,s)).1 s l;rw[←hl2]at g1 g2 g3 g4;rw[g1];exact⟨rfl,g2,g3,g4⟩
end
section
variable{M:Mdl}{k:Nat}
theorem evs_same{t:Tk}{s s':Bs}(h:s.ws=s'.ws):evs (bxs M (some k)) M (t,s)=evs (bxs M none) M (t,s'):=by
 have hl:(look (bxs M (some k)) M (t,s)).1=(look (bxs M none) M (t,s')).1:=by rw[look_ws,look_ws,h]
 have hi:inp (bxs M (some k)) M (t,s)=inp (bxs M none) M (t,s'):=by
  unfold inp;have:((bxs M (some k)).take s (insT M t).a.toNat).1=((bxs M none).take s' (insT M t).a.toNat).1:=by
   show(s.ws.getD _ []).headD 0=(s'.ws.getD _ []).headD 0;rw[h]
  rw[this]
 unfold evs;rw[hl,hi]
theorem step_log{t:Tk}{s:Bs}:(step (bxs M (some k)) M (t,s)).2.2.log=s.log ++(evs (bxs M (some k)) M (t,s)).map (fun e=>(k,e)):=by
 unfold evs
 by_cases hs:(look (bxs M (some k)) M (t,s)).1.st=1
 ·rw[step_yes _ M hs,if_pos hs];dsimp only;rw[look_snd];exact plays_log M k _ s
 ·rw[step_no _ M hs,if_neg hs];dsimp only;rw[look_snd,List.map_nil,List.append_nil]
theorem goN_log:∀(n:Nat) {t:Tk} {s s':Bs},s.ws=s'.ws→(goN (bxs M (some k)) M n (t,s)).2.2.log=s.log ++(evsN (bxs M none) M n (t,s')).map (fun e=>(k,e))
 |0,t,s,s',h=>by simp[goN,evsN]
 |n+1,t,s,s',h=>by
  obtain⟨h1,h2,h3⟩:=step_same (M:=M) (k:=some k) (t:=t) h;have h4:=step_log (M:=M) (k:=k) (t:=t) (s:=s);rw[evs_same h]at h4;unfold goN evsN;rw[h1]
  by_cases hb:(step (bxs M none) M (t,s')).1=true
  ·rw[if_pos hb,if_pos hb];have e1:(step (bxs M (some k)) M (t,s)).2=((step (bxs M none) M (t,s')).2.1,(step (bxs M (some k)) M (t,s)).2.2):=Prod.ext h2 rfl;have e2:(step (bxs M none) M (t,s')).2=((step (bxs M none) M (t,s')).2.1,(step (bxs M none) M (t,s')).2.2):=rfl;have ih:=goN_log n (t:=(step (bxs M none) M (t,s')).2.1) h3;rw[e1,e2];dsimp only;rw[ih,h4,Jq,Jt]
  ·rw[if_neg hb,if_neg hb];dsimp only;have hn:¬(look (bxs M none) M (t,s')).1.st=1:=fun h=>by rw[step_yes _ M h]at hb;exact hb rfl
   rw[h4];unfold evs;rw[if_neg hn]
theorem pick1_log{n:Nat}{q:Int}{t:Tk}{s s':Bs}(h:s.ws=s'.ws):(pick1 (bxs M (some k)) M n q (t,s)).2.2.log=s.log ++(pev (bxs M none) M n q (t,s')).map (fun e=>(k,e)):=by
 have hl:(look (bxs M (some k)) M (t,s)).1=(look (bxs M none) M (t,s')).1:=by rw[look_ws,look_ws,h]
 have e1:look (bxs M (some k)) M (t,s)=((look (bxs M none) M (t,s')).1,s):=Prod.ext hl (look_snd _ M _);have e2:look (bxs M none) M (t,s')=((look (bxs M none) M (t,s')).1,s'):=Prod.ext rfl (look_snd _ M _);unfold pick1 pev
 by_cases h1:q<1∨10000<q
 ·rw[if_pos h1,if_pos h1];simp
 rw[if_neg h1,if_neg h1,hl]
 by_cases h2:(look (bxs M none) M (t,s')).1.st≠1
 ·rw[if_pos h2,if_pos h2,e1];simp
 rw[if_neg h2,if_neg h2,e1,e2];exact goN_log _ h
def pe(M:Mdl)(c:Ma)(p:Int×Int):List Ev:=if p.1<0∨(c.ts.length:Int)≤p.1 then []else pev (bxs M none) M c.n p.2 (c.at_ p.1.toNat)
theorem Told.pick_log{c c':Ma}(h:Told c c')(p:Int×Int):(Vm.pick M true c p).2.bs.log=c.bs.log ++(pe M c' p).map (fun e=>(p.1.toNat,e)):=by
 obtain⟨ts,bs,n⟩:=c;obtain⟨ts',bs',n'⟩:=c';obtain⟨h1,h2,h3⟩:=h;dsimp only at h1 h2 h3;subst h1 h3;unfold Vm.pick pe;dsimp only
 by_cases hp:p.1<0∨(ts.length:Int)≤p.1
 ·rw[if_pos hp,if_pos hp];simp
 ·rw[if_neg hp,if_neg hp];exact pick1_log h2
theorem pe_len(M:Mdl)(c:Ma)(p:Int×Int):(pe M c p).length≤2*(pick M false c p).1.2:=by
 unfold pe Vm.pick
 by_cases hp:p.1<0∨(c.ts.length:Int)≤p.1
 ·rw[if_pos hp];exact Nat.zero_le _
 ·rw[if_neg hp,if_neg hp];exact pev_len _ M
theorem pe_none{c:Ma}{p:Int×Int}(h:(pick M false c p).1.1≠0):pe M c p=[]:=by
 unfold pe;unfold Vm.pick at h
 by_cases hp:p.1<0∨(c.ts.length:Int)≤p.1
 ·rw[if_pos hp]
 ·rw[if_neg hp]at h⊢;have e:tOf false p.1.toNat=none:=rfl;dsimp only at h;rw[e]at h;unfold pick1 at h;have hz:(pev (bxs M none) M c.n p.2 (c.at_ p.1.toNat)).length≤0:=by
   refine Nat.le_trans (pev_len _ M) ?_;unfold pick1
   by_cases h1:p.2<1∨10000<p.2
   ·rw[if_pos h1];exact Nat.le_refl _
   ·rw[if_neg h1]at h⊢
    by_cases h2:(look (bxs M none) M (c.at_ p.1.toNat)).1.st≠1
    ·rw[if_pos h2];exact Nat.le_refl _
    ·rw[if_neg h2]at h⊢;dsimp only at h⊢
     by_cases h3:(goN (bxs M none) M (min p.2.toNat (20000-c.n)) (look (bxs M none) M (c.at_ p.1.toNat))).1=0
     ·rw[if_pos h3];exact Nat.le_refl _
     ·rw[if_neg h3]at h;exact absurd rfl h
  exact List.eq_nil_of_length_eq_zero (by omega)
end
end Go.Proofs.YtjehflelkpacfaaGreat.Vm
namespace Go.Proofs.YtjehflelkpacfaaGreat.Vw
open Go.RowKit Go.Proofs.YtjehflelkpacfaaGreat.Img
structure RkL where
 tb:Nat
 to:Option Addr
 tc:Nat
 oth:List RC
 now:Nat
 cur:RC
 st:Int
 bx:Int
 tr:Int
 oo:Option Addr
 oc:Nat
 out:List Int
 lo:Option Addr
 lc:Nat
 log:List Vm.Ev
instance:Inhabited RkL:=⟨⟨0,none,0,[],0,default,0,0,0,none,0,[],none,0,[]⟩⟩
abbrev RkL.rt(t:RkL)(E:EnvR)(e:E.μ):RT E:=⟨t.to,t.tc,t.oth,t.now,t.cur,t.st,t.bx,t.tr,t.oo,t.oc,t.out,t.lo,t.lc,t.log,e⟩
abbrev RT.lay{E:EnvR}(z:RT E)(tb:Nat):RkL:=⟨tb,z.to,z.tc,z.oth,z.now,z.cur,z.st,z.bx,z.tr,z.oo,z.oc,z.out,z.lo,z.lc,z.log⟩
def RkL.all(t:RkL):List RC:=t.oth.set t.now t.cur
def RkL.tk(t:RkL):Vm.Tk:=⟨t.all.map RC.abs,t.now,t.st,t.bx,t.tr,t.out⟩
theorem RkL.rt_two(t:RkL)(E:EnvR)(e:E.μ):(t.rt E e).two=(t.tk,(E.abs e,t.log)):=rfl
structure RkL.Wf(t:RkL):Prop where
 now:t.now<t.oth.length
 few:t.oth.length≤31
 st:t.st≤3∨t.st=4∨t.st=5
theorem RkL.Wf.rt{t:RkL}(h:t.Wf){E:EnvR}{e:E.μ}(he:E.ok e):(t.rt E e).Wf:=⟨h.now,h.few,he,h.st⟩
theorem RT.Wf.lay{E:EnvR}{z:RT E}(h:z.Wf)(tb:Nat):(z.lay tb).Wf:=⟨h.now,h.few,h.st⟩
abbrev rkO(t:RkL):Chunk:=arr t.oo t.out.length t.oc 2 i64c t.out
abbrev rkL(m:ML)(t:RkL):List Chunk:=[blk t.tb [.slice m.bo m.bx.length m.bc, .slice m.uo m.us.length m.uc, .slice t.to t.oth.length t.tc, .int .i64 (t.now:Int), .int .i64 t.st, .int .i64 t.bx, .int .i64 t.tr, .slice t.oo t.out.length t.oc, .bool false, .int .i64 0, .slice t.lo t.log.length t.lc] 79,arr t.to t.oth.length t.tc 140 rcC t.all,bagR (t.oth.eraseIdx t.now),rfM t.cur,rwM t.cur,rkO t,arr t.lo t.log.length t.lc 57 revC t.log]
theorem rkL_excl(m:ML)(t:RkL):∀c∈rkL m t,c.excl=true:=by simp[blk_excl,arr_excl]
def rksM(m:ML)(l:List RkL):Chunk:=bag (l.flatMap (rkL m))
theorem rksM_excl(m:ML)(l:List RkL):(rksM m l).excl=true:=bag_excl
theorem rk_mem{l:List RkL}{k:Nat}(hk:k<l.length):l.getD k default∈l:=by
 rw[Jd,Je hk];exact List.getElem_mem hk
theorem rk_split(m:ML){l:List RkL}{k:Nat}(hk:k<l.length):(l.flatMap (rkL m)).Perm (rkL m (l.getD k default) ++(l.eraseIdx k).flatMap (rkL m)):=by
 have:=(perm_erase hk).flatMap_right (rkL m);simpa only[List.flatMap_cons]using this
theorem Mem.rkOut{w:World}{L L':List Chunk}{m:ML}{l:List RkL}{k:Nat}(h:Mem w L)(t:Take (rksM m l) L L')(hk:k<l.length):Mem w (rkL m (l.getD k default) ++(rksM m (l.eraseIdx k)::L')):=
 Mem.bagOut h t (rk_split m hk)
theorem Mem.rkIn{w:World}{L L' F:List Chunk}{m:ML}{l:List RkL}{k:Nat}{t:RkL}(h:Mem w L)(tk:Take (rksM m (l.eraseIdx k)) L L')(t2:Takes (rkL m t) L' F)(hk:k<l.length):Mem w (rksM m (l.set k t)::F):=by
 refine Mem.bagIn h tk t2 ?_ (rkL_excl m t);have:=rk_split m (l:=l.set k t) (k:=k) (by simpa using hk);have e1:(l.set k t).getD k default=t:=by rw[Jd,JS hk];rfl
 rwa [e1,List.eraseIdx_set_eq]at this
theorem Mem.rkAdd{w:World}{L L' F:List Chunk}{m:ML}{l:List RkL}{t:RkL}(h:Mem w L)(tk:Take (rksM m l) L L')(t2:Takes (rkL m t) L' F):Mem w (rksM m (l ++[t])::F):=by
 have h1:=Mem.bagAdd h tk t2 (rkL_excl m t);have e:(l ++[t]).flatMap (rkL m)=l.flatMap (rkL m) ++rkL m t:=by simp
 unfold rksM;rw[e];exact h1
theorem Mem.rkNext{w:World}{L L':List Chunk}{m:ML}{l:List RkL}{k:Nat}(h:Mem w L)(t:Take (rksM m (l.drop k)) L L')(hk:k<l.length):Mem w (rkL m (l.getD k default) ++(rksM m (l.drop (k+1))::L')):=by
 refine Mem.bagOut h t ?_;have e:l.drop k=l.getD k default::l.drop (k+1):=by
  rw[Jd,Je hk,JZ,List.getElem_cons_drop]
 rw[e,List.flatMap_cons]
@[reducible] def wxEnv (M : ImgM.Mdl) (p : WxP) : EnvR where
 μ:=List Rw
 ν:=Vm.Bs
 V:=Vm.bxs M none
 abs:=wxAbs
 ok:=WxOk M p
 mem:=wxM p
 size _:=0
 sPut _ _ _:=Nat.zero_le _
 sTake _ _:=Nat.zero_le _
 excl:=wxM_excl p
 rc:=wxR p
 rexcl:=wxR_excl p
 T:=74
 rv:=ptr p.bb
 boxes:=M.boxes.length
 fRoom:=136
 fSome:=137
 fGive:=135
 fGet:=134
 mRoom:=finds (ptr:=true) (by kernel_rfl) (finds_ptr Tryz.underlying74)
 mSome:=finds (ptr:=true) (by kernel_rfl) (finds_ptr Tryz.underlying74)
 mGive:=finds (ptr:=true) (by kernel_rfl) (finds_ptr Tryz.underlying74)
 mGet:=finds (ptr:=true) (by kernel_rfl) (finds_ptr Tryz.underlying74)
 bRoom:=by kernel_rfl
 bSome:=by kernel_rfl
 bGive:=by kernel_rfl
 bGet:=by kernel_rfl
 room e b he hb:=wxRoom_is M p e he b hb
 some e b he hb:=wxSome_is M p e he b hb
 give e b v he hb hf _:=wxGive_is M p e he b hb v hf
 get e b he hb hf:=wxGet_is M p e he b hb hf
theorem wx_tell(M:ImgM.Mdl)(p:WxP):∀s e,(wxEnv M p).V.tell s e=s:=fun _ _=>rfl
abbrev alC(to:Option Addr)(tn tc bb n:Nat):List Value:=[.slice to tn tc,ptr bb, .int .i64 (n:Int)]
end Go.Proofs.YtjehflelkpacfaaGreat.Vw
