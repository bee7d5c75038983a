/- An instruction, in letters, does what package verify does: all of them. Plain Lean. -/
import Derived.Test.YtjehflelkpacfaaGreatM30
set_option linter.unusedVariables false
set_option linter.unusedSimpArgs false
set_option linter.unusedSectionVars false
set_option maxRecDepth 100000
namespace Go.Proofs.YtjehflelkpacfaaGreat.Rf7
open ImgM Ver Opt
section
variable{M:Mdl}(h30:M.units.length≤30){u:Unt}{st:List Int}{h:List Bool}(hst:∀t∈st,VT M t)(hl:st.length≤300)
theorem map_at{k:Nat}(hk:k<st.length):(st.map lt1).getD k 0=lt1 (st.getD k 0):=by
 rw[Jd,JU,Je hk,Jd,Je hk];rfl
theorem want_one{t:Int}{f:Flow}(h0:f.stack.length≠0)(h1:f.stack.getD (f.stack.length-1) 0=t):want [t] f={f with stack:=f.stack.take (f.stack.length-1)}:=by
 show want1 t f=_;unfold want1;rw[pop_ok h0];dsimp only;rw[if_neg (fun h=>h h1)]
theorem handle_pl{t:Int}(ht:t=1∨t=2):handle M t=false:=by
 cases hx:handle M t with
 |false=>rfl
 |true=>have:=handle_iff.1 hx;omega
theorem vt_handle{t:Int}(h:VT M t)(hp:¬(t=1∨t=2)):handle M t=true:=by
 rcases h with h|h|h
 ·exact absurd (.inl h) hp
 ·exact absurd (.inr h) hp
 ·exact h
theorem gen7_err{e:Int}{a b:List UInt8}{fin:Bool}{hh:List Bool}{s:List UInt8}(h0:e≠0):gen7 0 (e,a,b) fin hh s=(e,[],[]):=by
 unfold gen7;rw[if_neg (fun h=>h rfl),if_pos h0]
theorem yes8:(8:Int)≠0:=by decide
theorem yes11:(11:Int)≠0:=by decide
theorem gen_none{f:Flow}(h:(pop f).2.err≠0):gen M f=(none,(pop f).2):=by unfold gen;rw[if_pos h]
theorem gen_no{f:Flow}(h:(pop f).2.err=0)(hh:handle M (pop f).1=false):gen M f=(none,fail 9 (pop f).2):=by unfold gen;rw[if_neg (fun hx=>hx h),if_pos hh]
theorem gen_yes{f:Flow}(h:(pop f).2.err=0)(hh:handle M (pop f).1=true):gen M f=(some ((pop f).1-10),(pop f).2):=by unfold gen;rw[if_neg (fun hx=>hx h),if_neg (by rw[hh];decide)]
theorem want7_few{i:Ins}{st:List UInt8}{n:Nat}(ho:i.op=30∨i.op=32)(hn:n=if i.op=30 then 2 else 1)(h:st.length<n):want7 M u i st=(12,[],[]):=by
 subst hn;unfold want7;rw[if_pos ho];dsimp only;rw[if_pos h]
theorem want7_pl{i:Ins}{st:List UInt8}{n:Nat}(ho:i.op=30∨i.op=32)(hn:n=if i.op=30 then 2 else 1)(h:¬st.length<n)(hp:st.getD (st.length-n) 0=110∨st.getD (st.length-n) 0=98):want7 M u i st=(9,[],[]):=by
 subst hn;unfold want7;rw[if_pos ho];dsimp only;rw[if_neg h,if_pos hp]
theorem want7_ok{i:Ins}{st:List UInt8}{n:Nat}(ho:i.op=30∨i.op=32)(hn:n=if i.op=30 then 2 else 1)(h:¬st.length<n)(hp:¬(st.getD (st.length-n) 0=110∨st.getD (st.length-n) 0=98)):want7 M u i st=if i.op=30 then(0,[st.getD (st.length-n) 0,lt1 (M.units.getD ((st.getD (st.length-n) 0).toNat-65) default).takes],[lt1 (M.units.getD ((st.getD (st.length-n) 0).toNat-65) default).result])else(0,[st.getD (st.length-n) 0],[98]):=by
 subst hn;unfold want7;rw[if_pos ho];dsimp only;rw[if_neg h,if_neg hp]
include h30 hst in
theorem fin_alive{i:Ins}(ho:i.op=32):gen7 0 (want7 M u i (st.map lt1)) false h (st.map lt1)=out7 (push 2 (gen M (F0 st h)).2):=by
 have hn:1=if i.op=30 then 2 else 1:=by rw[if_neg (by omega)]
 by_cases h0:st.length=0
 ·rw[want7_few (.inr ho) hn (by rw[Jf];omega),gen7_err yes12];have hp:(pop (F0 st h)).2.err=12:=by rw[pop_no h0];rfl
  rw[gen_none (by rw[hp];exact yes12)];exact(out_err (e:=12) ((err_push (by rw[hp];exact yes12)).trans hp) yes12).symm
 ·have hr:=pop_in h30 hst h0;obtain⟨p1,p2⟩:=lt1_pl hr;have hv:=hst _ (getD_in (st:=st) (k:=st.length-1) (by omega));have hpo:=pop_ok (f:=F0 st h) h0;have hat:(st.map lt1).getD ((st.map lt1).length-1) 0=lt1 (st.getD (st.length-1) 0):=by rw[Jf];exact map_at (by omega)
  by_cases hp:st.getD (st.length-1) 0=1∨st.getD (st.length-1) 0=2
  ·rw[want7_pl (.inr ho) hn (by rw[Jf];omega) (by rw[hat];exact hp.imp p1.2 p2.2),gen7_err yes9,gen_no (by rw[hpo]) (by rw[hpo];exact handle_pl hp)];have he:(fail 9 (pop (F0 st h)).2).err=9:=by rw[hpo];rfl
   exact(out_err (e:=9) ((err_push (by rw[he];exact yes9)).trans he) yes9).symm
  ·rw[want7_ok (.inr ho) hn (by rw[Jf];omega) (by rw[hat];exact fun hx=>hp (hx.imp p1.1 p2.1)),if_neg (by omega),hat,gen_yes (by rw[hpo]) (by rw[hpo];exact vt_handle hv hp)];have:=fin_push (h:=h) h30 hst [st.getD (st.length-1) 0] 2 (fun t ht=>by simp at ht;subst ht;exact hv);rw[want_one (f:=F0 st h) h0 rfl]at this;rw[hpo];exact this
include h30 hst in
theorem fin_resume{i:Ins}(ho:i.op=30)(hU:∀k,k<M.units.length→UV M (M.units.getD k default)):gen7 0 (want7 M u i (st.map lt1)) false h (st.map lt1)=out7 (match gen M (pop (F0 st h)).2 with
  |(none,g)=>g
  |(some k,g)=>push (M.units.getD k.toNat default).result (if(pop (F0 st h)).1≠(M.units.getD k.toNat default).takes then fail 9 g else g)):=by
 have hn:2=if i.op=30 then 2 else 1:=by rw[if_pos ho]
 by_cases h0:st.length=0
 ·rw[want7_few (.inl ho) hn (by rw[Jf];omega),gen7_err yes12];have e1:(pop (F0 st h)).2=fail 12 (F0 st h):=by rw[pop_no h0]
  have e2:(pop (fail 12 (F0 st h))).2=fail 12 (F0 st h):=by rw[pop_no (f:=fail 12 (F0 st h)) h0];exact err_fail (e:=12) (f:=fail 12 (F0 st h)) yes12
  rw[e1,gen_none (by rw[e2];exact yes12),e2];exact(out_err (e:=12) rfl yes12).symm
 have hpo:=pop_ok (f:=F0 st h) h0;rw[hpo];have hl1:(st.take (st.length-1)).length=st.length-1:=by rw[List.length_take];omega
 by_cases h1:st.length=1
 ·rw[want7_few (.inl ho) hn (by rw[Jf];omega),gen7_err yes12];have e2:=pop_no (f:={F0 st h with stack:=st.take (st.length-1)}) (by show(st.take (st.length-1)).length=0;omega);rw[gen_none (by rw[e2];exact yes12),e2];exact(out_err (e:=12) rfl yes12).symm
 have e2:(st.take (st.length-1)).getD ((st.take (st.length-1)).length-1) 0=st.getD (st.length-2) 0:=by
  rw[hl1,Jd,List.getElem?_take,if_pos (by omega),Jd];rfl
 have hpo2:=pop_ok (f:={F0 st h with stack:=st.take (st.length-1)}) (by show(st.take (st.length-1)).length≠0;omega);have hp21:(pop ({F0 st h with stack:=st.take (st.length-1)}:Flow)).1=st.getD (st.length-2) 0:=by rw[hpo2];exact e2
 have hp22:(pop ({F0 st h with stack:=st.take (st.length-1)}:Flow)).2.err=0:=by rw[hpo2]
 have hv:=hst _ (getD_in (st:=st) (k:=st.length-2) (by omega));have hr:=hv.rng h30;obtain⟨p1,p2⟩:=lt1_pl hr;have hat:(st.map lt1).getD ((st.map lt1).length-2) 0=lt1 (st.getD (st.length-2) 0):=by rw[Jf];exact map_at (by omega)
 by_cases hp:st.getD (st.length-2) 0=1∨st.getD (st.length-2) 0=2
 ·rw[want7_pl (.inl ho) hn (by rw[Jf];omega) (by rw[hat];exact hp.imp p1.2 p2.2),gen7_err yes9,gen_no hp22 (by rw[hp21];exact handle_pl hp)];refine(out_err (e:=9) ?_ yes9).symm;dsimp only;unfold fail;rw[if_pos hp22]
 have hh:=vt_handle hv hp;rw[want7_ok (.inl ho) hn (by rw[Jf];omega) (by rw[hat];exact fun hx=>hp (hx.imp p1.1 p2.1)),if_pos ho,hat,gen_yes hp22 (by rw[hp21];exact hh),hp21];obtain⟨q1,q2,q3⟩:=handle_iff.1 hh;have hk:(lt1 (st.getD (st.length-2) 0)).toNat-65=(st.getD (st.length-2) 0-10).toNat:=by
  rw[lt1_nat (by omega)];omega
 rw[hk,hpo2];dsimp only;have hux:=hU (st.getD (st.length-2) 0-10).toNat (by omega);generalize M.units.getD (st.getD (st.length-2) 0-10).toNat default=x at *;have htk:=hux.tak q3;have hre:=hux.res (by omega);have htv:VT M x.takes:=htk.imp id .inl;have hf:=fin_push (h:=h) h30 hst [st.getD (st.length-2) 0,x.takes] x.result (fun t ht=>by
  simp at ht;rcases ht with rfl|rfl
  ·exact hv
  ·exact htv)
 refine Eq.trans ?_ (hf.trans ?_)
 ·rfl
 ·have hw:want [st.getD (st.length-2) 0,x.takes] (F0 st h)=want1 (st.getD (st.length-2) 0) (want1 x.takes (F0 st h)):=rfl;rw[hw]
  by_cases ht:st.getD (st.length-1) 0=x.takes
  ·have w1:want1 x.takes (F0 st h)={F0 st h with stack:=st.take (st.length-1)}:=want_one (f:=F0 st h) h0 ht;have w2:want1 (st.getD (st.length-2) 0) ({F0 st h with stack:=st.take (st.length-1)}:Flow)={F0 st h with stack:=(st.take (st.length-1)).take ((st.take (st.length-1)).length-1)}:=want_one (f:={F0 st h with stack:=st.take (st.length-1)}) (by show(st.take (st.length-1)).length≠0;omega) e2;rw[w1,w2,if_neg (fun h=>h ht)]
  ·have w1:want1 x.takes (F0 st h)=fail 9 {F0 st h with stack:=st.take (st.length-1)}:=by
    unfold want1;rw[pop_ok (f:=F0 st h) h0];dsimp only;rw[if_pos ht]
   rw[w1,if_pos ht];have a0:(fail 9 ({F0 st h with stack:=st.take (st.length-1)}:Flow)).err=9:=rfl;have a1:(push x.result (want1 (st.getD (st.length-2) 0) (fail 9 ({F0 st h with stack:=st.take (st.length-1)}:Flow)))).err=9:=by
    rw[err_push (by rw[err_want1 (by rw[a0];exact yes9),a0];exact yes9),err_want1 (by rw[a0];exact yes9),a0]
   have a3:(fail 9 ({F0 st h with stack:=(st.take (st.length-1)).take ((st.take (st.length-1)).length-1)}:Flow)).err=9:=rfl;have a2:(push x.result (fail 9 ({F0 st h with stack:=(st.take (st.length-1)).take ((st.take (st.length-1)).length-1)}:Flow))).err=9:=by
    rw[err_push (by rw[a3];exact yes9),a3]
   rw[out_err a1 yes9,out_err a2 yes9]
end
theorem isUnit_iff{M:Mdl}{i k:Int}:isUnit M i k=true↔0≤i∧i<(M.units.length:Int)∧(M.units.getD i.toNat default).kind=k:=by
 unfold isUnit;simp only[JX,JV];exact⟨fun⟨⟨a,b⟩,c⟩=>⟨a,b,c⟩,fun⟨a,b,c⟩=>⟨⟨a,b⟩,c⟩⟩
structure Frm(M:Mdl):Prop where
 n30:M.units.length≤30
 uv:∀k,k<M.units.length→UV M (M.units.getD k default)
 bx:∀k,k<M.boxes.length→(M.boxes.getD k default).1=1∨(M.boxes.getD k default).1=2
theorem frm_of{M:Mdl}(hF:FormOk M):Frm M:=by
 refine⟨hF.nunits,fun k hk=>?_,fun k hk=>?_⟩
 ·exact uv_head (hF.units _ (by rw[Jd,Je hk];exact List.getElem_mem hk)).1
 ·exact plain_iff.1 (hF.boxes _ (by rw[Jd,Je hk];exact List.getElem_mem hk)).1
section
variable{M:Mdl}(hF:Frm M){u:Unt}(hu:UV M u){i:Ins}(hi:InsOk M u i){st:List Int}{h:List Bool}(hst:∀t∈st,VT M t)(hl:st.length≤300)
include hF in
theorem par_vt{k:Int}{kd:Int}(hk:isUnit M k kd=true):∀t∈(M.units.getD k.toNat default).locals.take (M.units.getD k.toNat default).params.toNat,VT M t:=fun t ht=>by
 have:=isUnit_iff.1 hk;exact(hF.uv k.toNat (by omega)).loc t (List.mem_of_mem_take ht)
theorem vt_pl{t:Int}(h:t=1∨t=2):VT M t:=h.imp id .inl
theorem getD_loc{l:List Int}{k:Nat}(hk:k<l.length):l.getD k 0∈l:=getD_in hk
include hF hu hi hst hl in
theorem core_eq:core7 M u i (st.map lt1) h=out7 (sem M u i (st,h)):=by
 have h30:=hF.n30;have hop:=hi.op;have v1:VT M 1:= .inl rfl;have v2:VT M 2:= .inr (.inl rfl);have one:∀{t:Int},VT M t→∀x∈[t],VT M x:=fun ht x hx=>by simp at hx;subst hx;exact ht
 have two:∀{t s:Int},VT M t→VT M s→∀x∈[t,s],VT M x:=fun ht hs x hx=>by
  simp at hx;rcases hx with rfl|rfl
  ·exact ht
  ·exact hs
 have nil:∀x∈([]:List Int),VT M x:=fun x hx=>by cases hx
 rw[core_gen]
 --what needs no handle
 have w0:¬(i.op=30∨i.op=32)→want7 M u i (st.map lt1)=(0,needs7 M u i):=fun hn=>by unfold want7;rw[if_neg hn]
 have p0:i.op≠3→i.op≠24→i.op≠25→i.op≠31→pre7 u i h=0:=fun a b c d=>by unfold pre7;rw[if_neg (fun hx=>a hx.1),if_neg (by omega)]
 have d0:i.op≠24→i.op≠25→decide (i.op=24∨i.op=25)=false:=fun a b=>decide_eq_false (by omega)
 unfold sem core
 by_cases o21:i.op=21
 ·rw[if_pos o21,p0 (by omega) (by omega) (by omega) (by omega),w0 (by omega),d0 (by omega) (by omega),if_neg (by omega)];have e:needs7 M u i=([],[]):=by unfold needs7;rw[if_neg (by omega),if_neg (by omega),if_neg (by omega),if_neg (by omega),if_neg (by omega),if_neg (by omega),if_neg (by omega),if_neg (by omega),if_neg (by omega),if_neg (by omega),if_neg (by omega),if_neg (by omega),if_neg (by omega),if_neg (by omega),if_neg (by omega),if_neg (by omega),if_neg (by omega),if_neg (by omega),if_neg (by omega)]
  rw[e];have:=fin_want (h:=h) h30 hst hl [] h nil;exact this
 rw[if_neg o21]
 by_cases o22:i.op=22
 ·rw[if_pos o22,p0 (by omega) (by omega) (by omega) (by omega),w0 (by omega),d0 (by omega) (by omega),if_neg (by omega)];have e:needs7 M u i=([98],[]):=by unfold needs7;rw[o22];rfl
  rw[e];have:=fin_want (h:=h) h30 hst hl [2] h (one v2);rw[show({want [2] (F0 st h)with has:=h}:Flow)=want [2] (F0 st h) by
   have:=want_has [2] (F0 st h);generalize want [2] (F0 st h)=g at *;obtain⟨a,b,c,d,e⟩:=g;dsimp only at this;subst this;rfl]at this
  exact this
 rw[if_neg o22];unfold Ver.step;rw[if_neg o21,if_neg o22]
 by_cases o1:i.op=1
 ·rw[if_pos o1,p0 (by omega) (by omega) (by omega) (by omega),w0 (by omega),d0 (by omega) (by omega),if_neg (by omega)];have e:needs7 M u i=([],[110]):=by unfold needs7;rw[o1];rfl
  rw[e];exact fin_push h30 hst [] 1 nil
 rw[if_neg o1]
 by_cases o2:i.op=2
 ·rw[if_pos o2,p0 (by omega) (by omega) (by omega) (by omega),w0 (by omega),d0 (by omega) (by omega),if_neg (by omega)];have e:needs7 M u i=([],[98]):=by unfold needs7;rw[o2];rfl
  rw[e];exact fin_push h30 hst [] 2 nil
 rw[if_neg o2]
 by_cases o3:i.op=3
 ·rw[if_pos o3]
  by_cases hh:h.getD i.a.toNat false=true
  ·rw[if_pos hh,w0 (by omega),d0 (by omega) (by omega),if_neg (by omega)];have e:needs7 M u i=([],[lt1 (u.locals.getD i.a.toNat 0)]):=by unfold needs7;rw[if_neg o1,if_neg o2,if_pos o3]
   have ep:pre7 u i h=0:=by unfold pre7;rw[if_neg (fun hx=>by rw[hh]at hx;cases hx.2),if_neg (by omega)]
   rw[e,ep];exact fin_push h30 hst [] _ nil
  ·have hh':h.getD i.a.toNat false=false:=by simpa using hh
   have ep:pre7 u i h=11:=by unfold pre7;rw[if_pos ⟨o3,hh'⟩]
   rw[ep,gen_pre yes11,if_neg hh];refine(out_err (e:=11) ?_ yes11).symm;exact err_push (f:=fail 11 (F0 st h)) yes11
 rw[if_neg o3]
 by_cases o4:i.op=4
 ·rw[if_pos o4,p0 (by omega) (by omega) (by omega) (by omega),w0 (by omega),d0 (by omega) (by omega),if_pos o4];have e:needs7 M u i=([lt1 (u.locals.getD i.a.toNat 0)],[]):=by unfold needs7;rw[if_neg o1,if_neg o2,if_neg o3,if_pos o4]
  rw[e];have hlc:=hi.loc (.inr o4);have:=fin_want (h:=h) h30 hst hl [u.locals.getD i.a.toNat 0] (h.set i.a.toNat true) (one (hu.loc _ (getD_loc (by omega))));refine this.trans ?_;rw[show(want [u.locals.getD i.a.toNat 0] (F0 st h)).has=h from want_has _ _]
 rw[if_neg o4,if_neg (show¬i.op=4 from o4)]
 by_cases o5:i.op=5
 ·rw[if_pos o5,p0 (by omega) (by omega) (by omega) (by omega),w0 (by omega),d0 (by omega) (by omega)];have e:needs7 M u i=([42],[]):=by unfold needs7;rw[o5];rfl
  rw[e];exact fin_pop h30 hst hl
 rw[if_neg o5]
 by_cases o6:i.op=6
 ·rw[if_pos o6,p0 (by omega) (by omega) (by omega) (by omega),w0 (by omega),d0 (by omega) (by omega)];have e:needs7 M u i=([110],[110]):=by unfold needs7;rw[o6];rfl
  rw[e];exact fin_push h30 hst [1] 1 (one v1)
 rw[if_neg o6]
 by_cases o7:i.op=7
 ·rw[if_pos o7,p0 (by omega) (by omega) (by omega) (by omega),w0 (by omega),d0 (by omega) (by omega)];have e:needs7 M u i=([98],[98]):=by unfold needs7;rw[o7];rfl
  rw[e];exact fin_push h30 hst [2] 2 (one v2)
 rw[if_neg o7]
 by_cases o8:8≤i.op∧i.op≤12
 ·rw[if_pos o8,p0 (by omega) (by omega) (by omega) (by omega),w0 (by omega),d0 (by omega) (by omega)];have e:needs7 M u i=([110,110],[110]):=by unfold needs7;rw[if_neg o1,if_neg o2,if_neg o3,if_neg o4,if_neg o5,if_neg o6,if_neg o7,if_pos o8.2]
  rw[e];exact fin_push h30 hst [1,1] 1 (two v1 v1)
 rw[if_neg o8]
 by_cases o13:i.op=13∨i.op=14
 ·rw[if_pos o13,p0 (by omega) (by omega) (by omega) (by omega),w0 (by omega),d0 (by omega) (by omega)];have e:needs7 M u i=([63,63],[98]):=by unfold needs7;rw[if_neg o1,if_neg o2,if_neg o3,if_neg o4,if_neg o5,if_neg o6,if_neg o7,if_neg (by omega),if_pos o13]
  rw[e];exact fin_eq h30 hst hl
 rw[if_neg o13]
 by_cases o15:15≤i.op∧i.op≤18
 ·rw[if_pos o15,p0 (by omega) (by omega) (by omega) (by omega),w0 (by omega),d0 (by omega) (by omega)];have e:needs7 M u i=([110,110],[98]):=by unfold needs7;rw[if_neg o1,if_neg o2,if_neg o3,if_neg o4,if_neg o5,if_neg o6,if_neg o7,if_neg (by omega),if_neg o13,if_pos o15.2]
  rw[e];exact fin_push h30 hst [1,1] 2 (two v1 v1)
 rw[if_neg o15];have n18:¬i.op≤18:=by omega
 by_cases o19:i.op=19∨i.op=20
 ·rw[if_pos o19,p0 (by omega) (by omega) (by omega) (by omega),w0 (by omega),d0 (by omega) (by omega)];have e:needs7 M u i=([98,98],[98]):=by unfold needs7;rw[if_neg o1,if_neg o2,if_neg o3,if_neg o4,if_neg o5,if_neg o6,if_neg o7,if_neg (by omega),if_neg o13,if_neg n18,if_pos o19]
  rw[e];exact fin_push h30 hst [2,2] 2 (two v2 v2)
 rw[if_neg o19];have nd:needs7 M u i=if i.op=23 then(par7 M i.a,[res7 M i.a])
   else if i.op=24 then([lt1 u.result],[])
   else if i.op=26 then([lt1 (M.boxes.getD i.a.toNat default).1],[])
   else if i.op=27 then([],[lt1 (M.boxes.getD i.a.toNat default).1])
   else if i.op=28 then([63],[])
   else if i.op=29 then(par7 M i.a,[lt1 (10+i.a)])
   else if i.op=31 then([lt1 u.result],[lt1 u.takes])
   else([],[]):=by
  unfold needs7;rw[if_neg o1,if_neg o2,if_neg o3,if_neg o4,if_neg o5,if_neg o6,if_neg o7,if_neg (by omega),if_neg o13,if_neg n18,if_neg o19,if_neg o22]
 unfold special
 by_cases o23:i.op=23
 ·rw[if_pos o23,p0 (by omega) (by omega) (by omega) (by omega),w0 (by omega),d0 (by omega) (by omega),nd,if_pos o23];exact fin_push h30 hst _ _ (par_vt hF (hi.call o23))
 rw[if_neg o23]at nd⊢
 by_cases o29:i.op=29
 ·rw[if_pos o29,p0 (by omega) (by omega) (by omega) (by omega),w0 (by omega),d0 (by omega) (by omega),nd,if_neg (by omega),if_neg (by omega),if_neg (by omega),if_neg (by omega),if_pos o29];exact fin_push h30 hst _ _ (par_vt hF (hi.start o29))
 rw[if_neg o29]
 by_cases o24:i.op=24
 ·rw[if_pos o24,w0 (by omega),decide_eq_true (show i.op=24∨i.op=25 from .inl o24),nd,if_pos o24]
  by_cases hk:u.kind=2
  ·have ep:pre7 u i h=0:=by unfold pre7;rw[if_neg (by omega),if_neg (by omega)]
   rw[ep,if_neg (fun h=>h hk)];exact fin_done h30 hst hl [u.result] (one (vt_pl (hu.res (by omega))))
  ·have ep:pre7 u i h=8:=by unfold pre7;rw[if_neg (by omega),if_pos (.inl ⟨o24,hk⟩)]
   rw[ep,gen_pre yes8,if_pos hk];refine(out_err (e:=8) ?_ yes8).symm;have e1:(want [u.result] (fail 8 (F0 st h))).err=8:=err_want (f:=fail 8 (F0 st h)) yes8;unfold done
   split
   ·exact e1
   ·rw[err_fail (by rw[e1];exact yes8)];exact e1
 rw[if_neg o24]at nd⊢
 by_cases o25:i.op=25
 ·rw[if_pos o25,w0 (by omega),decide_eq_true (show i.op=24∨i.op=25 from .inr o25),nd,if_neg (by omega),if_neg (by omega),if_neg (by omega),if_neg o29,if_neg (by omega)]
  by_cases hk:u.kind=2
  ·have ep:pre7 u i h=8:=by unfold pre7;rw[if_neg (by omega),if_pos (.inr (.inl ⟨o25,hk⟩))]
   rw[ep,gen_pre yes8,if_pos hk];refine(out_err (e:=8) ?_ yes8).symm;unfold done
   split
   ·rfl
   ·rfl
  ·have ep:pre7 u i h=0:=by unfold pre7;rw[if_neg (by omega),if_neg (by omega)]
   rw[ep,if_neg hk];exact fin_done h30 hst hl [] nil
 rw[if_neg o25]
 by_cases o26:i.op=26
 ·rw[if_pos o26,p0 (by omega) (by omega) (by omega) (by omega),w0 (by omega),d0 (by omega) (by omega),nd,if_pos o26];have hb:=hi.box (.inl o26);have:=fin_want (h:=h) h30 hst hl [(M.boxes.getD i.a.toNat default).1] h (one (vt_pl (hF.bx i.a.toNat (by omega))));refine this.trans ?_;have hh:=want_has [(M.boxes.getD i.a.toNat default).1] (F0 st h);generalize want [(M.boxes.getD i.a.toNat default).1] (F0 st h)=g at *;obtain⟨a,b,c,d,e⟩:=g;dsimp only at hh;subst hh;rfl
 rw[if_neg o26]at nd⊢
 by_cases o27:i.op=27
 ·rw[if_pos o27,p0 (by omega) (by omega) (by omega) (by omega),w0 (by omega),d0 (by omega) (by omega),nd,if_pos o27];exact fin_push h30 hst [] _ nil
 rw[if_neg o27]at nd⊢
 by_cases o28:i.op=28
 ·rw[if_pos o28,p0 (by omega) (by omega) (by omega) (by omega),w0 (by omega),d0 (by omega) (by omega),nd,if_pos o28];exact fin_out h30 hst hl
 rw[if_neg o28]at nd⊢;rw[if_neg o29]at nd
 by_cases o30:i.op=30
 ·rw[if_pos o30,p0 (by omega) (by omega) (by omega) (by omega),d0 (by omega) (by omega)];exact fin_resume h30 hst o30 hF.uv
 rw[if_neg o30]
 by_cases o31:i.op=31
 ·rw[if_pos o31,w0 (by omega),d0 (by omega) (by omega),nd,if_pos o31]
  by_cases hk:u.kind=3
  ·have ep:pre7 u i h=0:=by unfold pre7;rw[if_neg (by omega),if_neg (by omega)]
   rw[ep,if_neg (fun h=>h hk)];exact fin_push h30 hst [u.result] _ (one (vt_pl (hu.res (by omega))))
  ·have ep:pre7 u i h=8:=by unfold pre7;rw[if_neg (by omega),if_pos (.inr (.inr ⟨o31,hk⟩))]
   rw[ep,gen_pre yes8,if_pos hk];refine(out_err (e:=8) ?_ yes8).symm;have e1:(want [u.result] (fail 8 (F0 st h))).err=8:=err_want (f:=fail 8 (F0 st h)) yes8;rw[err_push (by rw[e1];exact yes8)];exact e1
 rw[if_neg o31];have o32:i.op=32:=by omega
 rw[if_pos o32,p0 (by omega) (by omega) (by omega) (by omega),d0 (by omega) (by omega)];exact fin_alive h30 hst o32
include hF hu hi hst in
theorem core_vt(he:(sem M u i (st,h)).err=0):∀t∈(sem M u i (st,h)).stack,VT M t:=by
 have hd:=Vm.sem_does hi.op he;have app:∀{s r:List Int},(∀t∈s,VT M t)→(∀t∈r,VT M t)→∀t∈s ++r,VT M t:=fun a b t ht=>by
  rcases List.mem_append.1 ht with h|h
  ·exact a t h
  ·exact b t h
 have one:∀{t:Int},VT M t→∀x∈[t],VT M x:=fun ht x hx=>by simp at hx;subst hx;exact ht
 generalize(sem M u i (st,h)).stack=s' at *;generalize(sem M u i (st,h)).has=h' at *;have left:∀{a b:List Int},(∀t∈a ++b,VT M t)→∀t∈a,VT M t:=fun hx t ht=>hx t (List.mem_append_left _ ht)
 cases hd with
 |const st h ho=>exact app hst (one (by rcases ho with ho|ho<;>rw[ho];exact .inl rfl;exact .inr (.inl rfl)))
 |load st h ho hh=>
  have:=hi.loc (.inl ho);exact app hst (one (hu.loc _ (getD_loc (by omega))))
 |store st h ho=>exact left hst
 |drop st h t ho=>exact left hst
 |neg st h ho=>exact hst
 |not st h ho=>exact hst
 |arith st h ho=>exact app (left hst) (one (.inl rfl))
 |eq st h t ho ht=>exact app (left hst) (one (.inr (.inl rfl)))
 |cmp st h ho=>exact app (left hst) (one (.inr (.inl rfl)))
 |logic st h ho=>exact app (left hst) (one (.inr (.inl rfl)))
 |jump st h ho=>exact hst
 |els st h ho=>exact left hst
 |call st h ho=>
  have:=isUnit_iff.1 (hi.call ho);exact app (left hst) (one (vt_pl ((hF.uv i.a.toNat (by omega)).res (by omega))))
 |ret h ho hk=>exact fun t ht=>by cases ht
 |end_ h ho hk=>exact fun t ht=>by cases ht
 |send st h ho=>exact left hst
 |recv st h ho=>
  have:=hi.box (.inr ho);exact app hst (one (vt_pl (hF.bx i.a.toNat (by omega))))
 |out st h t ho=>exact left hst
 |start st h ho=>
  have hk:=isUnit_iff.1 (hi.start ho);refine app (left hst) (one (.inr (.inr (handle_iff.2 ?_))));refine⟨by omega,by omega,?_⟩;rw[show 10+i.a-10=i.a by omega];exact hk.2.2
 |resume st h k ho hk=>
  obtain⟨q1,q2,q3⟩:=handle_iff.1 hk;rw[show 10+k-10=k by omega]at q2 q3;exact app (left hst) (one (vt_pl ((hF.uv k.toNat (by omega)).res (by omega))))
 |yield st h ho hk=>exact app (left hst) (one (vt_pl (hu.tak hk)))
 |alive st h k ho hk=>exact app (left hst) (one (.inr (.inl rfl)))
end
end Go.Proofs.YtjehflelkpacfaaGreat.Rf7
namespace Go.Proofs.YtjehflelkpacfaaGreat.Vw
open Go.RowKit Go.Proofs.YtjehflelkpacfaaGreat.Img
attribute [local irreducible] Run Cod End OpT Still RunQ RunS RunT Fn PutOk
theorem plain7_is(t:Int):Fn Tryz.prog 82 #[.int .i64 t] [] [] (σ:=Unit) (fun _=>True) (fun _=> .bool (Ver.plain t)) (fun _=>[]):=by
 refine JE [.int .i64 t] Tryz.func82 Tryz.ntmps82 fun w S=>?_
 (refine Jn ?_)
 repeat' (first|refine Jo ?_|(refine JB ?_;intro b)|(refine JA ?_;intro ao cap)|refine goQ (k:=fun h=>?_) (k':=fun h=>?_)|fail)
 all_goals ((refine End.done1_ (()) (he:=by refine bool_eq ?_;(first|(simp[Ver.plain, *];done)|(simp[Ver.plain];omega)|(rw[Bool.eq_iff_iff];simp[Ver.plain];omega)|(simp[Ver.plain, *];intros;omega))) (hp:=?_));trivial)
theorem is7_is(m:ML)(k kd:Int):Fn Tryz.prog 105 #[m.val, .int .i64 k, .int .i64 kd] [md m] [] (σ:=Unit) (fun _=>True) (fun _=> .bool (Ver.isUnit m.mdl k kd)) (fun _=>[]):=by
 refine JE [m.val, .int .i64 k, .int .i64 kd] Tryz.func105 Tryz.ntmps105 fun w S=>?_
 (refine Jn ?_)
 repeat' (first|refine Jo ?_|(refine JB ?_;intro b)|(refine JA ?_;intro ao cap)|refine goQ (k:=fun h=>?_) (k':=fun h=>?_)|fail)
 all_goals ((refine End.done1_ (()) (he:=by refine bool_eq ?_;(first|(simp[Ver.isUnit,getD_u, *];done)|(simp[Ver.isUnit,getD_u];omega)|(rw[Bool.eq_iff_iff];simp[Ver.isUnit,getD_u];omega)|(simp[Ver.isUnit,getD_u, *];intros;omega))) (hp:=?_));trivial)
theorem letter_is(t:Int)(ht:t=1∨t=2∨(10≤t∧t<40)):Fn Tryz.prog 87 #[.int .i64 t] [] [] (σ:=Unit) (fun _=>True) (fun _=>sv [Rf7.lt1 t]) (fun _=>[]):=by
 refine JE [.int .i64 t] Tryz.func87 Tryz.ntmps87 fun w S=>?_
 (refine Jn ?_)
 by_cases h1:t=1
 ·subst h1
  repeat(refine Jy ?_;try first|intro ao cap|intro b)
  (refine End.done1_ (()) (he:=by exact rfl) (hp:=?_));trivial
 by_cases h2:t=2
 ·subst h2
  repeat(refine Jy ?_;try first|intro ao cap|intro b)
  (refine End.done1_ (()) (he:=by exact rfl) (hp:=?_));trivial
 have h3:10≤t∧t<40:=by omega
 have hv:65+t-10=((Rf7.lt1 t).toNat:Int):=by
  have:=Rf7.lt1_nat h3;omega
 repeat(refine Jy ?_;try first|intro ao cap|intro b)
 rw[hv];apply Run.imp (fun w hm=>hm.toArr (iα:=inferInstance) (ef:=inferInstance) (b:=b) (e:=5) (f:=byC) (n:=1) (tk) [Rf7.lt1 t] rfl rfl (by unfold maxLen;simp));(apply Run.op;exact rfl;refine OpT.val_ (h:=by exact Still.sOf (a:=[Rf7.lt1 t]) rfl (Rdb.arr (tk)) rfl rfl rfl (by omega)) (k:=?_))
 repeat(refine Jy ?_;try first|intro ao cap|intro b)
 (refine End.done1_ (()) (he:=Jv) (hp:=?_));trivial
end Go.Proofs.YtjehflelkpacfaaGreat.Vw
