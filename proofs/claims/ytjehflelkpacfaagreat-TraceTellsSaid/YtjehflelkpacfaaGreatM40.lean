/- The document's answer to chapter 7: who comes to which code. Plain Lean. -/
import Derived.Test.YtjehflelkpacfaaGreatM39
set_option linter.unusedVariables false
set_option linter.unusedSimpArgs false
set_option linter.unusedSectionVars false
set_option maxRecDepth 100000
namespace Go.Proofs.YtjehflelkpacfaaGreat.Rf7
open ImgM Ver
theorem calls_pre7:∀(l:List Ins) (out:List Int),out<+:calls l out
 |[],out=>List.prefix_refl _
 |i::l,out=>by
  rw[calls_cons];refine List.IsPrefix.trans ?_ (calls_pre7 l _);unfold call1
  split
  ·exact List.prefix_append _ _
  ·exact List.prefix_refl _
theorem calls_has7:∀(l:List Ins) (out:List Int) (i:Ins),i∈l→i.op=23∨i.op=29→i.a∈calls l out
 |j::l,out,i,hi,ho=>by
  rw[calls_cons];rcases List.mem_cons.1 hi with rfl|hi
  ·refine(calls_pre7 l _).subset ?_;unfold call1
   by_cases h:i.a∈out
   ·rw[if_neg (fun h'=>h'.2 h)];exact h
   ·rw[if_pos ⟨ho,h⟩];simp
  ·exact calls_has7 l _ i hi ho
theorem reach_closed7{M:Mdl}{N:Nat}(hc:∀k,k<N→∀i∈(M.units.getD k default).code,i.op=23∨i.op=29→0≤i.a∧i.a<(N:Int)):∀(n k:Nat) (out:List Int),Once N out→N<n+k→
  (∀j,j<k→j<out.length→∀i∈(uAt M (out.getD j 0)).code,i.op=23∨i.op=29→i.a∈out)→
  out<+:reachRun M n k out∧∀x∈reachRun M n k out,∀i∈(uAt M x).code,i.op=23∨i.op=29→i.a∈reachRun M n k out
 |n,k,out,h,hn,hcl=>by
  by_cases hk:k<out.length
  ·cases n with
   |zero=>have:=h.len;omega
   |succ n=>
    rw[reachRun_step hk];have hpre:=calls_pre7 (M.units.getD (out.getD k 0).toNat default).code out;have hget:∀j,j<out.length→(calls (M.units.getD (out.getD k 0).toNat default).code out).getD j 0=out.getD j 0:=fun j hj=>by
     obtain⟨x,hx⟩:=hpre;rw[←hx,Jd,List.getElem?_append_left hj,←Jd]
    have ho:Once N (calls (M.units.getD (out.getD k 0).toNat default).code out):=calls_once _ _ h (hc _ (by
     have:=h.ok (out.getD k 0) (by rw[Jd,Je hk];exact List.getElem_mem _);omega))
    obtain⟨h1,h2⟩:=reach_closed7 hc n (k+1) _ ho (by omega) (fun j hj hj2 i hi hop=>by
     by_cases hjk:j=k
     ·subst hjk;rw[hget j hk]at hi;exact calls_has7 _ _ i hi hop
     ·rw[hget j (by omega)]at hi;exact hpre.subset (hcl j (by omega) (by omega) i hi hop))
    exact⟨hpre.trans h1,h2⟩
  ·rw[reachRun_end hk];refine⟨List.prefix_refl _,fun x hx i hi hop=>?_⟩;obtain⟨j,hj,rfl⟩:=List.getElem_of_mem hx;refine hcl j (by omega) hj i ?_ hop;rw[Jd,Je hj];exact hi
inductive Rch(M:Mdl)(task:Nat):Nat→Prop
 |base:Rch M task task
 |step {k:Nat} {i:Ins} (h:Rch M task k) (hi:i∈(M.units.getD k default).code) (ho:i.op=23∨i.op=29):Rch M task i.a.toNat
section
variable{M:Mdl}(hc:∀k,k<M.units.length→∀i∈(M.units.getD k default).code,i.op=23∨i.op=29→0≤i.a∧i.a<(M.units.length:Int))
theorem call1_rch{task k:Nat}(hk:Rch M task k){i:Ins}(hi:i∈(M.units.getD k default).code){out:List Int}(h:∀x∈out,Rch M task x.toNat):∀x∈call1 out i,Rch M task x.toNat:=fun x hx=>by
 unfold call1 at hx
 split at hx
 ·rename_i h1
  rcases List.mem_append.1 hx with hx|hx
  ·exact h x hx
  ·simp at hx;subst hx;exact .step hk hi h1.1
 ·exact h x hx
theorem calls_rch{task k:Nat}(hk:Rch M task k):∀(l:List Ins) (out:List Int),(∀i∈l,i∈(M.units.getD k default).code)→(∀x∈out,Rch M task x.toNat)→∀x∈calls l out,Rch M task x.toNat
 |[],out,hl,h=>h
 |i::l,out,hl,h=>by
  rw[calls_cons];exact calls_rch hk l _ (fun j hj=>hl j (List.mem_cons_of_mem _ hj)) (call1_rch hk (hl i List.mem_cons_self) h)
theorem run_rch{task:Nat}:∀(n k:Nat) (out:List Int),(∀x∈out,Rch M task x.toNat)→∀x∈reachRun M n k out,Rch M task x.toNat
 |0,k,out,h=>h
 |n+1,k,out,h=>by
  by_cases hk:k<out.length
  ·rw[reachRun_step hk];refine run_rch n (k+1) _ (calls_rch (h _ ?_) _ out (fun i hi=>hi) h);rw[Jd,Je hk];exact List.getElem_mem hk
  ·rw[reachRun_end hk];exact h
include hc in
theorem mem_reach{task:Nat}(ht:task<M.units.length)(k:Nat):(k:Int)∈reach M task↔Rch M task k:=by
 have ho:Once M.units.length [(task:Int)]:=Once.one ht;obtain⟨h1,h2⟩:=reach_closed7 hc (M.units.length+1) 0 [(task:Int)] ho (by omega) (fun j hj=>absurd hj (Nat.not_lt_zero _));have h3:=reachRun_once hc (M.units.length+1) 0 [(task:Int)] ho;constructor
 ·intro h;have:=run_rch (M:=M) (task:=task) (M.units.length+1) 0 [(task:Int)] (fun x hx=>by simp at hx;subst hx;exact .base) (k:Int) h;exact this
 ·intro h
  induction h with
  |base=>exact h1.subset (by simp)
  | @step k i hk hi hop ih=>
   have hi':i∈(uAt M (k:Int)).code:=hi;have hm:i.a∈reach M task:=h2 (k:Int) ih i hi' hop;have hr:=h3.ok _ hm;have e:((i.a.toNat:Nat):Int)=i.a:=by omega
   rw[e];exact hm
def mark7(k:Nat)(ins:List Bool)(i:Ins):List Bool:=if ins.getD k false=true∧(i.op=23∨i.op=29)then ins.set i.a.toNat true else ins
def marks7(M:Mdl)(ins:List Bool)(k:Nat):List Bool:=(M.units.getD k default).code.foldl (mark7 k) ins
def pass7(M:Mdl)(ins:List Bool):List Bool:=(List.range M.units.length).foldl (marks7 M) ins
def in7(M:Mdl)(task:Nat):Nat→List Bool
 |0=>(List.replicate M.units.length false).set task true
 |n+1=>pass7 M (in7 M task n)
def Sub7(a b:List Bool):Prop:=a.length=b.length∧∀k,a.getD k false=true→b.getD k false=true
theorem Sub7.refl(a:List Bool):Sub7 a a:=⟨rfl,fun _ h=>h⟩
theorem Sub7.trans{a b c:List Bool}(h:Sub7 a b)(k:Sub7 b c):Sub7 a c:=⟨h.1.trans k.1,fun j hj=>k.2 j (h.2 j hj)⟩
theorem getD_setT{l:List Bool}{k j:Nat}(hk:k<l.length):(l.set k true).getD j false=if k=j then true else l.getD j false:=by
 simp only[Jd,List.getElem?_set]
 by_cases h:k=j
 ·subst h;simp[hk]
 ·simp[h]
theorem mark_sub(k:Nat)(ins:List Bool)(i:Ins):Sub7 ins (mark7 k ins i):=by
 unfold mark7
 split
 ·refine⟨by simp,fun j hj=>?_⟩
  by_cases h:i.a.toNat<ins.length
  ·rw[getD_setT h]
   split
   ·rfl
   ·exact hj
  ·rw[List.set_eq_of_length_le (by omega)];exact hj
 ·exact Sub7.refl _
theorem foldl_sub{α:Type}{f:List Bool→α→List Bool}(hf:∀a x,Sub7 a (f a x)):∀(l:List α) (a:List Bool),Sub7 a (l.foldl f a)
 |[],a=>Sub7.refl a
 |x::l,a=>(hf a x).trans (foldl_sub hf l _)
theorem marks_sub(M:Mdl)(ins:List Bool)(k:Nat):Sub7 ins (marks7 M ins k):=foldl_sub (mark_sub k) _ _
theorem pass_sub(M:Mdl)(ins:List Bool):Sub7 ins (pass7 M ins):=foldl_sub (marks_sub M) _ _
theorem foldl_all{α:Type}{f:List Bool→α→List Bool}{R:Nat→Prop}:∀(l:List α) (a:List Bool),(∀x∈l,∀a,(∀k,a.getD k false=true→R k)→∀k,(f a x).getD k false=true→R k)→(∀k,a.getD k false=true→R k)→∀k,(l.foldl f a).getD k false=true→R k
 |[],a,hf,h=>h
 |x::l,a,hf,h=>foldl_all l _ (fun y hy=>hf y (List.mem_cons_of_mem _ hy)) (hf x List.mem_cons_self a h)
theorem pass_rch{task:Nat}{ins:List Bool}(h:∀k,ins.getD k false=true→Rch M task k):∀k,(pass7 M ins).getD k false=true→Rch M task k:=by
 refine foldl_all (R:=Rch M task) _ ins (fun k _ a ha=>?_) h;refine foldl_all (R:=Rch M task) _ a (fun i hi b hb=>?_) ha;intro j hj;unfold mark7 at hj
 split at hj
 ·rename_i hm
  by_cases hl:i.a.toNat<b.length
  ·rw[getD_setT hl]at hj
   by_cases e:i.a.toNat=j
   ·subst e;exact .step (hb k hm.1) hi hm.2
   ·rw[if_neg e]at hj;exact hb j hj
  ·rw[List.set_eq_of_length_le (by omega)]at hj;exact hb j hj
 ·exact hb j hj
theorem fold_hit{k:Nat}:∀(l:List Ins) (ins:List Bool) (i:Ins),i∈l→ins.getD k false=true→(i.op=23∨i.op=29)→i.a.toNat<ins.length→(l.foldl (mark7 k) ins).getD i.a.toNat false=true
 |[],ins,i,hi,_,_,_=>by cases hi
 |j::l,ins,i,hi,hk,ho,hl=>by
  have hs:=mark_sub k ins j;rcases List.mem_cons.1 hi with rfl|hi
  ·refine(foldl_sub (mark_sub k) l _).2 _ ?_;unfold mark7;rw[if_pos ⟨hk,ho⟩,getD_setT hl,if_pos rfl]
  ·exact fold_hit l _ i hi (hs.2 k hk) ho (by rw[←hs.1];exact hl)
theorem pass_hit{k:Nat}{i:Ins}(hi:i∈(M.units.getD k default).code)(ho:i.op=23∨i.op=29):∀(l:List Nat) (ins:List Bool),k∈l→ins.getD k false=true→i.a.toNat<ins.length→(l.foldl (marks7 M) ins).getD i.a.toNat false=true
 |[],ins,hk,_,_=>by cases hk
 |j::l,ins,hk,hm,hl=>by
  have hs:=marks_sub M ins j;rcases List.mem_cons.1 hk with rfl|hk
  ·exact(foldl_sub (marks_sub M) l _).2 _ (fold_hit _ ins i hi hm ho hl)
  ·exact pass_hit hi ho l _ hk (hs.2 k hm) (by rw[←hs.1];exact hl)
def cnt7(a:List Bool):Nat:=a.count true
theorem sub_cnt:∀{a b:List Bool},Sub7 a b→cnt7 a≤cnt7 b∧(a≠b→cnt7 a<cnt7 b)
 |[],[],h=>⟨Nat.le_refl _,fun h=>absurd rfl h⟩
 |[],y::b,h=>by cases h.1
 |x::a,[],h=>by cases h.1
 |x::a,y::b,h=>by
  have h1:Sub7 a b:=⟨by simpa using h.1,fun k hk=>by have:=h.2 (k+1);simpa using this (by simpa using hk)⟩;have h0:=h.2 0;simp only[List.getD_cons_zero]at h0;obtain⟨g1,g2⟩:=sub_cnt h1;unfold cnt7 at *
  cases x<;>cases y
  ·refine⟨by simpa using g1,fun hn=>?_⟩;have:=g2 (fun e=>hn (by rw[e]));simpa using this
  ·refine⟨by simp;omega,fun _=>by simp;omega⟩
  ·exact absurd (h0 rfl) (by decide)
  ·refine⟨by simpa using g1,fun hn=>?_⟩;have:=g2 (fun e=>hn (by rw[e]));simpa using this
theorem in_len(M:Mdl)(task:Nat):∀n,(in7 M task n).length=M.units.length
 |0=>by simp[in7]
 |n+1=>by
  show(pass7 M (in7 M task n)).length=_;rw[←(pass_sub M (in7 M task n)).1,in_len M task n]
theorem in_fix{task:Nat}(ht:task<M.units.length):pass7 M (in7 M task M.units.length)=in7 M task M.units.length:=by
 have grow:∀n,(∀j,j<n→pass7 M (in7 M task j)≠in7 M task j)→n+1≤cnt7 (in7 M task n):=by
  intro n
  induction n with
  |zero=>
   intro _;have hs:Sub7 (List.replicate M.units.length false) ((List.replicate M.units.length false).set task true):=⟨by simp,fun k hk=>by
    rw[Jd,List.getElem?_replicate]at hk
    split at hk<;>simp at hk⟩
   have:=(sub_cnt hs).2 (fun e=>by
    have h1:=congrArg (fun l:List Bool=>l.getD task false) e;rw[getD_setT (by simpa using ht),if_pos rfl,Jd,List.getElem?_replicate]at h1
    split at h1<;>simp at h1)
   show 1≤cnt7 ((List.replicate M.units.length false).set task true);omega
  |succ n ih=>
   intro h;have h1:=ih (fun j hj=>h j (by omega));have h2:=(sub_cnt (pass_sub M (in7 M task n))).2 (fun e=>h n (by omega) e.symm);show n+1+1≤cnt7 (pass7 M (in7 M task n));omega
 have le:cnt7 (in7 M task M.units.length)≤M.units.length:=by
  have:=List.count_le_length (a:=true) (l:=in7 M task M.units.length);rw[in_len]at this;exact this
 have ex:∃j,j<M.units.length∧pass7 M (in7 M task j)=in7 M task j:=by
  refine Classical.byContradiction fun hn=>?_
  have:=grow M.units.length (fun j hj e=>hn ⟨j,hj,e⟩);omega
 obtain⟨j,hj,e⟩:=ex;have stay:∀d,in7 M task (j+d)=in7 M task j:=by
  intro d
  induction d with
  |zero=>rfl
  |succ d ih=>
   show pass7 M (in7 M task (j+d))=_;rw[ih,e]
 have hN:=stay (M.units.length-j);rw[show j+(M.units.length-j)=M.units.length by omega]at hN;rw[hN,e]
include hc in
theorem in_iff{task:Nat}(ht:task<M.units.length)(k:Nat):(in7 M task M.units.length).getD k false=true↔Rch M task k:=by
 have sound:∀n,∀k,(in7 M task n).getD k false=true→Rch M task k:=by
  intro n
  induction n with
  |zero=>
   intro k hk;have hk':((List.replicate M.units.length false).set task true).getD k false=true:=hk;rw[getD_setT (by simpa using ht)]at hk'
   by_cases e:task=k
   ·subst e;exact .base
   ·rw[if_neg e,Jd,List.getElem?_replicate]at hk'
    split at hk'<;>simp at hk'
  |succ n ih=>exact pass_rch ih
 constructor
 ·exact sound _ k
 ·intro h
  induction h with
  |base=>
   have mono:∀n,Sub7 (in7 M task 0) (in7 M task n):=by
    intro n
    induction n with
    |zero=>exact Sub7.refl _
    |succ n ih=>exact ih.trans (pass_sub M _)
   refine(mono _).2 task ?_;show((List.replicate M.units.length false).set task true).getD task false=true;rw[getD_setT (by simpa using ht),if_pos rfl]
  | @step k i hk hi hop ih=>
   have hkl:k<M.units.length:=by
    refine Nat.lt_of_not_le fun hle=>?_
    rw[Jd,List.getElem?_eq_none (by rw[in_len];exact hle)]at ih;simp at ih
   have ha:=hc k hkl i hi hop;rw[←in_fix ht];exact pass_hit hi hop _ _ (List.mem_range.2 hkl) ih (by rw[in_len];omega)
def comes7(M:Mdl)(task:Nat)(op a:Int):Bool:=(List.range M.units.length).any fun k=>(M.units.getD k default).code.any fun i=>(in7 M task M.units.length).getD k false&&(decide (i.op=op)&&decide (i.a=a))
include hc in
theorem comes_uses{task:Nat}(ht:task<M.units.length)(op a:Int):comes7 M task op a=uses M op a task:=by
 rw[Bool.eq_iff_iff];unfold comes7 uses;rw[List.any_eq_true,List.any_eq_true];constructor
 ·rintro⟨k,hk,h⟩;rw[List.any_eq_true]at h;obtain⟨i,hi,h2⟩:=h;rw[JX]at h2;refine⟨(k:Int),(mem_reach hc ht k).2 ((in_iff hc ht k).1 h2.1),?_⟩;rw[List.any_eq_true];exact⟨i,hi,h2.2⟩
 ·rintro⟨x,hx,h⟩;have ho:Once M.units.length (reach M task):=reachRun_once hc (M.units.length+1) 0 [(task:Int)] (Once.one ht);have hr:=ho.ok x hx;obtain⟨k,rfl⟩:=JI hr.1;refine⟨k,List.mem_range.2 (by omega),?_⟩;rw[List.any_eq_true]at h⊢;obtain⟨i,hi,h2⟩:=h;refine⟨i,hi,?_⟩;rw[JX];exact⟨(in_iff hc ht k).2 ((mem_reach hc ht k).1 hx),h2⟩
end
end Go.Proofs.YtjehflelkpacfaaGreat.Rf7
namespace Go.Proofs.YtjehflelkpacfaaGreat.Vw
open Go.RowKit Go.Proofs.YtjehflelkpacfaaGreat.Img
section
theorem in7_succ(M:ImgM.Mdl)(task n:Nat):Rf7.in7 M task (n+1)=(List.range M.units.length).foldl (Rf7.marks7 M) (Rf7.in7 M task n):=rfl
theorem fold_range(M:ImgM.Mdl)(k:Nat)(ins:List Bool):(List.range (k+1)).foldl (Rf7.marks7 M) ins=Rf7.marks7 M ((List.range k).foldl (Rf7.marks7 M) ins) k:=by
 rw[List.range_succ,List.foldl_append];rfl
theorem fold_take{k:Nat}{c:List ImgM.Ins}{j:Nat}(h:j<c.length)(ins:List Bool):(c.take (j+1)).foldl (Rf7.mark7 k) ins=Rf7.mark7 k ((c.take j).foldl (Rf7.mark7 k) ins) (c.getD j default):=by
 rw[Jp h,List.foldl_append,Jd,Je h];rfl
theorem marks_len(M:ImgM.Mdl)(l:List Nat)(ins:List Bool):(l.foldl (Rf7.marks7 M) ins).length=ins.length:=(Rf7.foldl_sub (Rf7.marks_sub M) l ins).1.symm
theorem mark_len(k:Nat)(c:List ImgM.Ins)(ins:List Bool):(c.foldl (Rf7.mark7 k) ins).length=ins.length:=(Rf7.foldl_sub (Rf7.mark_sub k) c ins).1.symm
theorem drop_range{k U:Nat}(h:k<U):(List.range U).drop k=k::(List.range U).drop (k+1):=by
 rw[drop_cons (l:=List.range U) (k:=k) (by simpa using h)];congr 1;rw[Jd,List.getElem?_range h];rfl
attribute [local irreducible] Run Cod End OpT Still RunQ RunS RunT Fn PutOk
set_option maxHeartbeats 1000000 in
theorem comes7_is(m:ML)(task:Nat)(ht:task<m.us.length)(hF:Formed m)(op a:Int):Fn Tryz.prog 53 #[m.val, .int .i64 (task:Int), .int .i64 op, .int .i64 a] [md m] [] (σ:=Unit) (fun _=>True) (fun _=> .bool (Rf7.comes7 m.mdl task op a)) (fun _=>[]):=by
 have hU:=hF.units;have hun:m.mdl.units.length=m.us.length:=by simp
 have hcalls:=hF.calls;have hcl:∀k,k<m.us.length→(m.us.getD k default).u.code.length≤4000:=fun k hk=>(head_ok (hF.head k hk)).2.2.2.2.2
 obtain⟨W,hW⟩:∃W,W=Rf7.comes7 m.mdl task op a:=⟨_,rfl⟩;rw[←hW];refine JE [m.val, .int .i64 (task:Int), .int .i64 op, .int .i64 a] Tryz.func53 Tryz.ntmps53 fun w S=>?_
 (refine Jn ?_)
 repeat(first|refine Jg ?_|refine Jo ?_|(refine JB ?_;intro b)|(refine JA ?_;intro ao cap))
 apply Run.op (by exact rfl);refine OpT.makeSlice_ (f:=boolc) (iα:=inferInstance) (ef:=inferInstance) (z:=false) (n:=m.us.length) (k:=?_);intro zb
 repeat(first|refine Jg ?_|refine Jo ?_|(refine JB ?_;intro b)|(refine JA ?_;intro ao cap))
 apply Run.op (by exact rfl);refine OpT.storeE_ (f:=boolc) (a':=true) (k:=?_)
 repeat(first|refine Jg ?_|refine Jo ?_|(refine JB ?_;intro b)|(refine JA ?_;intro ao cap))
 obtain⟨mb,rfl⟩:∃x,x=b:=⟨_,rfl⟩;refine Cod.only ((fun s=>[old w S,md m,blk mb [.slice m.bo m.bx.length m.bc, .slice m.uo m.us.length m.uc] 25,arr (some ⟨zb,0,none⟩) m.us.length m.us.length 4 boolc s.2]) (0,(List.replicate m.us.length false).set task true)) (tks) ?_;apply Cod.loop (σ:=Nat×List Bool) (fun s=>s.1≤m.us.length∧s.2=Rf7.in7 m.mdl task s.1) (fun s=>[(2, .int .i64 op),(3, .int .i64 a),(4,ptr mb),(9, .slice (some ⟨zb,0,none⟩) m.us.length m.us.length),(27, .int .i64 (m.us.length:Int)),(28, .int .i64 (s.1:Int))]) (fun s=>[old w S,md m,blk mb [.slice m.bo m.bx.length m.bc, .slice m.uo m.us.length m.uc] 25,arr (some ⟨zb,0,none⟩) m.us.length m.us.length 4 boolc s.2]) (fun s=>m.us.length-s.1) (0,(List.replicate m.us.length false).set task true)
 rotate_left
 exact sb;exact tks;intro s hs K1 hK1;(refine Jn ?_)
 rotate_left
 ·exact⟨Nat.zero_le _,by dsimp only;unfold Rf7.in7;rw[hun]⟩
 obtain⟨x,ins0⟩:=s;obtain⟨hx,hi0⟩:=hs;dsimp only at hx hi0 hK1⊢;have hl0:ins0.length=m.us.length:=by rw[hi0,Rf7.in_len,hun]
 by_cases hxl:x<m.us.length
 ·repeat(first|refine Jg ?_|refine Jo ?_|(refine JB ?_;intro b)|(refine JA ?_;intro ao cap))
  refine Cod.only ((fun s=>[old w S,md m,blk mb [.slice m.bo m.bx.length m.bc, .slice m.uo m.us.length m.uc] 25,arr (some ⟨zb,0,none⟩) m.us.length m.us.length 4 boolc s.2]) (0,ins0)) (tks) ?_;apply Cod.loop (σ:=Nat×List Bool) (fun s=>s.1≤m.us.length∧s.2=(List.range s.1).foldl (Rf7.marks7 m.mdl) ins0) (fun s=>[(2, .int .i64 op),(3, .int .i64 a),(4,ptr mb),(9, .slice (some ⟨zb,0,none⟩) m.us.length m.us.length),(27, .int .i64 (m.us.length:Int)),(28, .int .i64 (x:Int)),(31, .slice m.uo m.us.length m.uc),(32, .int .i64 (m.us.length:Int)),(33, .int .i64 (s.1:Int))]) (fun s=>[old w S,md m,blk mb [.slice m.bo m.bx.length m.bc, .slice m.uo m.us.length m.uc] 25,arr (some ⟨zb,0,none⟩) m.us.length m.us.length 4 boolc s.2]) (fun s=>m.us.length-s.1) (0,ins0)
  rotate_left
  exact sb;exact tks;intro s hs K2 hK2;(refine Jn ?_)
  rotate_left
  ·exact⟨Nat.zero_le _,rfl⟩
  obtain⟨k,ins1⟩:=s;obtain⟨hk,hi1⟩:=hs;dsimp only at hk hi1 hK2⊢;have hl1:ins1.length=m.us.length:=by rw[hi1,marks_len,hl0]
  by_cases hkl:k<m.us.length
  ·have hc4:=hcl k hkl
   repeat(first|refine Jg ?_|refine Jo ?_|(refine JB ?_;intro b)|(refine JA ?_;intro ao cap))
   obtain⟨ub,rfl⟩:∃x,x=b:=⟨_,rfl⟩;refine Cod.only ((fun s=>[old w S,md m,blk mb [.slice m.bo m.bx.length m.bc, .slice m.uo m.us.length m.uc] 25,blk ub (ucell (m.us.getD k default)) 115,arr (some ⟨zb,0,none⟩) m.us.length m.us.length 4 boolc s.2]) (0,ins1)) (tks) ?_;apply Cod.loop (σ:=Nat×List Bool) (fun s=>s.1≤(m.us.getD k default).u.code.length∧s.2=((m.us.getD k default).u.code.take s.1).foldl (Rf7.mark7 k) ins1) (fun s=>[(2, .int .i64 op),(3, .int .i64 a),(4,ptr mb),(9, .slice (some ⟨zb,0,none⟩) m.us.length m.us.length),(10, .int .i64 (k:Int)),(11,ptr ub),(27, .int .i64 (m.us.length:Int)),(28, .int .i64 (x:Int)),(31, .slice m.uo m.us.length m.uc),(32, .int .i64 (m.us.length:Int)),(33, .int .i64 (k:Int)),(39, .slice (m.us.getD k default).co (m.us.getD k default).u.code.length (m.us.getD k default).cc),(40, .int .i64 ((m.us.getD k default).u.code.length:Int)),(41, .int .i64 (s.1:Int))]) (fun s=>[old w S,md m,blk mb [.slice m.bo m.bx.length m.bc, .slice m.uo m.us.length m.uc] 25,blk ub (ucell (m.us.getD k default)) 115,arr (some ⟨zb,0,none⟩) m.us.length m.us.length 4 boolc s.2]) (fun s=>(m.us.getD k default).u.code.length-s.1) (0,ins1)
   rotate_left
   exact sb;exact tks;intro s hs K3 hK3;(refine Jn ?_)
   rotate_left
   ·exact⟨Nat.zero_le _,rfl⟩
   obtain⟨j,ins⟩:=s;obtain⟨hj,hi2⟩:=hs;dsimp only at hj hi2 hK3⊢;have hl2:ins.length=m.us.length:=by rw[hi2,mark_len,hl1]
   by_cases hjl:j<(m.us.getD k default).u.code.length
   ·have hft:=fold_take (k:=k) hjl ins1;rw[←hi2]at hft;have hia:=hcalls k hkl _ (show(m.us.getD k default).u.code.getD j default∈(m.mdl.units.getD k default).code by rw[ML.unit_at];exact getD_mem hjl);unfold Rf7.mark7 at hft;have hdf:ins.getD k false=ins.getD k default:=rfl;rw[hdf]at hft
    cases hb:ins.getD k default with
    |false=>
     rw[hb,if_neg (fun h=>by cases h.1)]at hft
     repeat(first|refine Jg ?_|refine Jo ?_|(refine JB ?_;intro b)|(refine JA ?_;intro ao cap))
     refine End.round0_ hK3 (j+1,ins) ?_ ?_
     ·exact⟨by dsimp only;omega,hft.symm⟩
     ·dsimp only;omega
    |true=>
     by_cases o23:((m.us.getD k default).u.code.getD j default).op=23
     ·rw[if_pos ⟨hb, .inl o23⟩]at hft;obtain⟨a1,ha1⟩:=JI (hia (.inl o23)).1;have ha2:=(hia (.inl o23)).2;rw[ha1]at ha2 hft
      repeat(first|refine Jg ?_|refine Jo ?_|(refine JB ?_;intro b)|(refine JA ?_;intro ao cap))
      rw[ha1]
      repeat(first|refine Jg ?_|refine Jo ?_|(refine JB ?_;intro b)|(refine JA ?_;intro ao cap))
      apply Run.op (by exact rfl);refine OpT.storeE_ (f:=boolc) (a':=true) (k:=?_)
      repeat(first|refine Jg ?_|refine Jo ?_|(refine JB ?_;intro b)|(refine JA ?_;intro ao cap))
      refine End.round0_ hK3 (j+1,ins.set (a1:Int).toNat true) ?_ ?_
      ·exact⟨by dsimp only;omega,hft.symm⟩
      ·dsimp only;omega
     by_cases o29:((m.us.getD k default).u.code.getD j default).op=29
     ·rw[if_pos ⟨hb, .inr o29⟩]at hft;obtain⟨a1,ha1⟩:=JI (hia (.inr o29)).1;have ha2:=(hia (.inr o29)).2;rw[ha1]at ha2 hft
      repeat(first|refine Jg ?_|refine Jo ?_|(refine JB ?_;intro b)|(refine JA ?_;intro ao cap))
      rw[ha1]
      repeat(first|refine Jg ?_|refine Jo ?_|(refine JB ?_;intro b)|(refine JA ?_;intro ao cap))
      apply Run.op (by exact rfl);refine OpT.storeE_ (f:=boolc) (a':=true) (k:=?_)
      repeat(first|refine Jg ?_|refine Jo ?_|(refine JB ?_;intro b)|(refine JA ?_;intro ao cap))
      refine End.round0_ hK3 (j+1,ins.set (a1:Int).toNat true) ?_ ?_
      ·exact⟨by dsimp only;omega,hft.symm⟩
      ·dsimp only;omega
     rw[if_neg (fun h=>h.2.elim o23 o29)]at hft
     repeat(first|refine Jg ?_|refine Jo ?_|(refine JB ?_;intro b)|(refine JA ?_;intro ao cap))
     refine End.round0_ hK3 (j+1,ins) ?_ ?_
     ·exact⟨by dsimp only;omega,hft.symm⟩
     ·dsimp only;omega
   ·rw[List.take_of_length_le (by omega)]at hi2
    repeat(first|refine Jg ?_|refine Jo ?_|(refine JB ?_;intro b)|(refine JA ?_;intro ao cap))
    refine End.round0_ hK2 (k+1,ins) ?_ ?_
    ·exact⟨by dsimp only;omega,by dsimp only;rw[fold_range,←hi1,hi2];unfold Rf7.marks7;rw[ML.unit_at]⟩
    ·dsimp only;omega
  ·obtain rfl:k=m.us.length:=by omega
   repeat(first|refine Jg ?_|refine Jo ?_|(refine JB ?_;intro b)|(refine JA ?_;intro ao cap))
   refine End.round0_ hK1 (x+1,ins1) ?_ ?_
   ·exact⟨by dsimp only;omega,by dsimp only;rw[in7_succ,hun,←hi0];exact hi1⟩
   ·dsimp only;omega
 obtain rfl:x=m.us.length:=by omega
 clear hK1;have hWd:W=((List.range m.us.length).drop 0).any fun k=>(m.mdl.units.getD k default).code.any fun i=>ins0.getD k false&&(decide (i.op=op)&&decide (i.a=a)):=by
  rw[hW,hi0];unfold Rf7.comes7;rw[hun];rfl
 repeat(first|refine Jg ?_|refine Jo ?_|(refine JB ?_;intro b)|(refine JA ?_;intro ao cap))
 refine Cod.only ((fun s=>[old w S,md m,blk mb [.slice m.bo m.bx.length m.bc, .slice m.uo m.us.length m.uc] 25,arr (some ⟨zb,0,none⟩) m.us.length m.us.length 4 boolc ins0]) 0) (tks) ?_;apply Cod.loop (σ:=Nat) (fun s=>s≤m.us.length∧W=((List.range m.us.length).drop s).any fun k=>(m.mdl.units.getD k default).code.any fun i=>ins0.getD k false&&(decide (i.op=op)&&decide (i.a=a))) (fun s=>[(2, .int .i64 op),(3, .int .i64 a),(4,ptr mb),(9, .slice (some ⟨zb,0,none⟩) m.us.length m.us.length),(67, .slice m.uo m.us.length m.uc),(68, .int .i64 (m.us.length:Int)),(69, .int .i64 (s:Int))]) (fun s=>[old w S,md m,blk mb [.slice m.bo m.bx.length m.bc, .slice m.uo m.us.length m.uc] 25,arr (some ⟨zb,0,none⟩) m.us.length m.us.length 4 boolc ins0]) (fun s=>m.us.length-s) 0
 rotate_left
 exact sb;exact tks;intro k hk K4 hK4;(refine Jn ?_)
 rotate_left
 ·exact⟨Nat.zero_le _,hWd⟩
 obtain⟨hk,hWk⟩:=hk
 by_cases hkl:k<m.us.length
 ·rw[drop_range hkl,List.any_cons,ML.unit_at]at hWk;have hc4:=hcl k hkl;obtain⟨V,hV⟩:∃V,V=((List.range m.us.length).drop (k+1)).any fun k=>(m.mdl.units.getD k default).code.any fun i=>ins0.getD k false&&(decide (i.op=op)&&decide (i.a=a)):=⟨_,rfl⟩
  rw[←hV]at hWk
  repeat(first|refine Jg ?_|refine Jo ?_|(refine JB ?_;intro b)|(refine JA ?_;intro ao cap))
  obtain⟨ub,rfl⟩:∃x,x=b:=⟨_,rfl⟩;refine Cod.only ((fun s=>[old w S,md m,blk mb [.slice m.bo m.bx.length m.bc, .slice m.uo m.us.length m.uc] 25,arr (some ⟨zb,0,none⟩) m.us.length m.us.length 4 boolc ins0]) 0) (tks) ?_;apply Cod.loop (σ:=Nat) (fun s=>s≤(m.us.getD k default).u.code.length∧W=((((m.us.getD k default).u.code.drop s).any fun i=>ins0.getD k false&&(decide (i.op=op)&&decide (i.a=a)))||V)) (fun s=>[(2, .int .i64 op),(3, .int .i64 a),(4,ptr mb),(9, .slice (some ⟨zb,0,none⟩) m.us.length m.us.length),(14, .int .i64 (k:Int)),(67, .slice m.uo m.us.length m.uc),(68, .int .i64 (m.us.length:Int)),(69, .int .i64 (k:Int)),(75, .slice (m.us.getD k default).co (m.us.getD k default).u.code.length (m.us.getD k default).cc),(76, .int .i64 ((m.us.getD k default).u.code.length:Int)),(77, .int .i64 (s:Int))]) (fun s=>[old w S,md m,blk mb [.slice m.bo m.bx.length m.bc, .slice m.uo m.us.length m.uc] 25,arr (some ⟨zb,0,none⟩) m.us.length m.us.length 4 boolc ins0]) (fun s=>(m.us.getD k default).u.code.length-s) 0
  rotate_left
  exact sb;exact tks;intro j hj K5 hK5;(refine Jn ?_)
  rotate_left
  ·exact⟨Nat.zero_le _,hWk⟩
  obtain⟨hj,hWj⟩:=hj
  by_cases hjl:j<(m.us.getD k default).u.code.length
  ·rw[drop_cons hjl,List.any_cons]at hWj;have hdf:ins0.getD k false=ins0.getD k default:=rfl;rw[hdf]at hWj
   cases hb:ins0.getD k default with
   |false=>
    rw[hb]at hWj;simp only[Bool.false_and,Bool.false_or]at hWj
    repeat(first|refine Jg ?_|refine Jo ?_|(refine JB ?_;intro b)|(refine JA ?_;intro ao cap))
    refine End.round0_ hK5 (j+1) ?_ ?_
    ·exact⟨by omega,by rw[hdf,hb];simpa using hWj⟩
    ·omega
   |true=>
    by_cases o1:((m.us.getD k default).u.code.getD j default).op=op
    ·by_cases o2:((m.us.getD k default).u.code.getD j default).a=a
     ·have hWt:W=true:=by rw[hWj,hb,decide_eq_true o1,decide_eq_true o2];rfl
      subst hWt
      repeat(first|refine Jg ?_|refine Jo ?_|(refine JB ?_;intro b)|(refine JA ?_;intro ao cap))
      (refine End.done1_ (()) (he:=Jv) (hp:=?_));trivial
     ·rw[decide_eq_false o2,Bool.and_false,Bool.and_false,Bool.false_or]at hWj
      repeat(first|refine Jg ?_|refine Jo ?_|(refine JB ?_;intro b)|(refine JA ?_;intro ao cap))
      refine End.round0_ hK5 (j+1) ?_ ?_
      ·exact⟨by omega,hWj⟩
      ·omega
    ·rw[decide_eq_false o1,Bool.false_and,Bool.and_false,Bool.false_or]at hWj
     repeat(first|refine Jg ?_|refine Jo ?_|(refine JB ?_;intro b)|(refine JA ?_;intro ao cap))
     refine End.round0_ hK5 (j+1) ?_ ?_
     ·exact⟨by omega,hWj⟩
     ·omega
  ·rw[List.drop_of_length_le (by omega),List.any_nil,Bool.false_or,hV]at hWj
   repeat(first|refine Jg ?_|refine Jo ?_|(refine JB ?_;intro b)|(refine JA ?_;intro ao cap))
   refine End.round0_ hK4 (k+1) ?_ ?_
   ·exact⟨by omega,hWj⟩
   ·omega
 ·rw[List.drop_of_length_le (by simp;omega),List.any_nil]at hWk;subst hWk
  repeat(first|refine Jg ?_|refine Jo ?_|(refine JB ?_;intro b)|(refine JA ?_;intro ao cap))
  (refine End.done1_ (()) (he:=Jv) (hp:=?_));trivial
end
attribute [local irreducible] Run Cod End OpT Still RunQ RunS RunT Fn PutOk
set_option maxHeartbeats 1000000 in
theorem verify7_is(m:ML)(hwf:m.Wf):Fn Tryz.prog 32 #[m.val] [md m] [] (σ:=Unit) (fun _=>True) (fun _=>whereV (Ver.verify m.mdl)) (fun _=>[]):=by
 obtain⟨W,hW⟩:∃W,W=Ver.verify m.mdl:=⟨_,rfl⟩;rw[←hW];have hnu:m.mdl.units.length=m.us.length:=by simp
 refine JE [m.val] Tryz.func32 Tryz.ntmps32 fun w S=>?_
 (refine Jn ?_);apply Cod.fact m.Small (fun w hm=>(md_holds.1 (hm.has tk)).small);intro hsm;have hs1:=hsm.bx;have hs2:=hsm.us
 repeat(first|refine Jg ?_|refine Jo ?_|(refine JB ?_;intro b)|(refine JA ?_;intro ao cap))
 obtain⟨wb,rfl⟩:∃x,x=b:=⟨_,rfl⟩;obtain⟨mb,rfl⟩:∃x,x=b:=⟨_,rfl⟩;refine JQ (form7_is m hwf) ?_;intro s hs;(refine Jn ?_)
 by_cases hf:(Ver.form m.mdl).err=0
 ·have hO:=Ver.form_ok.1 hf;have hF:=formed hO;have hFr:=Rf7.frm_of hO;have hB:=hF.boxes;have hU:=hF.units;have hcalls:∀k,k<m.mdl.units.length→∀i∈(m.mdl.units.getD k default).code,i.op=23∨i.op=29→0≤i.a∧i.a<(m.mdl.units.length:Int):=by rw[hnu];exact hF.calls
  repeat(first|refine Jg ?_|refine Jo ?_|(refine JB ?_;intro b)|(refine JA ?_;intro ao cap))
  refine Cod.only ((fun _=>[old w S,md m,blk wb [.int .i64 0, .int .i64 0, .int .i64 0] 87,blk mb [.slice m.bo m.bx.length m.bc, .slice m.uo m.us.length m.uc] 25]) 0) (tks) ?_;apply Cod.loop (σ:=Nat) (fun k=>k≤m.us.length∧Ver.codes m.mdl 0 m.mdl.units.length=Ver.codes m.mdl k (m.us.length-k)) (fun k=>[(1,ptr mb),(2,ptr wb),(19, .int .i64 (m.us.length:Int)),(20, .int .i64 (k:Int))]) (fun _=>[old w S,md m,blk wb [.int .i64 0, .int .i64 0, .int .i64 0] 87,blk mb [.slice m.bo m.bx.length m.bc, .slice m.uo m.us.length m.uc] 25]) (fun k=>m.us.length-k) 0
  rotate_left
  exact sb;exact tks;intro k hs K1 hK1;(refine Jn ?_)
  rotate_left
  ·exact⟨Nat.zero_le _,by simp⟩
  obtain⟨hk,hc⟩:=hs
  by_cases hkl:k<m.us.length
  ·rw[show m.us.length-k=(m.us.length-(k+1))+1 by omega]at hc
   repeat(first|refine Jg ?_|refine Jo ?_|(refine JB ?_;intro b)|(refine JA ?_;intro ao cap))
   refine JQ (code7_is m k hkl hF hwf hFr) ?_;intro s hs;(refine Jn ?_)
   by_cases he:(Ver.code m.mdl k).err=0
   ·rw[Ver.codes_2 he]at hc
    repeat(first|refine Jg ?_|refine Jo ?_|(refine JB ?_;intro b)|(refine JA ?_;intro ao cap))
    refine End.round0_ hK1 (k+1) ?_ ?_
    ·exact⟨by omega,hc⟩
    ·omega
   ·rw[Ver.codes_1 he]at hc;have hWx:W=Ver.code m.mdl k:=by
     rw[hW,Ver.verify_2 hf (by rw[hc];exact he),hc]
    repeat(first|refine Jg ?_|refine Jo ?_|(refine JB ?_;intro b)|(refine JA ?_;intro ao cap))
    (refine End.doneC1_ (()) (he:=by exact where_eq hWx) (hp:=?_));trivial
  ·have hWx:W=Ver.owned m.mdl 0 m.bx.length:=by
    rw[hW,Ver.verify_3 hf (by rw[hc,show m.us.length-k=0 by omega];rfl)]
   clear hc hK1
   repeat(first|refine Jg ?_|refine Jo ?_|(refine JB ?_;intro b)|(refine JA ?_;intro ao cap))
   refine Cod.only ((fun _=>[old w S,md m,blk wb [.int .i64 0, .int .i64 0, .int .i64 0] 87,blk mb [.slice m.bo m.bx.length m.bc, .slice m.uo m.us.length m.uc] 25]) 0) (tks) ?_;apply Cod.loop (σ:=Nat) (fun bi=>bi≤m.bx.length∧W=Ver.owned m.mdl bi (m.bx.length-bi)) (fun bi=>[(1,ptr mb),(2,ptr wb),(33, .int .i64 (m.bx.length:Int)),(34, .int .i64 (bi:Int))]) (fun _=>[old w S,md m,blk wb [.int .i64 0, .int .i64 0, .int .i64 0] 87,blk mb [.slice m.bo m.bx.length m.bc, .slice m.uo m.us.length m.uc] 25]) (fun bi=>m.bx.length-bi) 0
   rotate_left
   exact sb;exact tks;intro bi hb K2 hK2;(refine Jn ?_)
   rotate_left
   ·exact⟨Nat.zero_le _,by rw[hWx];rfl⟩
   obtain⟨hb,hWb⟩:=hb
   by_cases hbl:bi<m.bx.length
   ·rw[show m.bx.length-bi=(m.bx.length-(bi+1))+1 by omega]at hWb
    repeat(first|refine Jg ?_|refine Jo ?_|(refine JB ?_;intro b)|(refine JA ?_;intro ao cap))
    refine Cod.only ((fun _=>[old w S,md m,blk wb [.int .i64 0, .int .i64 0, .int .i64 0] 87,blk mb [.slice m.bo m.bx.length m.bc, .slice m.uo m.us.length m.uc] 25]) 0) (tks) ?_;apply Cod.loop (σ:=Nat) (fun k=>k≤m.us.length) (fun k=>[(1,ptr mb),(2,ptr wb),(6, .int .i64 (bi:Int)),(7, .int .i64 ((Ver.usersTo m.mdl 26 bi k:Nat):Int)),(8, .int .i64 ((Ver.usersTo m.mdl 27 bi k:Nat):Int)),(33, .int .i64 (m.bx.length:Int)),(34, .int .i64 (bi:Int)),(38, .slice m.uo m.us.length m.uc),(39, .int .i64 (m.us.length:Int)),(40, .int .i64 (k:Int))]) (fun _=>[old w S,md m,blk wb [.int .i64 0, .int .i64 0, .int .i64 0] 87,blk mb [.slice m.bo m.bx.length m.bc, .slice m.uo m.us.length m.uc] 25]) (fun k=>m.us.length-k) 0
    rotate_left
    exact sb;exact tks;intro k2 hk2 K3 hK3;(refine Jn ?_)
    rotate_left
    ·exact Nat.zero_le _
    by_cases hkl2:k2<m.us.length
    ·have e26:=Ver.usersTo_succ m.mdl 26 bi k2;have e27:=Ver.usersTo_succ m.mdl 27 bi k2;have l26:=Ver.usersTo_le m.mdl 26 bi k2;have l27:=Ver.usersTo_le m.mdl 27 bi k2;rw[ML.unit_at]at e26 e27;have c26:=Rf7.comes_uses hcalls (task:=k2) (by omega) 26 bi;have c27:=Rf7.comes_uses hcalls (task:=k2) (by omega) 27 bi;rw[←c26]at e26;rw[←c27]at e27;clear c26 c27
     by_cases k4:(m.us.getD k2 default).u.kind=4
     ·rw[decide_eq_true k4,Bool.true_and]at e26 e27
      repeat(first|refine Jg ?_|refine Jo ?_|(refine JB ?_;intro b)|(refine JA ?_;intro ao cap))
      refine JQ (comes7_is m k2 hkl2 hF 26 bi) ?_;intro s hs;(refine Jn ?_)
      cases u26:Rf7.comes7 m.mdl k2 26 bi with
      |true=>
       rw[u26,if_pos rfl]at e26
       repeat(first|refine Jg ?_|refine Jo ?_|(refine JB ?_;intro b)|(refine JA ?_;intro ao cap))
       refine JQ (comes7_is m k2 hkl2 hF 27 bi) ?_;intro s hs;(refine Jn ?_)
       cases u27:Rf7.comes7 m.mdl k2 27 bi with
       |true=>
        rw[u27,if_pos rfl]at e27
        repeat(first|refine Jg ?_|refine Jo ?_|(refine JB ?_;intro b)|(refine JA ?_;intro ao cap))
        refine End.round0_ hK3 (k2+1) ?_ ?_
        ·omega
        ·omega
       |false=>
        rw[u27,if_neg (by decide)]at e27
        repeat(first|refine Jg ?_|refine Jo ?_|(refine JB ?_;intro b)|(refine JA ?_;intro ao cap))
        refine End.round0_ hK3 (k2+1) ?_ ?_
        ·omega
        ·omega
      |false=>
       rw[u26,if_neg (by decide)]at e26
       repeat(first|refine Jg ?_|refine Jo ?_|(refine JB ?_;intro b)|(refine JA ?_;intro ao cap))
       refine JQ (comes7_is m k2 hkl2 hF 27 bi) ?_;intro s hs;(refine Jn ?_)
       cases u27:Rf7.comes7 m.mdl k2 27 bi with
       |true=>
        rw[u27,if_pos rfl]at e27
        repeat(first|refine Jg ?_|refine Jo ?_|(refine JB ?_;intro b)|(refine JA ?_;intro ao cap))
        refine End.round0_ hK3 (k2+1) ?_ ?_
        ·omega
        ·omega
       |false=>
        rw[u27,if_neg (by decide)]at e27
        repeat(first|refine Jg ?_|refine Jo ?_|(refine JB ?_;intro b)|(refine JA ?_;intro ao cap))
        refine End.round0_ hK3 (k2+1) ?_ ?_
        ·omega
        ·omega
     ·rw[decide_eq_false k4,Bool.false_and,if_neg (by decide)]at e26 e27
      repeat(first|refine Jg ?_|refine Jo ?_|(refine JB ?_;intro b)|(refine JA ?_;intro ao cap))
      refine End.round0_ hK3 (k2+1) ?_ ?_
      ·omega
      ·omega
    ·obtain rfl:k2=m.us.length:=by omega
     have u26:Ver.users m.mdl 26 bi=Ver.usersTo m.mdl 26 bi m.us.length:=by rw[←hnu];rfl
     have u27:Ver.users m.mdl 27 bi=Ver.usersTo m.mdl 27 bi m.us.length:=by rw[←hnu];rfl
     clear hK3
     by_cases g26:1<Ver.usersTo m.mdl 26 bi m.us.length
     ·rw[Ver.owned_1 (by rw[u26];exact .inl g26)]at hWb
      repeat(first|refine Jg ?_|refine Jo ?_|(refine JB ?_;intro b)|(refine JA ?_;intro ao cap))
      (refine End.doneC1_ (()) (he:=by exact where_eq hWb) (hp:=?_));trivial
     by_cases g27:1<Ver.usersTo m.mdl 27 bi m.us.length
     ·rw[Ver.owned_1 (by rw[u27];exact .inr g27)]at hWb
      repeat(first|refine Jg ?_|refine Jo ?_|(refine JB ?_;intro b)|(refine JA ?_;intro ao cap))
      (refine End.doneC1_ (()) (he:=by exact where_eq hWb) (hp:=?_));trivial
     rw[Ver.owned_2 (by rw[u26,u27];exact fun h=>h.elim g26 g27)]at hWb
     repeat(first|refine Jg ?_|refine Jo ?_|(refine JB ?_;intro b)|(refine JA ?_;intro ao cap))
     refine End.round0_ hK2 (bi+1) ?_ ?_
     ·exact⟨by omega,hWb⟩
     ·omega
   ·rw[show m.bx.length-bi=0 by omega]at hWb
    repeat(first|refine Jg ?_|refine Jo ?_|(refine JB ?_;intro b)|(refine JA ?_;intro ao cap))
    (refine End.doneC1_ (()) (he:=by exact where_eq hWb) (hp:=?_));trivial
 ·have hWx:W=Ver.form m.mdl:=by rw[hW,Ver.verify_1 hf]
  repeat(first|refine Jg ?_|refine Jo ?_|(refine JB ?_;intro b)|(refine JA ?_;intro ao cap))
  (refine End.doneC1_ (()) (he:=by exact where_eq hWx) (hp:=?_));trivial
end Go.Proofs.YtjehflelkpacfaaGreat.Vw
namespace Go.Proofs.YtjehflelkpacfaaGreat
section
variable{P:Program} [Tabbed P]{N:Nat}{E:Env}{L L' F:List Chunk}{σ:Type}{fn:Func}{post:σ→Prop}{val:σ→Value}{mem:σ→List Chunk}{w0:World}{S:Nat→Prop}
theorem Still.fieldI{x:Operand}{d:Option Tmp}{T ft ty:TypeId}{pos:String}{aft:Array Edge}{g:Option (Nat×Bool)}{fs:List (Nat×TypeId)}{s' b' f off s2 b2:Nat}{z' z2:List Value}{k:IntKind}{cs:Array Value}{v:Value}(hx:ev E x=Option.some (.agg cs))(ht:tyOf P T=Option.some ⟨.struct fs,s',b',z'⟩)
  (hf:fs[f]?=Option.some (off,ft)) (hj:tyOf P ft=Option.some ⟨.int k,s2,b2,z2⟩) (hv:cs[off]?=Option.some v):Still P N ⟨d, .field T x f,ty,pos,aft,g⟩ E L v:=fun A w hs _=>by
 obtain⟨l,h1,h2⟩:=(tyOk ht).struct;rw[←h2,JU]at hf;have h3:=(tyOk hj).int
 cases hlf:l[f]? with
 |none=>rw[Array.getElem?_toList,hlf]at hf;cases hf
 |some fl=>
  rw[Array.getElem?_toList,hlf]at hf;simp only[Option.map_some,Option.some.injEq,Prod.mk.injEq]at hf;obtain⟨rfl,rfl⟩:=hf;simp[execOp,hs.ev hx,Instr.field,run_underlying h1,hlf,part,isAgg,run_underlying h3,asAgg,hv]
theorem End.doneC3{t u v:Tmp}{ty bt:TypeId}{b s' b':Nat}{fs:List (Nat×TypeId)}{z' cs:List Value}{y z:Value}(x:σ)(hr:fn.results= #[.cell t ty, .tmp u, .tmp v])(hv:look E t=Option.some (.pointer (Option.some ⟨b,0,none⟩)))(ht:tyOf P ty=Option.some ⟨.struct fs,s',b',z'⟩)
  (hm:Take (blk b cs bt) L L') (hl:cs.length=s') (hu:look E u=Option.some y) (hw:look E v=Option.some z) (he:val x= .tuple #[.agg cs.toArray,y,z]) (hp:post x) (hx:∀c∈mem x,c.excl=true) (hF:Takes (old w0 S::mem x) L F):End (bodyPost P fn (Owes post val mem w0 S)) N .ret E L:=fun a w hs hM=>by
 have hb:=blk_holds.1 (hM.has hm);have h1:=hs.slot t _ hv;have h2:=hs.slot u _ hu;have h3:=hs.slot v _ hw;refine bodyPost_ret (v:= .tuple #[.agg cs.toArray,y,z]) ?_ hs.defs ⟨x,hp,by rw[he],hx,(hM.takes hF).left⟩;simp[results,hr,h1,h2,h3,asAddr,run_cell ht hb hl]
end
end Go.Proofs.YtjehflelkpacfaaGreat
namespace Go.Proofs.YtjehflelkpacfaaGreat.Vw
open Go.RowKit Go.Proofs.YtjehflelkpacfaaGreat.Img
attribute [local irreducible] Run Cod End OpT Still RunQ RunS RunT Fn PutOk
def pkC(p:Int×Int):List Value:=[.int .i64 p.1, .int .i64 p.2]
instance:Enc pkC:=⟨fun _=>rfl,by decide,fun a u hu=>by simp[pkC]at hu;rcases hu with rfl|rfl<;>rfl⟩
def ddC(d:Int×Nat):List Value:=[.int .i64 d.1, .int .i64 (d.2:Int)]
instance:Enc ddC:=⟨fun _=>rfl,by decide,fun a u hu=>by simp[ddC]at hu;rcases hu with rfl|rfl<;>rfl⟩
attribute [local irreducible] Ver.verify
theorem wrong_is(m:ML)(hwf:m.Wf)(n:Nat):Fn Tryz.prog 13 #[m.val, .int .i64 (n:Int)] [md m] [] (σ:=Unit) (fun _=>True) (fun _=> .int .i64 (Vm.wrong m.mdl n)) (fun _=>[]):=by
 refine Fn.enter (args:=[m.val, .int .i64 (n:Int)]) Tryz.func13 rfl _ Tryz.ntmps13 rfl (by simp[md_excl]) (fun w S=>?_);(refine Jn ?_)
 repeat(refine Jy ?_;try first|intro ao cap|intro b)
 (refine JQ (verify_is m hwf) ?_;intro s hs;(refine Jn ?_));obtain⟨V,hV⟩:∃V,V=Ver.verify m.mdl:=⟨_,rfl⟩;have hW:Vm.wrong m.mdl n=if V.err≠0 then V.err else if 400<n then 5 else 0:=by unfold Vm.wrong;rw[←hV]
 rw[hW,←hV]
 by_cases h1:V.err=0
 ·rw[if_neg (fun h=>h h1)]
  by_cases h2:400<n
  ·rw[if_pos h2]
   repeat(refine Jy ?_;try first|intro ao cap|intro b)
   (refine End.done1_ (()) (he:=Jv) (hp:=?_));trivial
  ·rw[if_neg h2]
   repeat(refine Jy ?_;try first|intro ao cap|intro b)
   (refine End.done1_ (()) (he:=Jv) (hp:=?_));trivial
 ·rw[if_pos h1]
  repeat(refine Jy ?_;try first|intro ao cap|intro b)
  (refine End.done1_ (()) (he:=Jv) (hp:=?_));trivial
end Go.Proofs.YtjehflelkpacfaaGreat.Vw
