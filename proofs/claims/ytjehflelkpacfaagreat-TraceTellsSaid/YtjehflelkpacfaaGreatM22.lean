/- Kahn's theorem for tasks that speak through boxes, each of which has one sender and one receiver. Plain Lean. -/
import Derived.Test.YtjehflelkpacfaaGreatM21
set_option linter.unusedVariables false
set_option linter.unusedSimpArgs false
set_option linter.unusedSectionVars false
set_option maxRecDepth 100000
namespace Go.Proofs.YtjehflelkpacfaaGreat.Vm
open ImgM Ver Opt
def nrm(t:Tk):Tk:=if t.st≤3 then{t with st:=1,bx:=0}else t
def snd(b:Nat)(l:List Ev):List Int:=l.filterMap fun e=>if e.1=2∧e.2.1=(b:Int)then some e.2.2 else none
def rcv(b:Nat)(l:List Ev):List Int:=l.filterMap fun e=>if e.1=3∧e.2.1=(b:Int)then some e.2.2 else none
theorem snd_app(b:Nat)(l r:List Ev):snd b (l ++r)=snd b l ++snd b r:=List.filterMap_append ..
theorem rcv_app(b:Nat)(l r:List Ev):rcv b (l ++r)=rcv b l ++rcv b r:=List.filterMap_append ..
def wplay(ws:List (List Int))(e:Ev):List (List Int):=if e.1=2 then ws.set e.2.1.toNat (ws.getD e.2.1.toNat [] ++[e.2.2])else if e.1=3 then ws.set e.2.1.toNat (ws.getD e.2.1.toNat []).tail else ws
section
variable(M:Mdl)
def loc1(x:Int)(t:Tk):Tk×List Ev:=(nrm (lstep M x t).1,(lstep M x t).2)
def ltk(t:Tk)(xs:List Int):Tk:=xs.foldl (fun t x=>(loc1 M x t).1) t
def lev:Tk→List Int→List Ev
 |_,[]=>[]
 |t,x::xs=>(loc1 M x t).2 ++lev (loc1 M x t).1 xs
theorem ltk_app(t:Tk)(xs ys:List Int):ltk M t (xs ++ys)=ltk M (ltk M t xs) ys:=List.foldl_append ..
theorem lev_app:∀(t:Tk) (xs ys:List Int),lev M t (xs ++ys)=lev M t xs ++lev M (ltk M t xs) ys
 |t,[],ys=>rfl
 |t,x::xs,ys=>by
  show(loc1 M x t).2 ++lev M (loc1 M x t).1 (xs ++ys)=(loc1 M x t).2 ++lev M (loc1 M x t).1 xs ++lev M (ltk M (loc1 M x t).1 xs) ys;rw[lev_app,Jt]
theorem ltk_snoc(t:Tk)(xs:List Int)(x:Int):ltk M t (xs ++[x])=(loc1 M x (ltk M t xs)).1:=by rw[ltk_app];rfl
theorem lev_snoc(t:Tk)(xs:List Int)(x:Int):lev M t (xs ++[x])=lev M t xs ++(loc1 M x (ltk M t xs)).2:=by
 rw[lev_app];show _ ++((loc1 M x _).2 ++[])=_;rw[List.append_nil]
abbrev bxOf(t:Tk):Nat:=(insT M t).a.toNat
structure Can(cap:Nat→Nat)(t:Tk)(ws:List (List Int)):Prop where
 st:t.st=1
 send:(insT M t).op=26→(ws.getD (bxOf M t) []).length≠cap (bxOf M t)
 recv:(insT M t).op=27→(ws.getD (bxOf M t) []).length≠0
def xin(t:Tk)(ws:List (List Int)):Int:=if(insT M t).op=27 then(ws.getD (bxOf M t) []).headD 0 else 0
inductive Runs(cap:Nat→Nat)(T:List Tk):Nat→(Nat→List Int)→List (List Int)→Prop
 |nil:Runs cap T 0 (fun _=>[]) (List.replicate M.boxes.length [])
 |step {n k:Nat} {xs:Nat→List Int} {ws:List (List Int)} (h:Runs cap T n xs ws) (hk:k<T.length) (hc:Can M cap (ltk M (T.getD k default) (xs k)) ws):
   Runs cap T (n+1) (fun j=>if j=k then xs k ++[xin M (ltk M (T.getD k default) (xs k)) ws]else xs j) ((loc1 M (xin M (ltk M (T.getD k default) (xs k)) ws) (ltk M (T.getD k default) (xs k))).2.foldl wplay ws)
end
theorem snd_trap(b:Nat)(n:Int):snd b [(5,0,n)]=[]:=by simp[snd]
theorem rcv_trap(b:Nat)(n:Int):rcv b [(5,0,n)]=[]:=by simp[rcv]
theorem play_trap(ws:List (List Int))(n:Int):[((5:Int),(0:Int),n)].foldl wplay ws=ws:=by simp[wplay]
structure BoxDo(i:Ins)(x:Int)(l:List Ev):Prop where
 ex:(i.op=26∧∃v,(∀b,snd b l=if i.a=(b:Int)then [v]else [])∧(∀b,rcv b l=[])∧∀ws,l.foldl wplay ws=ws.set i.a.toNat (ws.getD i.a.toNat [] ++[v]))∨
  (i.op=27∧(∀b,snd b l=[])∧(∀b,rcv b l=if i.a=(b:Int)then [x]else [])∧∀ws,l.foldl wplay ws=ws.set i.a.toNat (ws.getD i.a.toNat []).tail)∨
  (i.op≠26∧i.op≠27∧(∀b,snd b l=[])∧(∀b,rcv b l=[])∧∀ws,l.foldl wplay ws=ws)
theorem Did.box{i:Ins}{x:Int}{t:Tk}{r:Tk×List Ev}(h:Did i x t r):BoxDo i x r.2:=by
 refine⟨?_⟩;rcases h.ex with⟨t1,l1,h1,h2,h3,h4,h5⟩|⟨ho,h1, -⟩
 ·have key:∀l,(l=l1∨∃n,l=l1 ++[(5,0,n)])→(∀b,snd b l=snd b l1)∧(∀b,rcv b l=rcv b l1)∧∀ws,l.foldl wplay ws=l1.foldl wplay ws:=by
   rintro l (rfl|⟨n,rfl⟩)
   ·exact⟨fun b=>rfl,fun b=>rfl,fun ws=>rfl⟩
   ·exact⟨fun b=>by rw[snd_app,snd_trap,List.append_nil],fun b=>by rw[rcv_app,rcv_trap,List.append_nil],fun ws=>by rw[List.foldl_append,play_trap]⟩
  obtain⟨k1,k2,k3⟩:=key r.2 (by
   rcases h1 with⟨e, -⟩|⟨e, -⟩
   ·exact .inl e
   ·exact .inr ⟨_,e⟩)
  rcases h5 with⟨rfl,ha,hb⟩|⟨ho,rfl⟩|⟨ho,rfl⟩|⟨ho,rfl⟩|⟨ho,rfl⟩
  ·exact .inr (.inr ⟨ha,hb,fun b=>k1 b,fun b=>k2 b,fun ws=>k3 ws⟩)
  ·refine .inl ⟨ho,last t,fun b=>?_,fun b=>?_,fun ws=>?_⟩
   ·rw[k1];by_cases h:i.a=(b:Int)<;>simp[snd,h]
   ·rw[k2];simp[rcv]
   ·rw[k3];simp[wplay]
  ·refine .inr (.inl ⟨ho,fun b=>?_,fun b=>?_,fun ws=>?_⟩)
   ·rw[k1];simp[snd]
   ·rw[k2];by_cases h:i.a=(b:Int)<;>simp[rcv,h]
   ·rw[k3];simp[wplay]
  ·refine .inr (.inr ⟨by omega,by omega,fun b=>?_,fun b=>?_,fun ws=>?_⟩)
   ·rw[k1];simp[snd]
   ·rw[k2];simp[rcv]
   ·rw[k3];simp[wplay]
  ·refine .inr (.inr ⟨by omega,by omega,fun b=>?_,fun b=>?_,fun ws=>?_⟩)
   ·rw[k1];simp[snd]
   ·rw[k2];simp[rcv]
   ·rw[k3];simp[wplay]
 ·refine .inr (.inr ⟨by omega,by omega,fun b=>?_,fun b=>?_,fun ws=>?_⟩)
  ·rw[h1];simp[snd]
  ·rw[h1];simp[rcv]
  ·rw[h1];simp[wplay]
theorem loc1_box{M:Mdl}{x:Int}{t:Tk}(h:t.st=1):BoxDo (insT M t) x (loc1 M x t).2:=(lstep_did M (x:=x) (t:=t) (by omega)).box
theorem mid_eq{α:Type}{p q q':List α}{x y:α}(h:p ++x::q<+:p ++y::q'∨p ++y::q'<+:p ++x::q):x=y:=by
 rcases h with⟨r,h⟩|⟨r,h⟩
 ·rw[Jt]at h;have:=List.append_cancel_left h;simp at this;exact this.1
 ·rw[Jt]at h;have:=List.append_cancel_left h;simp at this;exact this.1.symm
theorem pre_snd{b:Nat}{l r:List Ev}(h:l<+:r):snd b l<+:snd b r:=by
 obtain⟨x,rfl⟩:=h;rw[snd_app];exact List.prefix_append _ _
theorem pre_rcv{b:Nat}{l r:List Ev}(h:l<+:r):rcv b l<+:rcv b r:=by
 obtain⟨x,rfl⟩:=h;rw[rcv_app];exact List.prefix_append _ _
theorem pre_lev{M:Mdl}{t:Tk}{xs ys:List Int}(h:xs<+:ys):lev M t xs<+:lev M t ys:=by
 obtain⟨x,rfl⟩:=h;rw[lev_app];exact List.prefix_append _ _
structure Owns(M:Mdl)(T:List Tk)(s r:Nat→Nat):Prop where
 snd:∀{cap:Nat→Nat} {n:Nat} {xs:Nat→List Int} {ws:List (List Int)},Runs M cap T n xs ws→∀k,k<T.length→∀b,k≠s b→snd b (lev M (T.getD k default) (xs k))=[]
 rcv:∀{cap:Nat→Nat} {n:Nat} {xs:Nat→List Int} {ws:List (List Int)},Runs M cap T n xs ws→∀k,k<T.length→∀b,k≠r b→rcv b (lev M (T.getD k default) (xs k))=[]
 rng:∀{cap:Nat→Nat} {n:Nat} {xs:Nat→List Int} {ws:List (List Int)},Runs M cap T n xs ws→∀k,k<T.length→(ltk M (T.getD k default) (xs k)).st=1→((insT M (ltk M (T.getD k default) (xs k))).op=26∨(insT M (ltk M (T.getD k default) (xs k))).op=27)→0≤(insT M (ltk M (T.getD k default) (xs k))).a∧bxOf M (ltk M (T.getD k default) (xs k))<M.boxes.length
section
variable{M:Mdl}{T:List Tk}{s r:Nat→Nat}{cap:Nat→Nat}{n:Nat}{xs:Nat→List Int}{ws:List (List Int)}
theorem upd_same(xs:Nat→List Int)(k:Nat)(l:List Int):(fun j=>if j=k then l else xs j) k=l:=by simp
theorem upd_ne(xs:Nat→List Int){k j:Nat}(l:List Int)(h:j≠k):(fun j=>if j=k then l else xs j) j=xs j:=by simp[h]
theorem Runs.sum(h:Runs M cap T n xs ws):n=((List.range T.length).map fun k=>(xs k).length).sum:=by
 induction h with
 |nil=>
  have:∀l:List Nat,(l.map fun _=>([]:List Int).length).sum=0:=fun l=>by induction l<;>simp_all
  exact(this _).symm
 | @step n k xs ws h hk hc ih=>
  have key:∀(m:Nat) (l:List Int),l.length=(xs k).length+1→((List.range m).map fun j=>((fun j=>if j=k then l else xs j) j).length).sum=((List.range m).map fun j=>(xs j).length).sum+if k<m then 1 else 0:=fun m l hl=>by
   induction m with
   |zero=>simp
   |succ m ih=>
    rw[List.range_succ,Jq,Jq,List.sum_append,List.sum_append,ih];simp only[List.map_cons,List.map_nil,List.sum_cons,List.sum_nil]
    by_cases hm:m=k
    ·subst hm;rw[if_pos rfl,hl,if_neg (by omega),if_pos (by omega)];omega
    ·rw[if_neg hm]
     by_cases hkm:k<m
     ·rw[if_pos hkm,if_pos (by omega)];omega
     ·rw[if_neg hkm,if_neg (by omega)];omega
  rw[key _ _ (by simp),if_pos hk,←ih]
theorem Runs.wlen(h:Runs M cap T n xs ws):ws.length=M.boxes.length:=by
 induction h with
 |nil=>simp
 | @step n k xs ws h hk hc ih=>
  have hb:=(loc1_box (M:=M) (x:=xin M (ltk M (T.getD k default) (xs k)) ws) hc.st).ex;rcases hb with⟨-,v, -, -,h3⟩|⟨-, -, -,h3⟩|⟨-, -, -, -,h3⟩
  ·rw[h3,Ji];exact ih
  ·rw[h3,Ji];exact ih
  ·rw[h3];exact ih
theorem Runs.fifo(ho:Owns M T s r)(h:Runs M cap T n xs ws):∀b,b<M.boxes.length→snd b (lev M (T.getD (s b) default) (xs (s b)))=rcv b (lev M (T.getD (r b) default) (xs (r b))) ++ws.getD b []:=by
 induction h with
 |nil=>
  intro b hb;show snd b (lev M _ [])=rcv b (lev M _ []) ++(List.replicate M.boxes.length []).getD b [];rw[getD_rep];rfl
 | @step n k xs ws h hk hc ih=>
  intro b hb;have hwl:=h.wlen;have hr':=Runs.step h hk hc;generalize ht:ltk M (T.getD k default) (xs k)=t at *;generalize hx:xin M t ws=x at *;have hbd:=(loc1_box (M:=M) (x:=x) hc.st).ex;have hlev:lev M (T.getD k default) (xs k ++[x])=lev M (T.getD k default) (xs k) ++(loc1 M x t).2:=by rw[lev_snoc,ht]
  have hS:∀(A:List Int),snd b (loc1 M x t).2=A→(A≠[]→k=s b)→snd b (lev M (T.getD (s b) default) ((fun j=>if j=k then xs k ++[x]else xs j) (s b)))=snd b (lev M (T.getD (s b) default) (xs (s b))) ++A:=fun A hA hne=>by
   by_cases he:s b=k
   ·rw[he,upd_same,hlev,snd_app,hA]
   ·rw[upd_ne _ _ he]
    by_cases hA0:A=[]
    ·rw[hA0,List.append_nil]
    ·exact absurd (hne hA0).symm he
  have hR:∀(A:List Int),rcv b (loc1 M x t).2=A→(A≠[]→k=r b)→rcv b (lev M (T.getD (r b) default) ((fun j=>if j=k then xs k ++[x]else xs j) (r b)))=rcv b (lev M (T.getD (r b) default) (xs (r b))) ++A:=fun A hA hne=>by
   by_cases he:r b=k
   ·rw[he,upd_same,hlev,rcv_app,hA]
   ·rw[upd_ne _ _ he]
    by_cases hA0:A=[]
    ·rw[hA0,List.append_nil]
    ·exact absurd (hne hA0).symm he
  have hs1:snd b (loc1 M x t).2≠[]→k=s b:=fun hne=>Classical.byContradiction fun hk'=>by
   have:=ho.snd hr' k hk b hk';rw[if_pos rfl,hlev,snd_app]at this;exact hne (List.append_eq_nil_iff.1 this).2
  have hr1:rcv b (loc1 M x t).2≠[]→k=r b:=fun hne=>Classical.byContradiction fun hk'=>by
   have:=ho.rcv hr' k hk b hk';rw[if_pos rfl,hlev,rcv_app]at this;exact hne (List.append_eq_nil_iff.1 this).2
  have hrng:=ho.rng h k hk;rw[ht]at hrng;have hrng:=hrng hc.st;rw[hS _ rfl hs1,hR _ rfl hr1,ih b hb];rcases hbd with⟨o,v,h1,h2,h3⟩|⟨o,h1,h2,h3⟩|⟨o,o',h1,h2,h3⟩
  ·obtain⟨a1,a2⟩:=hrng (.inl o);have a2:(insT M t).a.toNat<M.boxes.length:=a2;rw[h1,h2,h3,getD_setL (by omega)]
   by_cases hab:(insT M t).a=(b:Int)
   ·have:(insT M t).a.toNat=b:=by omega
    rw[if_pos hab,if_pos this,this];simp
   ·have:¬(insT M t).a.toNat=b:=by omega
    rw[if_neg hab,if_neg this];simp
  ·obtain⟨a1,a2⟩:=hrng (.inr o);have a2:(insT M t).a.toNat<M.boxes.length:=a2;rw[h1,h2,h3,getD_setL (by omega)]
   by_cases hab:(insT M t).a=(b:Int)
   ·have hb':(insT M t).a.toNat=b:=by omega
    rw[if_pos hab,if_pos hb',hb'];have hne:=hc.recv o;have hxe:x=(ws.getD b []).headD 0:=by
     rw[←hx];unfold xin;rw[if_pos o];show(ws.getD (insT M t).a.toNat []).headD 0=_;rw[hb']
    have hne':(ws.getD b []).length≠0:=by
     have:(ws.getD (insT M t).a.toNat []).length≠0:=hne;rwa [hb']at this
    cases hw:ws.getD b []with
    |nil=>rw[hw]at hne';exact absurd rfl hne'
    |cons y q=>
     rw[hw]at hxe;rw[hxe];simp
   ·have:¬(insT M t).a.toNat=b:=by omega
    rw[if_neg hab,if_neg this];simp
  ·rw[h1,h2,h3];simp
theorem Runs.fit(ho:Owns M T s r)(h:Runs M cap T n xs ws):∀b,b<M.boxes.length→(ws.getD b []).length≤cap b:=by
 induction h with
 |nil=>intro b hb;rw[getD_rep];exact Nat.zero_le _
 | @step n k xs ws h hk hc ih=>
  intro b hb;have hwl:=h.wlen;have hrng:=ho.rng h k hk hc.st;have hbd:=(loc1_box (M:=M) (x:=xin M (ltk M (T.getD k default) (xs k)) ws) hc.st).ex;have hib:=ih b hb;rcases hbd with⟨o,v,h1,h2,h3⟩|⟨o,h1,h2,h3⟩|⟨o,o',h1,h2,h3⟩
  ·obtain⟨a1,a2⟩:=hrng (.inl o);have a2:(insT M (ltk M (T.getD k default) (xs k))).a.toNat<M.boxes.length:=a2;have hs:=hc.send o;rw[h3,getD_setL (by omega)]
   split
   ·rename_i e
    have hs':(ws.getD (insT M (ltk M (T.getD k default) (xs k))).a.toNat []).length≠cap (insT M (ltk M (T.getD k default) (xs k))).a.toNat:=hs;rw[e]at hs'⊢;simp only[Jl,List.length_singleton];omega
   ·exact hib
  ·obtain⟨a1,a2⟩:=hrng (.inr o);have a2:(insT M (ltk M (T.getD k default) (xs k))).a.toNat<M.boxes.length:=a2;rw[h3,getD_setL (by omega)]
   split
   ·rename_i e
    rw[e,List.length_tail];omega
   ·exact hib
  ·rw[h3];exact hib
theorem Runs.zero(h:Runs M cap T n xs ws):∀k (p q:List Int) (x:Int),xs k=p ++x::q→(insT M (ltk M (T.getD k default) p)).op≠27→x=0:=by
 induction h with
 |nil=>intro k p q x hx;simp at hx
 | @step n j xs ws h hk hc ih=>
  intro k p q x hx ho
  by_cases hkj:k=j
  ·subst hkj;rw[upd_same]at hx;rcases List.eq_nil_or_concat q with rfl|⟨q',y,rfl⟩
   ·obtain⟨rfl,e⟩:=List.append_inj' hx rfl;simp only[List.cons.injEq,and_true]at e;rw[←e];unfold xin;rw[if_neg ho]
   ·rw[show p ++x::q'.concat y=(p ++x::q') ++[y] by simp]at hx;obtain⟨e, -⟩:=List.append_inj' hx rfl;exact ih k p q' x e ho
  ·rw[upd_ne _ _ hkj]at hx;exact ih k p q x hx ho
variable{cap2:Nat→Nat}{m:Nat}{ys:Nat→List Int}{us:List (List Int)}
theorem kahn(ho:Owns M T s r)(hx:Runs M cap T n xs ws)(hy:Runs M cap2 T m ys us):∀k,xs k<+:ys k∨ys k<+:xs k:=by
 induction hx with
 |nil=>intro k;exact .inl (List.nil_prefix)
 | @step n j xs ws h hk hc ih=>
  intro k
  by_cases hkj:k=j
  ·subst hkj;dsimp only;rw[if_pos rfl];rcases ih k with hp|hp
   ·obtain⟨rest,hrest⟩:=hp
    cases rest with
    |nil=>right;rw[←hrest,List.append_nil];exact List.prefix_append _ _
    |cons y rest=>
     left
     have hxy:xin M (ltk M (T.getD k default) (xs k)) ws=y:=by
      by_cases o:(insT M (ltk M (T.getD k default) (xs k))).op=27
      ·obtain⟨a1,a2⟩:=ho.rng h k hk hc.st (.inr o);generalize ht:ltk M (T.getD k default) (xs k)=t at *;have hab:(insT M t).a=((bxOf M t:Nat):Int):=by simp only[bxOf];omega
       have hbx:∀x,rcv (bxOf M t) (loc1 M x t).2=[x]:=fun x=>by
        rcases(loc1_box (M:=M) (x:=x) hc.st).ex with⟨o', -⟩|⟨-, -,h2, -⟩|⟨-,o', -⟩
        ·omega
        ·rw[h2,if_pos hab]
        ·omega
       have hks:k=r (bxOf M t):=Classical.byContradiction fun hne=>by
        have:=ho.rcv hy k hk (bxOf M t) hne;rw[←hrest,show xs k ++y::rest=(xs k ++[y]) ++rest by simp,lev_app,lev_snoc,rcv_app,rcv_app,ht,hbx]at this;simp at this
       have f1:=h.fifo ho (bxOf M t) a2;have f2:=hy.fifo ho (bxOf M t) a2;rw[←hks]at f1 f2;rw[←hrest,show xs k ++y::rest=(xs k ++[y]) ++rest by simp,lev_app,lev_snoc,rcv_app,rcv_app,ht,hbx]at f2;have hne:=hc.recv o;have hxe:xin M t ws=(ws.getD (bxOf M t) []).headD 0:=by unfold xin;rw[if_pos o]
       cases hw:ws.getD (bxOf M t) []with
       |nil=>rw[hw]at hne;exact absurd rfl hne
       |cons z q=>
        rw[hw]at f1 hxe;rw[hxe];show z=y;rw[Jt,Jt,List.cons_append,Jk]at f2;refine mid_eq ?_ (p:=rcv (bxOf M t) (lev M (T.getD k default) (xs k))) (q:=q) (q':=rcv (bxOf M t) (lev M (ltk M (T.getD k default) (xs k ++[y])) rest) ++us.getD (bxOf M t) []);rw[←f1,←f2];rcases ih (s (bxOf M t))with hp|hp
        ·exact .inl (pre_snd (pre_lev hp))
        ·exact .inr (pre_snd (pre_lev hp))
      ·have:y=0:=hy.zero k (xs k) rest y hrest.symm o;rw[this];unfold xin;rw[if_neg o]
     rw[hxy];exact⟨rest,by rw[←hrest];simp⟩
   ·exact .inr (hp.trans (List.prefix_append _ _))
  ·dsimp only;rw[if_neg hkj];exact ih k
def Rest(M:Mdl)(cap:Nat→Nat)(T:List Tk)(xs:Nat→List Int)(ws:List (List Int)):Prop:=∀k,k<T.length→¬Can M cap (ltk M (T.getD k default) (xs k)) ws
theorem rest_max(ho:Owns M T s r)(hcap:∀b,b<M.boxes.length→cap b≤cap2 b)(hx:Runs M cap T n xs ws)(hy:Runs M cap2 T m ys us)(hr:Rest M cap2 T ys us):∀k,xs k<+:ys k:=by
 induction hx with
 |nil=>intro k;exact List.nil_prefix
 | @step n j xs ws h hk hc ih=>
  intro k
  by_cases hkj:k=j
  ·subst hkj;have hcmp:=kahn ho (Runs.step h hk hc) hy k;dsimp only at hcmp⊢;rw[if_pos rfl]at hcmp⊢;refine Classical.byContradiction fun hk2=>?_
   rcases hcmp with hp|hp
   ·exact hk2 hp
   ·
    have hik:=ih k;have heq:ys k=xs k∨ys k=xs k ++[xin M (ltk M (T.getD k default) (xs k)) ws]:=by
     obtain⟨q,hq⟩:=hp;rcases List.eq_nil_or_concat q with rfl|⟨q',z,rfl⟩
     ·right;simpa using hq
     ·left
      rw[List.concat_eq_append,←Jt]at hq;obtain⟨e, -⟩:=List.append_inj' hq rfl;exact(List.IsPrefix.eq_of_length hik (by have h1:=hik.length_le;have h2:=congrArg List.length e;rw[Jl]at h2;omega)).symm
    rcases heq with he|he
    ·apply hr k hk;rw[he];have hrng:=ho.rng h k hk hc.st;refine⟨hc.st,fun o=>?_,fun o=>?_⟩
     ·obtain⟨a1,a2⟩:=hrng (.inl o);generalize ht:ltk M (T.getD k default) (xs k)=t at *;have hab:(insT M t).a=((bxOf M t:Nat):Int):=by simp only[bxOf];omega
      intro hfull;have hcb:=h.fit ho (bxOf M t) a2;have hs:=hc.send o;have f1:=h.fifo ho (bxOf M t) a2;have f2:=hy.fifo ho (bxOf M t) a2;have hks:k=s (bxOf M t):=Classical.byContradiction fun hne=>by
       have:=ho.snd (Runs.step h hk (by rw[ht];exact hc)) k hk (bxOf M t) hne;rw[if_pos rfl,lev_snoc,snd_app,ht]at this;rcases(loc1_box (M:=M) (x:=xin M t ws) hc.st).ex with⟨-,v,h1, -⟩|⟨o', -⟩|⟨o', -⟩
       ·rw[h1,if_pos hab]at this;simp at this
       ·omega
       ·omega
      rw[←hks]at f1 f2;rw[he]at f2;have hrl:=(pre_rcv (b:=bxOf M t) (pre_lev (M:=M) (t:=T.getD (r (bxOf M t)) default) (ih (r (bxOf M t))))).length_le;have l1:=congrArg List.length f1;have l2:=congrArg List.length f2;rw[Jl]at l1 l2;have:=hcap _ a2;omega
     ·obtain⟨a1,a2⟩:=hrng (.inr o);generalize ht:ltk M (T.getD k default) (xs k)=t at *;have hab:(insT M t).a=((bxOf M t:Nat):Int):=by simp only[bxOf];omega
      intro hemp;have hne:=hc.recv o;have f1:=h.fifo ho (bxOf M t) a2;have f2:=hy.fifo ho (bxOf M t) a2;have hks:k=r (bxOf M t):=Classical.byContradiction fun hne=>by
       have:=ho.rcv (Runs.step h hk (by rw[ht];exact hc)) k hk (bxOf M t) hne;rw[if_pos rfl,lev_snoc,rcv_app,ht]at this;rcases(loc1_box (M:=M) (x:=xin M t ws) hc.st).ex with⟨o', -⟩|⟨-, -,h2, -⟩|⟨-,o', -⟩
       ·omega
       ·rw[h2,if_pos hab]at this;simp at this
       ·omega
      rw[←hks]at f1 f2;rw[he]at f2;have hsl:=(pre_snd (b:=bxOf M t) (pre_lev (M:=M) (t:=T.getD (s (bxOf M t)) default) (ih (s (bxOf M t))))).length_le;have l1:=congrArg List.length f1;have l2:=congrArg List.length f2;rw[Jl]at l1 l2;omega
    ·exact hk2 (by rw[he];exact List.prefix_refl _)
  ·dsimp only;rw[if_neg hkj];exact ih k
end
theorem calls_pre:∀(l:List Ins) (out:List Int),out<+:calls l out
 |[],out=>List.prefix_refl _
 |i::l,out=>by
  rw[calls_cons];refine List.IsPrefix.trans ?_ (calls_pre l _);unfold call1
  split
  ·exact List.prefix_append _ _
  ·exact List.prefix_refl _
theorem calls_has:∀(l:List Ins) (out:List Int) (i:Ins),i∈l→i.op=23∨i.op=29→i.a∈calls l out
 |j::l,out,i,hi,ho=>by
  rw[calls_cons];rcases List.mem_cons.1 hi with rfl|hi
  ·refine(calls_pre l _).subset ?_;unfold call1
   by_cases h:i.a∈out
   ·rw[if_neg (fun h'=>h'.2 h)];exact h
   ·rw[if_pos ⟨ho,h⟩];simp
  ·exact calls_has l _ i hi ho
theorem reach_closed{M:Mdl}{N:Nat}(hc:∀k,k<N→∀i∈(M.units.getD k default).code,i.op=23∨i.op=29→0≤i.a∧i.a<(N:Int)):∀(n k:Nat) (out:List Int),Once N out→N<n+k→
  (∀j,j<k→j<out.length→∀i∈(uAt M (out.getD j 0)).code,i.op=23∨i.op=29→i.a∈out)→
  out<+:reachRun M n k out∧∀x∈reachRun M n k out,∀i∈(uAt M x).code,i.op=23∨i.op=29→i.a∈reachRun M n k out
 |n,k,out,h,hn,hcl=>by
  by_cases hk:k<out.length
  ·cases n with
   |zero=>have:=h.len;omega
   |succ n=>
    rw[reachRun_step hk];have hpre:=calls_pre (M.units.getD (out.getD k 0).toNat default).code out;have hget:∀j,j<out.length→(calls (M.units.getD (out.getD k 0).toNat default).code out).getD j 0=out.getD j 0:=fun j hj=>by
     obtain⟨x,hx⟩:=hpre;rw[←hx,Jd,List.getElem?_append_left hj,←Jd]
    have ho:Once N (calls (M.units.getD (out.getD k 0).toNat default).code out):=calls_once _ _ h (hc _ (by
     have:=h.ok (out.getD k 0) (by rw[Jd,Je hk];exact List.getElem_mem _);omega))
    obtain⟨h1,h2⟩:=reach_closed hc n (k+1) _ ho (by omega) (fun j hj hj2 i hi hop=>by
     by_cases hjk:j=k
     ·subst hjk;rw[hget j hk]at hi;exact calls_has _ _ i hi hop
     ·rw[hget j (by omega)]at hi;exact hpre.subset (hcl j (by omega) (by omega) i hi hop))
    exact⟨hpre.trans h1,h2⟩
  ·rw[reachRun_end hk];refine⟨List.prefix_refl _,fun x hx i hi hop=>?_⟩;obtain⟨j,hj,rfl⟩:=List.getElem_of_mem hx;refine hcl j (by omega) hj i ?_ hop;rw[Jd,Je hj];exact hi
def Fin(R:Int→Prop)(t:Tk):Prop:=∀c∈t.cs,∀f∈c.fr,R (f.unit:Int)
section
variable{R:Int→Prop}
theorem Fin.cur{t:Tk}(h:Fin R t):∀f∈(Vm.cur t).fr,R (f.unit:Int):=by
 intro f hf;unfold Vm.cur at hf;rw[Jd]at hf
 cases hc:t.cs[t.now]? with
 |none=>rw[hc]at hf;cases hf
 |some c=>rw[hc]at hf;exact h c (List.mem_of_getElem? hc) f hf
theorem Fin.co{t:Tk}(h:Fin R t)(k:Nat):∀f∈(t.cs.getD k default).fr,R (f.unit:Int):=by
 intro f hf;rw[Jd]at hf
 cases hc:t.cs[k]? with
 |none=>rw[hc]at hf;cases hf
 |some c=>rw[hc]at hf;exact h c (List.mem_of_getElem? hc) f hf
theorem Fin.setC{t:Tk}(h:Fin R t)(k:Nat){c:Co}(hc:∀f∈c.fr,R (f.unit:Int)):Fin R (Vm.setC t k c):=by
 intro d hd f hf;rcases List.mem_or_eq_of_mem_set hd with hd|rfl
 ·exact h d hd f hf
 ·exact hc f hf
theorem Fin.setCur{t:Tk}(h:Fin R t){c:Co}(hc:∀f∈c.fr,R (f.unit:Int)):Fin R (Vm.setCur t c):=h.setC _ hc
theorem Fin.drop{t:Tk}(h:Fin R t)(n:Nat):Fin R (Vm.drop n t):=h.setCur h.cur
theorem Fin.same{t t':Tk}(h:Fin R t)(e:t'.cs=t.cs):Fin R t':=by unfold Fin;rw[e];exact h
theorem Fin.setPc{t:Tk}(h:Fin R t)(p:Nat):Fin R (Vm.setPc p t):=by
 refine h.setCur fun f hf=>?_
 unfold setTop at hf;dsimp only at hf
 by_cases h0:(Vm.cur t).fr=[]
 ·rw[h0]at hf;cases hf
 ·rcases List.mem_or_eq_of_mem_set hf with hf|rfl
  ·exact h.cur f hf
  ·refine h.cur (topF (Vm.cur t)) ?_;unfold topF;have hl:0<(Vm.cur t).fr.length:=JP.2 h0;rw[Jd,Je (by omega)];exact List.getElem_mem _
section
variable{x:Int}{M:Mdl}
theorem trap_fin(n:Int){r:Tk×List Ev}(h:Fin R r.1):Fin R (trap (rec x) n r).1:=by
 unfold trap
 split
 ·exact h
 ·exact h.same rfl
theorem push_fin(v:Int){r:Tk×List Ev}(h:Fin R r.1):Fin R (push (rec x) v r).1:=by
 unfold push
 split
 ·exact trap_fin _ h
 ·exact h.setCur h.cur
theorem pushN_fin:∀(n:Nat) {r:Tk×List Ev},Fin R r.1→Fin R (pushN (rec x) n r).1
 |0,r,h=>h
 |n+1,r,h=>by unfold pushN;exact pushN_fin n (push_fin 0 h)
theorem fin_ite{c:Prop} [Decidable c]{a b:Tk×List Ev}(h1:Fin R a.1)(h2:Fin R b.1):Fin R (if c then a else b).1:=by split<;>assumption
theorem fin_ite1{c:Prop} [Decidable c]{a b:Tk}(h1:Fin R a)(h2:Fin R b):Fin R (if c then a else b):=by split<;>assumption
theorem loc_fin{i:Ins}{t:Tk}(h:Fin R t)(hi:i.op=23∨i.op=29→R (i.a.toNat:Int)):Fin R (loc M x i t).1:=by
 unfold loc exec;dsimp only;refine fin_ite (push_fin _ h) ?_;refine fin_ite (push_fin _ h) ?_;refine fin_ite (push_fin _ h) ?_;refine fin_ite ((h.drop 1).setCur (h.drop 1).cur) ?_;refine fin_ite (h.drop 1) ?_;refine fin_ite (push_fin _ (h.drop 1)) ?_;refine fin_ite (push_fin _ (h.drop 1)) ?_;refine fin_ite (fin_ite (trap_fin _ ((h.drop 1).drop 1)) (push_fin _ ((h.drop 1).drop 1))) ?_;refine fin_ite (h.setPc _) ?_;refine fin_ite (fin_ite1 ((h.drop 1).setPc _) (h.drop 1)) ?_;refine fin_ite (h.drop 1) ?_;refine fin_ite (push_fin _ h) ?_;refine fin_ite ((h.drop 1).same rfl) ?_
 by_cases h23:i.op=23
 ·rw[if_pos h23];unfold callU;refine fin_ite (trap_fin _ h) (pushN_fin _ (h.setCur fun f hf=>?_));rcases List.mem_append.1 hf with hf|hf
  ·exact h.cur f hf
  ·simp at hf;subst hf;exact hi (.inl h23)
 rw[if_neg h23];refine fin_ite ?_ ?_
 ·unfold ret;refine push_fin _ (h.setCur fun f hf=>h.cur f ?_);exact List.mem_of_mem_take hf
 refine fin_ite ?_ ?_
 ·unfold endU;dsimp only
  cases(Vm.cur t).up with
  |none=>
   exact Fin.same (t:=Vm.setCur t {Vm.cur t with st:=3,up:=none}) (h.setCur h.cur) rfl
  |some j=>exact push_fin _ (Fin.same (t:=Vm.setCur t {Vm.cur t with st:=3,up:=none}) (h.setCur h.cur) rfl)
 by_cases h29:i.op=29
 ·rw[if_pos h29];unfold startU;dsimp only;refine fin_ite (trap_fin _ (h.drop _)) (push_fin _ ?_);intro c hc f hf;rcases List.mem_append.1 hc with hc|hc
  ·exact h.drop _ c hc f hf
  ·simp at hc;subst hc;simp[begin]at hf;subst hf;exact hi (.inr h29)
 rw[if_neg h29];refine fin_ite ?_ ?_
 ·unfold resumeU;dsimp only;refine fin_ite (trap_fin _ ((h.drop 1).drop 1)) ?_;refine fin_ite (trap_fin _ ((h.drop 1).drop 1)) ?_;have h2:=(h.drop 1).drop 1;have h3:∀k:Nat,Fin R ({Vm.setC (Vm.drop 1 (Vm.drop 1 t)) k {((Vm.drop 1 (Vm.drop 1 t)).cs.getD k default)with st:=2,up:=some (Vm.drop 1 (Vm.drop 1 t)).now}with now:=k}:Tk):=fun k=>Fin.same (t:=Vm.setC (Vm.drop 1 (Vm.drop 1 t)) k {((Vm.drop 1 (Vm.drop 1 t)).cs.getD k default)with st:=2,up:=some (Vm.drop 1 (Vm.drop 1 t)).now}) (h2.setC k (h2.co k)) rfl
  exact fin_ite (h3 _) (push_fin _ (h3 _))
 refine fin_ite ?_ ?_
 ·unfold yieldU;dsimp only;exact push_fin _ (Fin.same (t:=Vm.setCur (Vm.drop 1 t) {Vm.cur (Vm.drop 1 t)with st:=1,up:=none}) ((h.drop 1).setCur (h.drop 1).cur) rfl)
 exact fin_ite (push_fin _ (h.drop 1)) h
end
end
def bx0(cap:Nat→Nat):Env (List (List Int)) where
 full s b:=decide ((s.getD b []).length=cap b)
 empty s b:=decide ((s.getD b []).length=0)
 put s b v:=s.set b (s.getD b [] ++[v])
 take s b:=((s.getD b []).headD 0,s.set b (s.getD b []).tail)
 tell s _:=s
theorem play_bx0(cap:Nat→Nat)(ws:List (List Int))(e:Ev):play (bx0 cap) ws e=wplay ws e:=rfl
theorem plays_bx0(cap:Nat→Nat):∀(l:List Ev) (ws:List (List Int)),l.foldl (play (bx0 cap)) ws=l.foldl wplay ws:=fun l ws=>by
 have:play (bx0 cap)=wplay:=by funext ws e;exact play_bx0 cap ws e
 rw[this]
structure WK(M:Mdl)(ws:List (List Int)):Prop where
 len:ws.length=M.boxes.length
 in64:∀b,∀v∈ws.getD b [],In64 v
 typ:∀b,b<M.boxes.length→Typed (M.boxes.getD b default).1 (ws.getD b [])
theorem head_mem{l:List Int}(h:l.length≠0):l.headD 0∈l:=by
 cases l with
 |nil=>exact absurd rfl h
 |cons a r=>exact List.mem_cons_self
theorem bx0_ok(M:Mdl)(cap:Nat→Nat):EnvOk (bx0 cap) M (WK M):=by
 refine⟨fun s b hK hb he=>?_,fun s b v hK hb _ hv ht=>?_,fun s e hK=>hK⟩
 ·have he':decide ((s.getD b []).length=0)=false:=he;rw[JY]at he';have hm:=head_mem he';refine⟨⟨by simp[bx0,hK.len],fun j v hv=>?_,fun j hj h2 v hv=>?_⟩,hK.in64 b _ hm,fun h2=>hK.typ b hb h2 _ hm⟩
  ·have hv':v∈(s.set b (s.getD b []).tail).getD j []:=hv;rw[getD_setL (by rw[hK.len];exact hb)]at hv'
   split at hv'
   ·exact hK.in64 b v (List.mem_of_mem_tail hv')
   ·exact hK.in64 j v hv'
  ·have hv':v∈(s.set b (s.getD b []).tail).getD j []:=hv;rw[getD_setL (by rw[hK.len];exact hb)]at hv'
   split at hv'
   ·rename_i e;subst e;exact hK.typ b hb h2 v (List.mem_of_mem_tail hv')
   ·exact hK.typ j hj h2 v hv'
 ·refine⟨by simp[bx0,hK.len],fun j w hw=>?_,fun j hj h2 w hw=>?_⟩
  ·have hw':w∈(s.set b (s.getD b [] ++[v])).getD j []:=hw;rw[getD_setL (by rw[hK.len];exact hb)]at hw'
   split at hw'
   ·rcases List.mem_append.1 hw' with h|h
    ·exact hK.in64 b w h
    ·simp at h;subst h;exact hv
   ·exact hK.in64 j w hw'
  ·have hw':w∈(s.set b (s.getD b [] ++[v])).getD j []:=hw;rw[getD_setL (by rw[hK.len];exact hb)]at hw'
   split at hw'
   ·rename_i e;subst e
    rcases List.mem_append.1 hw' with h|h
    ·exact hK.typ b hb h2 w h
    ·simp at h;subst h;exact ht h2
   ·exact hK.typ j hj h2 w hw'
theorem WK.nil(M:Mdl):WK M (List.replicate M.boxes.length []):=
 ⟨by simp,(fun b v hv=>by rw[getD_rep]at hv;cases hv),(fun b hb h2 v hv=>by rw[getD_rep]at hv;cases hv)⟩
def Gd(M:Mdl)(T:Nat→Int→Option Shape)(t:Tk):Prop:=t.st=5∨t.st=4∨(t.st=1∧∃ch,Ok M T t ch)
theorem nrm_st{t:Tk}(h:t.st=1∨t.st=4∨t.st=5):(nrm t).st=t.st:=by
 unfold nrm;rcases h with h|h|h
 ·rw[if_pos (by omega)];exact h.symm
 ·rw[if_neg (by omega)]
 ·rw[if_neg (by omega)]
theorem loc1_gd{M:Mdl}{T:Nat→Int→Option Shape}(hC:Certs M T){cap:Nat→Nat}{t:Tk}{ws:List (List Int)}(hg:Gd M T t)(hw:WK M ws)(hc:Can M cap t ws):
  Gd M T (loc1 M (xin M t ws) t).1∧WK M ((loc1 M (xin M t ws) t).2.foldl wplay ws):=by
 obtain⟨ch,hok⟩:∃ch,Ok M T t ch:=by
  have h1:=hc.st;rcases hg with h|h|h
  ·omega
  ·omega
  ·exact h.2
 have hwt:((insT M t).op=26→(bx0 cap).full ws (insT M t).a.toNat=false)∧((insT M t).op=27→(bx0 cap).empty ws (insT M t).a.toNat=false):=
  ⟨fun o=>decide_eq_false (hc.send o),fun o=>decide_eq_false (hc.recv o)⟩
 have hr:=exec_res hC (bx0_ok M cap) hok hw hwt;have hst:=exec_st hC (bx0_ok M cap) (insT M t) (setPc ((topF (cur t)).pc+1) t,ws);have e:=exec_pl (bx0 cap) M (xin M t ws) ws (insT M t) (mvd t) (fun o=>by unfold xin;rw[if_pos o];rfl);have e':exec (bx0 cap) M (insT M t) (setPc ((topF (cur t)).pc+1) t,ws)=pl (bx0 cap) ws (lstep M (xin M t ws) t):=e;rw[e']at hr hst;refine⟨?_,by have:=hr.2;rw[show(pl (bx0 cap) ws (lstep M (xin M t ws) t)).2=_ from plays_bx0 cap _ ws]at this;exact this⟩;have hs1:(lstep M (xin M t ws) t).1.st=t.st∨(lstep M (xin M t ws) t).1.st=5∨(lstep M (xin M t ws) t).1.st=4:=hst;rw[hc.st]at hs1;have hn:=nrm_st (t:=(lstep M (xin M t ws) t).1) (by omega);rcases hr.1 with h|h|⟨ch',h⟩
 ·exact .inl (hn.trans h)
 ·exact .inr (.inl (hn.trans h))
 ·rcases hs1 with h1|h1|h1
  ·refine .inr (.inr ⟨hn.trans h1,ch',?_⟩);show Ok M T (nrm (lstep M (xin M t ws) t).1) ch';unfold nrm;rw[if_pos (by omega)];exact h.st _ _
  ·exact .inl (hn.trans h1)
  ·exact .inr (.inl (hn.trans h1))
section
variable{M:Mdl}{T:Nat→Int→Option Shape}(hC:Certs M T){L:List Nat}(hL:∀u∈L,u<M.units.length∧(unt M u).kind=4)
include hC hL
theorem L_at{k:Nat}(hk:k<L.length):(L.map (new M)).getD k default=new M (L.getD k 0)∧L.getD k 0∈L:=by
 refine⟨?_,?_⟩
 ·rw[Jd,Jd,JU,Je hk];rfl
 ·rw[Jd,Je hk];exact List.getElem_mem _
theorem runs_good{cap:Nat→Nat}{n:Nat}{xs:Nat→List Int}{ws:List (List Int)}(h:Runs M cap (L.map (new M)) n xs ws):(∀k,k<L.length→Gd M T (ltk M ((L.map (new M)).getD k default) (xs k)))∧WK M ws:=by
 induction h with
 |nil=>
  refine⟨fun k hk=>?_,WK.nil M⟩;obtain⟨e,hm⟩:=L_at hC hL hk;obtain⟨h1,h2⟩:=hL _ hm;show Gd M T ((L.map (new M)).getD k default);rw[e];exact .inr (.inr ⟨rfl,[0],new_ok hC h1 h2⟩)
 | @step n j xs ws h hj hc ih=>
  have hj':j<L.length:=by simpa using hj
  obtain⟨h1,h2⟩:=loc1_gd hC (ih.1 j hj') ih.2 hc;refine⟨fun k hk=>?_,h2⟩
  by_cases hkj:k=j
  ·subst hkj;rw[upd_same,ltk_snoc];exact h1
  ·rw[upd_ne _ _ hkj];exact ih.1 k hk
theorem runs_fin{cap:Nat→Nat}{n:Nat}{xs:Nat→List Int}{ws:List (List Int)}(h:Runs M cap (L.map (new M)) n xs ws):∀k,k<L.length→Fin (fun x=>x∈reach M (L.getD k 0)) (ltk M ((L.map (new M)).getD k default) (xs k)):=by
 induction h with
 |nil=>
  intro k hk;obtain⟨e,hm⟩:=L_at hC hL hk;obtain⟨h1,h2⟩:=hL _ hm;show Fin _ ((L.map (new M)).getD k default);rw[e];intro c hc f hf;simp[new]at hc;subst hc;simp[begin]at hf;subst hf;exact(reach_closed (callsOk hC.form) (M.units.length+1) 0 [((L.getD k 0:Nat):Int)] (Once.one h1) (by omega) (fun j hj=>by omega)).1.subset (by simp)
 | @step n j xs ws h hj hc ih=>
  intro k hk
  by_cases hkj:k=j
  ·subst hkj;rw[upd_same,ltk_snoc];obtain⟨hg, -⟩:=runs_good hC hL h;have hgk:=hg k hk;have ihk:=ih k hk;obtain⟨-,hm⟩:=L_at hC hL hk;obtain⟨h1,h2⟩:=hL _ hm;generalize ltk M ((L.map (new M)).getD k default) (xs k)=t at *;obtain⟨ch,hok⟩:∃ch,Ok M T t ch:=by
    have h1:=hc.st;rcases hgk with h|h|h
    ·omega
    ·omega
    ·exact h.2
   obtain⟨fs0,ws0,q,p,st,hh,loc,op,a⟩:=hok.at_;obtain⟨st',h',hr⟩:=a.here hC;have hq:((q:Nat):Int)∈reach M (L.getD k 0):=ihk.cur ⟨q,p,ws0.length⟩ (by rw[a.fr];simp);have hin:insT M t∈(uAt M (q:Int)).code:=by
    have:=hr.ins;rw[←this];show(unt M q).code.getD p default∈(unt M q).code;exact Opt.mem_at hr.lt
   have hcl:=(reach_closed (callsOk hC.form) (M.units.length+1) 0 [((L.getD k 0:Nat):Int)] (Once.one h1) (by omega) (fun j hj=>by omega)).2;have hrf:Fin (fun x=>x∈reach M (L.getD k 0)) (lstep M (xin M t ws) t).1:=by
    refine loc_fin (ihk.setPc _) (fun o=>?_);have hia:=hcl _ hq (insT M t) hin o;have hge:0≤(insT M t).a:=by
     have:=(callsOk hC.form) q a.hq (insT M t) hin o;exact this.1
    rw[Jo' hge];exact hia
   show Fin _ (nrm (lstep M (xin M t ws) t).1);unfold nrm
   split
   ·exact hrf.same rfl
   ·exact hrf
  ·rw[upd_ne _ _ hkj];exact ih k hk
theorem runs_ins{cap:Nat→Nat}{n:Nat}{xs:Nat→List Int}{ws:List (List Int)}(h:Runs M cap (L.map (new M)) n xs ws){k:Nat}(hk:k<L.length)(h1:(ltk M ((L.map (new M)).getD k default) (xs k)).st=1):
  (∃x∈reach M (L.getD k 0),insT M (ltk M ((L.map (new M)).getD k default) (xs k))∈(uAt M x).code)∧∃u,InsOk M u (insT M (ltk M ((L.map (new M)).getD k default) (xs k))):=by
 obtain⟨hg, -⟩:=runs_good hC hL h;have hgk:=hg k hk;have hf:=runs_fin hC hL h k hk;generalize ltk M ((L.map (new M)).getD k default) (xs k)=t at *;obtain⟨ch,hok⟩:∃ch,Ok M T t ch:=by
  rcases hgk with h|h|h
  ·omega
  ·omega
  ·exact h.2
 obtain⟨fs0,ws0,q,p,st,hh,loc,op,a⟩:=hok.at_;obtain⟨st',h',hr⟩:=a.here hC;refine⟨⟨(q:Int),hf.cur ⟨q,p,ws0.length⟩ (by rw[a.fr];simp),?_⟩,_,hr.ok⟩;rw[←hr.ins];show(unt M q).code.getD p default∈(unt M q).code;exact Opt.mem_at hr.lt
end
theorem findIdx_lt_getD{l:List Nat}{p:Nat→Bool}{k:Nat}(hk:k<l.length)(hp:p (l.getD k 0)=true):l.findIdx p≤k:=by
 refine Nat.not_lt.1 fun h=>?_
 have:=List.not_of_lt_findIdx h;rw[Jd,Je hk]at hp;simp at hp;rw[hp]at this;cases this
theorem users_one{M:Mdl}{op b:Int}(h:users M op b≤1){j k:Nat}(hj:j<(tasks M).length)(hk:k<(tasks M).length)(uj:uses M op b ((tasks M).getD j 0)=true)(uk:uses M op b ((tasks M).getD k 0)=true):j=k:=by
 have e:users M op b=((tasks M).filter (uses M op b)).length:=by
  unfold users tasks;rw[List.filter_filter];congr 1;refine List.filter_congr (fun k _=>?_);rw[Bool.and_comm]
 rw[e]at h;refine Classical.byContradiction fun hne=>?_
 have key:∀(l:List Nat) (j k:Nat),j<k→k<l.length→uses M op b (l.getD j 0)=true→uses M op b (l.getD k 0)=true→2≤(l.filter (uses M op b)).length:=by
  intro l
  induction l with
  |nil=>intro j k _ h;simp at h
  |cons a l ih=>
   intro j k hjk hk hj hkk
   cases k with
   |zero=>omega
   |succ k=>
    cases j with
    |zero=>
     have ha:uses M op b a=true:=hj;have hm:l.getD k 0∈l.filter (uses M op b):=by
      rw[List.mem_filter];refine⟨?_,hkk⟩;have hk':k<l.length:=by simpa using hk
      rw[Jd,Je hk'];exact List.getElem_mem _
     have:=List.length_pos_of_mem hm;rw[List.filter_cons,if_pos ha,JW];omega
    |succ j=>
     have:=ih j k (by omega) (by simpa using hk) hj hkk;rw[List.filter_cons]
     split
     ·rw[JW];omega
     ·exact this
 rcases Nat.lt_or_gt_of_ne hne with h'|h'
 ·have:=key _ j k h' hk uj uk;omega
 ·have:=key _ k j h' hj uk uj;omega
def sOf(M:Mdl)(b:Nat):Nat:=(tasks M).findIdx (uses M 26 (b:Int))
def rOf(M:Mdl)(b:Nat):Nat:=(tasks M).findIdx (uses M 27 (b:Int))
theorem tasks_ok(M:Mdl):∀u∈tasks M,u<M.units.length∧(unt M u).kind=4:=fun u hu=>by
 unfold tasks at hu;rw[List.mem_filter,List.mem_range,JV]at hu;exact hu
theorem runs_uses{M:Mdl}{T:Nat→Int→Option Shape}(hC:Certs M T){cap:Nat→Nat}{n:Nat}{xs:Nat→List Int}{ws:List (List Int)}(h:Runs M cap ((tasks M).map (new M)) n xs ws):
  ∀k,k<(tasks M).length→∀b:Nat,(snd b (lev M (((tasks M).map (new M)).getD k default) (xs k))≠[]→uses M 26 (b:Int) ((tasks M).getD k 0)=true)∧(rcv b (lev M (((tasks M).map (new M)).getD k default) (xs k))≠[]→uses M 27 (b:Int) ((tasks M).getD k 0)=true):=by
 induction h with
 |nil=>intro k hk b;exact⟨fun h=>absurd rfl h,fun h=>absurd rfl h⟩
 | @step n j xs ws h hj hc ih=>
  intro k hk b
  by_cases hkj:k=j
  ·subst hkj;rw[upd_same,lev_snoc];obtain⟨ih1,ih2⟩:=ih k hk b;obtain⟨⟨x,hx,hin⟩, -⟩:=runs_ins hC (tasks_ok M) h hk hc.st;generalize ltk M (((tasks M).map (new M)).getD k default) (xs k)=t at *;have hbd:=(loc1_box (M:=M) (x:=xin M t ws) hc.st).ex;have hu:∀op:Int,(insT M t).op=op→(insT M t).a=(b:Int)→uses M op (b:Int) ((tasks M).getD k 0)=true:=fun op o ha=>by
    unfold uses;rw[List.any_eq_true];refine⟨x,hx,?_⟩;rw[List.any_eq_true];exact⟨_,hin,by simp[o,ha]⟩
   refine⟨fun hne=>?_,fun hne=>?_⟩
   ·rw[snd_app]at hne
    by_cases h0:snd b (lev M (((tasks M).map (new M)).getD k default) (xs k))=[]
    ·rw[h0,Jk]at hne;rcases hbd with⟨o,v,h1, -⟩|⟨o,h1, -⟩|⟨o, -,h1, -⟩
     ·rw[h1]at hne
      by_cases ha:(insT M t).a=(b:Int)
      ·exact hu 26 o ha
      ·rw[if_neg ha]at hne;exact absurd rfl hne
     ·rw[h1]at hne;exact absurd rfl hne
     ·rw[h1]at hne;exact absurd rfl hne
    ·exact ih1 h0
   ·rw[rcv_app]at hne
    by_cases h0:rcv b (lev M (((tasks M).map (new M)).getD k default) (xs k))=[]
    ·rw[h0,Jk]at hne;rcases hbd with⟨o,v, -,h1, -⟩|⟨o, -,h1, -⟩|⟨o, -, -,h1, -⟩
     ·rw[h1]at hne;exact absurd rfl hne
     ·rw[h1]at hne
      by_cases ha:(insT M t).a=(b:Int)
      ·exact hu 27 o ha
      ·rw[if_neg ha]at hne;exact absurd rfl hne
     ·rw[h1]at hne;exact absurd rfl hne
    ·exact ih2 h0
  ·rw[upd_ne _ _ hkj];exact ih k hk b
theorem owns_of{M:Mdl}{T:Nat→Int→Option Shape}(hC:Certs M T)(hR:Right M):Owns M ((tasks M).map (new M)) (sOf M) (rOf M):=by
 have hlen:((tasks M).map (new M)).length=(tasks M).length:=Jf _;have far:∀(op:Int) (ho:op=26∨op=27) (b k:Nat),k<(tasks M).length→uses M op (b:Int) ((tasks M).getD k 0)=true→k≠(tasks M).findIdx (uses M op (b:Int))→False:=fun op ho b k hk hu hne=>by
  have hle:=findIdx_lt_getD hk hu;have hlt:(tasks M).findIdx (uses M op (b:Int))<(tasks M).length:=by omega
  have hfu:uses M op (b:Int) ((tasks M).getD ((tasks M).findIdx (uses M op (b:Int))) 0)=true:=by
   rw[Jd,Je hlt];exact List.findIdx_getElem (w:=hlt)
  by_cases hb:b<M.boxes.length
  ·have:=hR.owned b hb;have h1:users M op (b:Int)≤1:=by rcases ho with rfl|rfl;exact this.1;exact this.2
   exact hne (users_one h1 hk hlt hu hfu)
  ·have hm:(tasks M).getD k 0∈tasks M:=by
    rw[Jd,Je hk];exact List.getElem_mem _
   have:=uses_far hR.form ho (b:=(b:Int)) (by omega) (tasks_ok M _ hm).1;rw[this]at hu;cases hu
 refine⟨fun{cap n xs ws} h k hk b hne=>?_,fun{cap n xs ws} h k hk b hne=>?_,fun{cap n xs ws} h k hk h1 ho=>?_⟩
 ·refine Classical.byContradiction fun h0=>?_
  rw[hlen]at hk;exact far 26 (.inl rfl) b k hk ((runs_uses hC h k hk b).1 h0) hne
 ·refine Classical.byContradiction fun h0=>?_
  rw[hlen]at hk;exact far 27 (.inr rfl) b k hk ((runs_uses hC h k hk b).2 h0) hne
 ·rw[hlen]at hk;obtain⟨-,u,hio⟩:=runs_ins hC (tasks_ok M) h hk h1;have:=hio.box ho;exact⟨this.1,by simp only[bxOf];omega⟩
def KB(M:Mdl)(s:Bs):Prop:=WK M s.ws
theorem bxs_ok(M:Mdl)(k:Option Nat):EnvOk (bxs M k) M (KB M):=by
 have h0:=bx0_ok M (capN M);refine⟨fun s b hK hb he=>h0.take s.ws b hK hb he,fun s b v hK hb hf hv ht=>h0.put s.ws b v hK hb hf hv ht,fun s e hK=>?_⟩
 cases k with
 |none=>exact hK
 |some k=>exact hK
structure Ma.Ok(M:Mdl)(T:Nat→Int→Option Shape)(c:Ma):Prop where
 good:∀t∈c.ts,Good M T (KB M) (t,c.bs)
 out:∀t∈c.ts,t.out.length≤2*c.n
 log:c.bs.log.length≤4*c.n
 n:c.n≤20000
theorem Good.with_{M:Mdl}{T:Nat→Int→Option Shape}{ν:Type}{K:ν→Prop}{t:Tk}{s s':ν}(h:Good M T K (t,s))(hs:K s'):Good M T K (t,s'):=⟨h.1,hs⟩
theorem Ma.Ok.init{M:Mdl}{T:Nat→Int→Option Shape}(hC:Certs M T):(Ma.init M).Ok M T:=by
 refine⟨fun t ht=>?_,fun t ht=>?_,Nat.zero_le _,Nat.zero_le _⟩
 ·obtain⟨u,hu,rfl⟩:=List.mem_map.1 ht;obtain⟨h1,h2⟩:=tasks_ok M u hu;exact⟨.inr (.inr ⟨show(1:Int)≤3 by decide,[0],new_ok hC h1 h2⟩),WK.nil M⟩
 ·obtain⟨u,hu,rfl⟩:=List.mem_map.1 ht;exact Nat.zero_le _
section
variable{M:Mdl}{T:Nat→Int→Option Shape}
theorem goN_size{k:Option Nat}:∀(n:Nat) (r:Tk×Bs),(goN (bxs M k) M n r).2.1.out.length≤r.1.out.length+2*(goN (bxs M k) M n r).1∧(goN (bxs M k) M n r).2.2.log.length≤r.2.log.length+4*(goN (bxs M k) M n r).1
 |0,r=>by simp[goN]
 |n+1,r=>by
  have hsz:=step_size (M:=M) (V:=bxs M k) (sz:=fun s:Bs=>s.log.length) (fun v b x=>Nat.le_succ _) (fun v b=>Nat.le_succ _) (fun v x=>by
   cases k with
   |none=>exact Nat.le_succ _
   |some k=>show(v.log ++[(k,x)]).length≤v.log.length+1;simp) r
  have ho:=step_outLen (V:=bxs M k) (M:=M) r;obtain⟨h1,h2⟩:=goN_size (k:=k) n (step (bxs M k) M r).2;unfold goN
  by_cases hs:(step (bxs M k) M r).1=true
  ·rw[if_pos hs];dsimp only at hsz⊢;omega
  ·rw[if_neg hs];have hn:(look (bxs M k) M r).1.st≠1:=fun h=>by rw[step_yes _ M h]at hs;exact hs rfl
   rw[step_no _ M hn,look_snd,(look_out _ M r).1];dsimp only;omega
structure Pkd(M:Mdl)(T:Nat→Int→Option Shape)(n:Nat)(r:Tk×Bs)(p:(Int×Nat)×(Tk×Bs)):Prop where
 good:Good M T (KB M) p.2
 out:p.2.1.out.length≤r.1.out.length+2*p.1.2
 log:p.2.2.log.length≤r.2.log.length+4*p.1.2
 n:n+p.1.2≤20000
theorem pick1_ok(hC:Certs M T){k:Option Nat}{n:Nat}{q:Int}{r:Tk×Bs}(hn:n≤20000)(h:Good M T (KB M) r):Pkd M T n r (pick1 (bxs M k) M n q r):=by
 unfold pick1
 by_cases h1:q<1∨10000<q
 ·rw[if_pos h1];exact⟨h,Nat.le_refl _,Nat.le_refl _,hn⟩
 rw[if_neg h1]
 by_cases h2:(look (bxs M k) M r).1.st≠1
 ·rw[if_pos h2];exact⟨look_good h,by rw[(look_out _ M r).1];exact Nat.le_refl _,by rw[look_snd];exact Nat.le_refl _,hn⟩
 rw[if_neg h2];have hg:=goN_good hC (bxs_ok M k) (min q.toNat (20000-n)) (look_good (V:=bxs M k) h);have hsz:=goN_size (M:=M) (k:=k) (min q.toNat (20000-n)) (look (bxs M k) M r);have hle:=goN_le (V:=bxs M k) (M:=M) (min q.toNat (20000-n)) (look (bxs M k) M r);rw[(look_out _ M r).1,look_snd]at hsz;generalize goN (bxs M k) M (min q.toNat (20000-n)) (look (bxs M k) M r)=g at *;have e:(if g.1=0 then((10:Int),0)else(0,g.1)).2=g.1:=by
  split
  ·rename_i h;exact h.symm
  ·rfl
 refine⟨hg,?_,?_,?_⟩
 ·dsimp only;rw[e];exact hsz.1
 ·dsimp only;rw[e];exact hsz.2
 ·dsimp only;rw[e];omega
theorem Ma.Ok.at_{c:Ma}(h:c.Ok M T){k:Nat}(hk:k<c.ts.length):c.ts.getD k default∈c.ts:=by
 rw[Jd,Je hk];exact List.getElem_mem _
theorem Ma.Ok.put{c:Ma}(h:c.Ok M T){k:Nat}(hk:k<c.ts.length){p:(Int×Nat)×(Tk×Bs)}(hp:Pkd M T c.n (c.at_ k) p):(⟨c.ts.set k p.2.1,p.2.2,c.n+p.1.2⟩:Ma).Ok M T:=by
 refine⟨fun t ht=>?_,fun t ht=>?_,?_,hp.n⟩
 ·rcases List.mem_or_eq_of_mem_set ht with ht|rfl
  ·exact(h.good t ht).with_ hp.good.2
  ·exact hp.good
 ·rcases List.mem_or_eq_of_mem_set ht with ht|rfl
  ·have:=h.out t ht;dsimp only;omega
  ·have h1:=hp.out;have h2:=h.out _ (h.at_ hk);have h3:(c.at_ k).1.out.length≤2*c.n:=h2;dsimp only;omega
 ·have h1:=hp.log;have h2:=h.log;have h3:(c.at_ k).2.log.length≤4*c.n:=h2;dsimp only;omega
theorem Ma.Ok.pick(hC:Certs M T){c:Ma}(h:c.Ok M T)(told:Bool)(p:Int×Int):(Vm.pick M told c p).2.Ok M T:=by
 unfold Vm.pick
 by_cases h1:p.1<0∨(c.ts.length:Int)≤p.1
 ·rw[if_pos h1];exact h
 ·rw[if_neg h1];have hk:p.1.toNat<c.ts.length:=by omega
  exact h.put hk (pick1_ok hC h.n (h.good _ (h.at_ hk)))
theorem Ma.Ok.looked{c:Ma}(h:c.Ok M T):(c.looked M).Ok M T:=by
 refine⟨fun t ht=>?_,fun t ht=>?_,h.log,h.n⟩
 ·obtain⟨t0,h0,rfl⟩:=List.mem_map.1 ht;have:=look_good (V:=bxs M none) (h.good t0 h0);have e:look (bxs M none) M (t0,c.bs)=((look (bxs M none) M (t0,c.bs)).1,c.bs):=Prod.ext rfl (look_snd _ M _);rw[e]at this;exact this
 ·obtain⟨t0,h0,rfl⟩:=List.mem_map.1 ht;rw[(look_out _ M _).1];exact h.out t0 h0
end
end Go.Proofs.YtjehflelkpacfaaGreat.Vm
namespace Go.Proofs.YtjehflelkpacfaaGreat.Vm
open ImgM
variable{M:Mdl}{told:Bool}
structure Cnt(n:Nat)(q:Int)(e:Int×Nat)(n':Nat):Prop where
 sum:n'=n+e.2
 ok:e.1=0→1≤e.2∧(e.2:Int)≤q
 no:e.1≠0→e.2=0
theorem pick_cnt(c:Ma)(p:Int×Int):Cnt c.n p.2 (pick M told c p).1 (pick M told c p).2.n:=by
 unfold pick
 by_cases h1:p.1<0∨(c.ts.length:Int)≤p.1
 ·rw[if_pos h1];exact⟨rfl,(fun h=>by cases h),fun _=>rfl⟩
 ·rw[if_neg h1];refine⟨rfl,?_,?_⟩
  all_goals
   dsimp only;unfold pick1
   by_cases h2:p.2<1∨10000<p.2
   ·rw[if_pos h2];simp
   rw[if_neg h2]
   by_cases h3:(look (bxs M (tOf told p.1.toNat)) M (c.at_ p.1.toNat)).1.st≠1
   ·rw[if_pos h3];simp
   rw[if_neg h3];have hle:=goN_le (V:=bxs M (tOf told p.1.toNat)) (M:=M) (min p.2.toNat (20000-c.n)) (look (bxs M (tOf told p.1.toNat)) M (c.at_ p.1.toNat))
   by_cases h4:(goN (bxs M (tOf told p.1.toNat)) M (min p.2.toNat (20000-c.n)) (look (bxs M (tOf told p.1.toNat)) M (c.at_ p.1.toNat))).1=0
   ·rw[if_pos h4];simp
   ·rw[if_neg h4];dsimp only;intro h;omega
structure Rel(c c':Ma):Prop where
 bs:c.bs=c'.bs
 n:c.n=c'.n
 len:c.ts.length=c'.ts.length
 ts:∀k,k<c.ts.length→Alk (c.ts.getD k default) (c'.ts.getD k default)
theorem look_back{ν:Type}(V:Env ν)(r:Tk×ν):Alk (look V M r).1 r.1:=by
 have key:r.1.st≤3→∀a b:Int,a≤3→Alk {r.1 with st:=a,bx:=b} r.1:=fun h a b ha=> .inr ⟨ha,r.1.st,r.1.bx,h,rfl⟩
 unfold look waits
 by_cases h3:r.1.st≤3
 ·rw[if_pos h3]
  split
  ·exact key h3 _ _ (by decide)
  ·split
   ·exact key h3 _ _ (by decide)
   ·exact key h3 _ _ (by decide)
 ·rw[if_neg h3];exact .inl rfl
theorem getD_set{l:List Tk}{j k:Nat}{t:Tk}(hj:j<l.length):(l.set j t).getD k default=if j=k then t else l.getD k default:=by
 simp only[Jd,List.getElem?_set]
 by_cases h:j=k
 ·subst h;rw[if_pos rfl,if_pos hj,if_pos rfl];rfl
 ·rw[if_neg h,if_neg h]
end Go.Proofs.YtjehflelkpacfaaGreat.Vm
