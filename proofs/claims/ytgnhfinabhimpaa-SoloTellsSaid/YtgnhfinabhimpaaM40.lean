/- How a module is read as an argument, of whatever bulk. -/
import Derived.Test.YtgnhfinabhimpaaM39
import Derived.Test.YtgnhfinabhimpaaRows
import Derived.Deep.Strs
import Derived.ChangeSame
import Derived.Lib.SmallJoins
set_option linter.unusedVariables false
set_option linter.unusedSimpArgs false
set_option linter.unusedSectionVars false
set_option maxRecDepth 100000
namespace Go.Proofs.Ytgnhfinabhimpaa
open Go.RowKit Go.ChangeShapes Go.WideShapes Go.ChangeAt
section
variable{H:Type}{enc:TypeId×Value→H}{P:Program}{w:World}
theorem bulk_one(d:DataW H):1≤Rows.uptoBulk d:=by
 cases d with
 |lit l=>cases l<;>simp[Rows.uptoBulk]
 |nil=>simp[Rows.uptoBulk]
 |ptr d=>simp[Rows.uptoBulk]
 |slice elems spare=>simp[Rows.uptoBulk]
 |agg parts=>simp[Rows.uptoBulk]
 |iface t d=>simp[Rows.uptoBulk]
 |map entries=>simp[Rows.uptoBulk]
 |held h=>simp[Rows.uptoBulk]
theorem bulk_sum(D:Nat→DataW H)(c:Nat→Nat)(n:Nat)(h:∀i,i<n→c i≤Rows.uptoBulk (D i)):((List.range n).map c).sum≤Rows.uptoBulkAll ((List.range n).map D):=by
 have key:∀(l:List Nat),(∀i∈l,c i≤Rows.uptoBulk (D i))→(l.map c).sum≤Rows.uptoBulkAll (l.map D):=by
  intro l
  induction l with
  |nil=>intro _;simp[Rows.uptoBulkAll]
  |cons a r ih=>
   intro hl;have h1:=hl a (by simp);have h2:=ih (fun i hi=>hl i (by simp[hi]));simp only[List.map_cons,List.sum_cons,Rows.uptoBulkAll];omega
 exact key _ (fun i hi=>h i (by simpa using hi))
theorem read_sliceU{α:Type} [Inhabited α]{t e:TypeId}{size:Nat}(f:α→List Value)(Q:α→Prop)(c:α→Nat)(ht:P.underlying t=some (.slice e))(hc:P.cellsOf e=size)(hs:0<size)
  (hel:∀fuel cs x,Trd enc P w fuel e cs x→cs.length=size→∃a,cs=f a∧Q a∧c a≤Rows.uptoBulk x.1)
  {fuel:Nat} {cs:List Value} {x:DataW H×List MemPlace} (h:Trd enc P w fuel t cs x):
  ∃(v:Value) (l:List α),cs=[v]∧Row w v size l.length (l.flatMap f)∧(∀a∈l,Q a)∧(l.map c).sum+1≤Rows.uptoBulk x.1:=by
 rcases Deep.open_slice ht h with⟨rfl,rfl⟩|⟨a,len,cap,m,n,D,Pl,rfl,hb,hl,hm,hmm,rfl,hx⟩
 ·exact⟨_,[],rfl,⟨by simp,Nat.zero_le _,none,0,rfl,Nat.le_refl _,fun h=>by simp at h⟩,by simp,by simp[Rows.uptoBulk]⟩
 ·simp only[if_true]at hmm;subst hmm;have hel':∀i,i<len→∃y:α,(∀j,j<size→w.cell? (a.add (i*size+j))=(f y)[j]?)∧(f y).length=size∧Q y∧c y≤Rows.uptoBulk (D i):=by
   intro i hi;obtain⟨cs',h1,h2⟩:=hx i (by omega);rw[hc]at h1;obtain⟨-,h3,h4⟩:=World.cells?_some h1;obtain⟨y,rfl,hq,hcy⟩:=hel n cs' (D i,Pl i) h2 h3;refine⟨y,fun j hj=>?_,h3,hq,hcy⟩;rw[←Deep.add_add];exact h4 j hj
  obtain⟨F,hF⟩:=Deep.choose_lt hel';refine⟨_,(List.range len).map F,rfl,?_,?_,?_⟩
  ·have hlen:∀m,m≤len→(((List.range m).map F).flatMap f).length=m*size:=by
    intro m hm
    induction m with
    |zero=>simp
    |succ m ih=>
     rw[List.range_succ,List.map_append,List.flatMap_append,List.length_append,ih (by omega)];simp[(hF m (by omega)).2.1,Nat.add_mul]
   have hget:∀m,m≤len→∀j,j<m*size→w.cell? (a.add j)=(((List.range m).map F).flatMap f)[j]?:=by
    intro m hm
    induction m with
    |zero=>intro j hj;simp at hj
    |succ m ih=>
     intro j hj;rw[List.range_succ,List.map_append,List.flatMap_append]
     by_cases hjm:j<m*size
     ·rw[List.getElem?_append_left (by rw[hlen m (by omega)];exact hjm)];exact ih (by omega) j hjm
     ·rw[List.getElem?_append_right (by rw[hlen m (by omega)];omega),hlen m (by omega)];have:=(hF m (by omega)).1 (j-m*size) (by rw[Nat.add_mul]at hj;omega);rw[show m*size+(j-m*size)=j by omega]at this;simpa using this
   refine⟨by simp only[List.length_map,List.length_range];exact hlen len (Nat.le_refl _),by simp;omega,some a,m,by simp,by simpa using hl,fun hpos=>?_⟩;simp only[List.length_map,List.length_range]at hpos⊢;have h0:=hget len (Nat.le_refl _) 0 (Nat.mul_pos hpos hs);have hsome:(w.cell? (a.add 0)).isSome=true:=by
    rw[h0,List.getElem?_eq_getElem (by rw[hlen len (Nat.le_refl _)];exact Nat.mul_pos hpos hs)];rfl
   obtain⟨b,off,spot⟩:=a;have hspot:spot=none:=by
    cases spot with
    |none=>rfl
    |some s=>
     unfold World.cell? Addr.add at hsome
     split at hsome<;>simp_all
   subst hspot;exact⟨b,off,rfl,fun j hj=>by rw[←Addr.add_lit];exact hget len (Nat.le_refl _) j hj⟩
  ·intro y hy;obtain⟨i,hi,rfl⟩:=List.mem_map.1 hy;exact(hF i (by simpa using hi)).2.2.1
  ·have:=bulk_sum D (fun i=>c (F i)) len (fun i hi=>(hF i hi).2.2.2);simp only[Rows.uptoBulk,List.map_map];have e:(List.map (c∘F) (List.range len))=List.map (fun i=>c (F i)) (List.range len):=rfl;rw[e];omega
theorem el_i64U{e:TypeId}(he:P.underlying e=some (.int .i64)):∀fuel cs (x:DataW H×List MemPlace),Trd enc P w fuel e cs x→cs.length=1→∃n:Int,cs=[.int .i64 n]∧ImgM.In64 n∧1≤Rows.uptoBulk x.1:=by
 intro fuel cs x h _;obtain⟨n,rfl,_,hw⟩:=DataW.trod_int he h;exact⟨n,rfl,wf_i64 hw,bulk_one _⟩
theorem trod_struct6{t:TypeId}{f0 f1 f2 f3 f4 f5:Field}{fuel:Nat}{cs:List Value}{x:DataW H×List MemPlace}(ht:P.underlying t=some (.struct #[f0,f1,f2,f3,f4,f5]))(h:Trd enc P w fuel t cs x):
  ∃y0 y1 y2 y3 y4 y5 n,x.1= .agg [y0.1,y1.1,y2.1,y3.1,y4.1,y5.1]∧cs.length=P.cellsOf t∧Trd enc P w n f0.type ((cs.drop f0.offset).take (P.cellsOf f0.type)) y0∧
   Trd enc P w n f1.type ((cs.drop f1.offset).take (P.cellsOf f1.type)) y1∧Trd enc P w n f2.type ((cs.drop f2.offset).take (P.cellsOf f2.type)) y2∧Trd enc P w n f3.type ((cs.drop f3.offset).take (P.cellsOf f3.type)) y3∧
   Trd enc P w n f4.type ((cs.drop f4.offset).take (P.cellsOf f4.type)) y4∧Trd enc P w n f5.type ((cs.drop f5.offset).take (P.cellsOf f5.type)) y5:=by
 obtain⟨xs,n,_,rfl,hl,hlen,hf⟩:=DataW.trod_struct ht h
 match xs,hlen with
 |[y0,y1,y2,y3,y4,y5],_=>exact⟨y0,y1,y2,y3,y4,y5,n,by simp,hl,by simpa using hf 0 f0 rfl,by simpa using hf 1 f1 rfl,by simpa using hf 2 f2 rfl,by simpa using hf 3 f3 rfl,by simpa using hf 4 f4 rfl,by simpa using hf 5 f5 rfl⟩
end
section
variable{H:Type}{enc:TypeId×Value→H}{w:World}
open Img
theorem cells_int:Try.prog.cellsOf 3=1:=by kernel_rfl
theorem cells_i64:Try.prog.cellsOf 2=1:=by kernel_rfl
theorem cells_ints:Try.prog.cellsOf 28=1:=by kernel_rfl
theorem cells_code:Try.prog.cellsOf 29=1:=by kernel_rfl
theorem cells_ins:Try.prog.cellsOf 49=3:=by kernel_rfl
theorem cells_box:Try.prog.cellsOf 37=2:=by kernel_rfl
theorem cells_unt:Try.prog.cellsOf 31=6:=by kernel_rfl
theorem cells_mod:Try.prog.cellsOf 25=2:=by kernel_rfl
theorem el_box:∀fuel cs (x:DataW H×List MemPlace),Trd enc Try.prog w fuel 37 cs x→cs.length=2→∃b:Int×Int,cs=boxC b∧(ImgM.In64 b.1∧ImgM.In64 b.2)∧2≤Rows.uptoBulk x.1:=by
 intro fuel cs x h hlen;obtain⟨y0,y1,n,rfl,_,hy0,hy1⟩:=trod_struct2 Try.underlying37 h
 match cs,hlen with
 |[c0,c1],_=>
  have e0:([c0,c1].drop 0).take (Try.prog.cellsOf 3)=[c0]:=by rw[cells_int];rfl
  have e1:([c0,c1].drop 1).take (Try.prog.cellsOf 3)=[c1]:=by rw[cells_int];rfl
  simp only[e0,e1]at hy0 hy1;obtain⟨a,ha,wa,ba⟩:=el_i64U Try.underlying3 _ _ _ hy0 rfl;obtain⟨b,hb,wb,bb⟩:=el_i64U Try.underlying3 _ _ _ hy1 rfl;simp at ha hb;exact⟨(a,b),by rw[ha,hb];rfl,⟨wa,wb⟩,by simp only[Rows.uptoBulk,Rows.uptoBulkAll];omega⟩
theorem el_ins:∀fuel cs (x:DataW H×List MemPlace),Trd enc Try.prog w fuel 49 cs x→cs.length=3→∃i:ImgM.Ins,cs=insC i∧(ImgM.In64 i.op∧ImgM.In64 i.a∧ImgM.In64 i.n)∧3≤Rows.uptoBulk x.1:=by
 intro fuel cs x h hlen;obtain⟨y0,y1,y2,n,rfl,_,hy0,hy1,hy2⟩:=Go.Deep.trod_struct3 Try.underlying49 h
 match cs,hlen with
 |[c0,c1,c2],_=>
  have e0:([c0,c1,c2].drop 0).take (Try.prog.cellsOf 3)=[c0]:=by rw[cells_int];rfl
  have e1:([c0,c1,c2].drop 1).take (Try.prog.cellsOf 3)=[c1]:=by rw[cells_int];rfl
  have e2:([c0,c1,c2].drop 2).take (Try.prog.cellsOf 2)=[c2]:=by rw[cells_i64];rfl
  simp only[e0,e1,e2]at hy0 hy1 hy2;obtain⟨a,ha,wa,ba⟩:=el_i64U Try.underlying3 _ _ _ hy0 rfl;obtain⟨b,hb,wb,bb⟩:=el_i64U Try.underlying3 _ _ _ hy1 rfl;obtain⟨c,hc,wc,bc⟩:=el_i64U Try.underlying2 _ _ _ hy2 rfl;simp at ha hb hc;exact⟨⟨a,b,c⟩,by rw[ha,hb,hc];rfl,⟨wa,wb,wc⟩,by simp only[Rows.uptoBulk,Rows.uptoBulkAll];omega⟩
def UcIs(w:World)(x:UC):Prop:=
 Row w (.slice x.lo x.u.locals.length x.lc) (sz i64c) x.u.locals.length (x.u.locals.flatMap i64c)∧Row w (.slice x.co x.u.code.length x.cc) (sz insC) x.u.code.length (x.u.code.flatMap insC)∧UWf x.u
theorem el_uc:∀fuel cs (x:DataW H×List MemPlace),Trd enc Try.prog w fuel 31 cs x→cs.length=6→∃y:UC,cs=ucell y∧UcIs w y∧0≤Rows.uptoBulk x.1:=by
 intro fuel cs x h hlen;obtain⟨y0,y1,y2,y3,y4,y5,n,hx,_,hy0,hy1,hy2,hy3,hy4,hy5⟩:=trod_struct6 Try.underlying31 h
 match cs,hlen with
 |[c0,c1,c2,c3,c4,c5],_=>
  have e0:([c0,c1,c2,c3,c4,c5].drop 0).take (Try.prog.cellsOf 3)=[c0]:=by rw[cells_int];rfl
  have e1:([c0,c1,c2,c3,c4,c5].drop 1).take (Try.prog.cellsOf 3)=[c1]:=by rw[cells_int];rfl
  have e2:([c0,c1,c2,c3,c4,c5].drop 2).take (Try.prog.cellsOf 28)=[c2]:=by rw[cells_ints];rfl
  have e3:([c0,c1,c2,c3,c4,c5].drop 3).take (Try.prog.cellsOf 3)=[c3]:=by rw[cells_int];rfl
  have e4:([c0,c1,c2,c3,c4,c5].drop 4).take (Try.prog.cellsOf 3)=[c4]:=by rw[cells_int];rfl
  have e5:([c0,c1,c2,c3,c4,c5].drop 5).take (Try.prog.cellsOf 29)=[c5]:=by rw[cells_code];rfl
  simp only[e0,e1,e2,e3,e4,e5]at hy0 hy1 hy2 hy3 hy4 hy5;obtain⟨a,ha,wa,ba⟩:=el_i64U Try.underlying3 _ _ _ hy0 rfl;obtain⟨b,hb,wb,bb⟩:=el_i64U Try.underlying3 _ _ _ hy1 rfl;obtain⟨c,hc,wc,bc⟩:=el_i64U Try.underlying3 _ _ _ hy3 rfl;obtain⟨d,hd,wd,bd⟩:=el_i64U Try.underlying3 _ _ _ hy4 rfl;obtain⟨lv,ls,hlv,hl1,hl2,hl3⟩:=read_sliceU i64c ImgM.In64 (fun _=>1) Try.underlying28 cells_int (by decide) (el_i64U Try.underlying3) hy2;obtain⟨cv,is,hcv,hc1,hc2,hc3⟩:=read_sliceU insC _ (fun _=>3) Try.underlying29 cells_ins (by decide) el_ins hy5;simp only[List.cons.injEq,and_true]at ha hb hc hd hlv hcv;subst ha hb hc hd hlv hcv;obtain⟨-, -,lo,lc,rfl, -⟩:=id hl1;obtain⟨-, -,co,cc,rfl, -⟩:=id hc1;exact⟨⟨⟨a,b,ls,c,d,is⟩,lo,lc,co,cc⟩,rfl,⟨hl1,hc1,⟨wa,wb,hl2,wc,wd,hc2⟩⟩,Nat.zero_le _⟩
theorem read_md{base:Nat}{v:Value}(hok:Value.okWide Try.prog w .any base 25 v){d:DataW H}{p:List MemPlace}(h:DataW.Trod enc Try.prog w 0 (fun _=>true) true 25 v d p):
  ∃m:ML,v=m.val∧MdAt w m∧m.Wf:=by
 obtain⟨c0,c1,y0,y1,k,rfl,rfl,rfl,hy0,hy1⟩:=Go.Joins.open_agg2 Try.underlying25 (by kernel_rfl) cells_mod hok h;obtain⟨bv,bs,hbv,hb1,hb2,hb3⟩:=read_sliceU boxC _ (fun _=>2) Try.underlying22 cells_box (by decide) el_box hy0;obtain⟨uv,us,huv,hu1,hu2,hu3⟩:=read_sliceU ucell (UcIs w) (fun _=>0) Try.underlying23 cells_unt (by decide) el_uc hy1;simp only[List.cons.injEq,and_true]at hbv huv;subst hbv huv;obtain⟨-, -,bo,bc,rfl, -⟩:=id hb1;obtain⟨-, -,uo,uc,rfl, -⟩:=id hu1;exact⟨⟨bs,bo,bc,us,uo,uc⟩,rfl,⟨hb1,hu1,fun x hx=>(hu2 x hx).1,fun x hx=>(hu2 x hx).2.1⟩,⟨hb2,fun x hx=>(hu2 x hx).2.2⟩⟩
end
section
variable{H:Type}{enc:TypeId×Value→H}{P:Program}{w:World}{base:Nat}{spare:Nat→Bool}{held:Bool}
end
section
variable{H:Type}{enc:TypeId×Value→H}{w:World}
theorem cells_rows:Try.prog.cellsOf 38=1:=by kernel_rfl
def RwIs(w:World)(r:Rw):Prop:=Row w (.slice r.o r.l.length r.c) (sz i64c) r.l.length (r.l.flatMap i64c)∧∀v∈r.l,ImgM.In64 v
theorem el_row:∀fuel cs (x:DataW H×List MemPlace),Trd enc Try.prog w fuel 38 cs x→cs.length=1→∃r:Rw,cs=rwC r∧RwIs w r∧0≤Rows.uptoBulk x.1:=by
 intro fuel cs x h hlen;obtain⟨v,l,hv,h1,h2,h3⟩:=read_sliceU i64c ImgM.In64 (fun _=>1) Try.underlying38 cells_i64 (by decide) (el_i64U Try.underlying2) h;obtain⟨-, -,ao,cap,rfl, -⟩:=id h1;exact⟨⟨ao,cap,l⟩,hv,⟨h1,h2⟩,Nat.zero_le _⟩
theorem read_fd{base:Nat}{v:Value}(hok:Value.okWide Try.prog w .any base 26 v){d:DataW H}{p:List MemPlace}(h:DataW.Trod enc Try.prog w 0 (fun _=>true) true 26 v d p):
  ∃f:FL,v=f.val∧FdAt w f∧∀l∈f.ws,∀v∈l,ImgM.In64 v:=by
 obtain⟨fuel,h⟩:=h;obtain⟨v',l,hv,h1,h2, -⟩:=read_sliceU rwC (RwIs w) (fun _=>0) Try.underlying26 cells_rows (by decide) el_row h;obtain⟨a,n,c,rfl⟩:=okWide_slice Try.underlying26 hok;have e:Value.slice a n c=v':=by simpa[Value.cells]using hv
 obtain⟨-, -,ao,cap,rfl, -⟩:=id h1;refine⟨⟨ao,cap,l⟩,e,⟨h1,fun r hr=>(h2 r hr).1⟩,fun x hx y hy=>?_⟩;obtain⟨r,hr,rfl⟩:=List.mem_map.1 hx;exact(h2 r hr).2 y hy
end
end Go.Proofs.Ytgnhfinabhimpaa
